/- The points of a result, in plain integers. No program stands in this text. -/
import Derived.Test.YtgfnggdjjigomaaDoorBase
namespace Go.Proofs.YtgfnggdjjigomaaDoor
open Go.RowKit

/-- The value of a trick of a denomination. -/
def valI (d : Int) : Int := if d < 2 then 20 else 30
def facI (r : Int) : Int := if r = 0 then 1 else if r = 1 then 2 else 4
def insI (r : Int) : Int := 50 * r
def moreI (r : Int) (v : Bool) : Int := if v = true then 200 * r else 100 * r
/-- A contract is right. -/
def rightC (l d r s : Int) : Bool := decide ((l = 0 ∧ d = 0 ∧ r = 0 ∧ s = 0) ∨ (1 ≤ l ∧ l ≤ 7 ∧ d ≤ 4 ∧ r ≤ 2 ∧ s ≤ 3))
def needC (l d r s : Int) : Int := if rightC l d r s = true ∧ l ≠ 0 then 6 + l else 0
/-- A contract and tricks are a result. -/
def resultC (l d r s t : Int) : Bool := decide (rightC l d r s = true ∧ 0 ≤ t ∧ t ≤ 13 ∧ (0 < l ∨ t = 0))
def trickV (l d r : Int) : Int := (l * valI d + if d = 4 then 10 else 0) * facI r
def bonusI (p l : Int) (v : Bool) : Int := (if 100 ≤ p then (if v = true then 500 else 300) else 50) + (if l = 6 then (if v = true then 750 else 500) else if l = 7 then (if v = true then 1500 else 1000) else 0)
def eachI (d r : Int) (v : Bool) : Int := if 0 < r then moreI r v else valI d
def madeI (l d r over : Int) (v : Bool) : Int := trickV l d r + bonusI (trickV l d r) l v + insI r + over * eachI d r v
def trickI (r i : Int) (v : Bool) : Int := if r = 0 then (if v = true then 100 else 50) else if i = 0 then (if v = true then 200 else 100) else if i < 3 then (if v = true then 300 else 200) else 300
def sumT (r : Int) (v : Bool) : Nat → Int
  | 0 => 0
  | n + 1 => sumT r v n + trickI r n v
def missI (r : Int) (n : Nat) (v : Bool) : Int := if r = 2 then sumT r v n * 2 else sumT r v n
/-- The points of a result for the declarer's side. -/
def ptsI (l d r t : Int) (v : Bool) : Int := if l = 0 then 0 else if t < 6 + l then - missI r (6 + l - t).toNat v else madeI l d r (t - (6 + l)) v
def vulB (vul seat : Int) : Bool := decide (vul ≤ 3 ∧ seat ≤ 3 ∧ (if seat % 2 = 0 then vul % 2 else vul / 2 % 2) ≠ 0)
/-- The points of a result for North and South. -/
def scoreI (l d r s t vul : Int) : Int := if s % 2 = 1 then - ptsI l d r t (vulB vul s) else ptsI l d r t (vulB vul s)

theorem trickI_bd (r i : Int) (v : Bool) : 50 ≤ trickI r i v ∧ trickI r i v ≤ 300 := by unfold trickI; constructor <;> (repeat' split) <;> omega
theorem sumT_bd (r : Int) (v : Bool) (n : Nat) : 50 * (n : Int) ≤ sumT r v n ∧ sumT r v n ≤ 300 * n := by
  induction n with
  | zero => exact ⟨by simp [sumT], by simp [sumT]⟩
  | succ n ih => have := trickI_bd r n v; unfold sumT; omega
theorem missI_bd (r : Int) (v : Bool) (n : Nat) : 50 * (n : Int) ≤ missI r n v ∧ missI r n v ≤ 600 * n := by
  have := sumT_bd r v n
  unfold missI; split <;> omega
theorem valI_bd (d : Int) : valI d = 20 ∨ valI d = 30 := by unfold valI; split <;> simp
theorem facI_bd (r : Int) : facI r = 1 ∨ facI r = 2 ∨ facI r = 4 := by unfold facI; (repeat' split) <;> simp
theorem base_bd (l d : Int) (hl : 1 ≤ l ∧ l ≤ 7) : 20 ≤ l * valI d + (if d = 4 then 10 else 0) ∧ l * valI d + (if d = 4 then 10 else 0) ≤ 220 := by
  rcases valI_bd d with h | h <;> rw [h] <;> split <;> omega
theorem trickV_bd (l d r : Int) (hl : 1 ≤ l ∧ l ≤ 7) : 20 ≤ trickV l d r ∧ trickV l d r ≤ 880 := by
  have := base_bd l d hl
  unfold trickV
  rcases facI_bd r with h | h | h <;> rw [h] <;> omega
theorem bonusI_bd (p l : Int) (v : Bool) : 50 ≤ bonusI p l v ∧ bonusI p l v ≤ 2000 := by unfold bonusI; constructor <;> (repeat' split) <;> omega
theorem eachI_bd (d r : Int) (v : Bool) (hr : 0 ≤ r ∧ r ≤ 2) : 0 ≤ eachI d r v ∧ eachI d r v ≤ 400 := by
  have := valI_bd d
  unfold eachI moreI; constructor <;> (repeat' split) <;> omega
theorem madeI_bd (l d r over : Int) (v : Bool) (hl : 1 ≤ l ∧ l ≤ 7) (hr : 0 ≤ r ∧ r ≤ 2) (ho : 0 ≤ over ∧ over ≤ 6) : 70 ≤ madeI l d r over v ∧ madeI l d r over v ≤ 6000 := by
  have h1 := trickV_bd l d r hl
  have h2 := bonusI_bd (trickV l d r) l v
  have h3 := eachI_bd d r v hr
  have h4 : 0 ≤ over * eachI d r v := Int.mul_nonneg ho.1 h3.1
  have h5 : over * eachI d r v ≤ 6 * 400 := Int.mul_le_mul ho.2 h3.2 h3.1 (by omega)
  unfold madeI insI; omega
/-- The points are above 0 just if the contract is made. -/
theorem ptsI_bd (l d r t : Int) (v : Bool) (hl : 1 ≤ l ∧ l ≤ 7) (hr : 0 ≤ r ∧ r ≤ 2) (ht : 0 ≤ t ∧ t ≤ 13) :
    (6 + l ≤ t → 70 ≤ ptsI l d r t v ∧ ptsI l d r t v ≤ 6000) ∧ (t < 6 + l → -7800 ≤ ptsI l d r t v ∧ ptsI l d r t v ≤ -50) := by
  unfold ptsI
  rw [if_neg (by omega)]
  constructor
  · intro h
    rw [if_neg (by omega)]
    exact madeI_bd _ _ _ _ _ hl hr (by omega)
  · intro h
    rw [if_pos h]
    have := missI_bd r v (6 + l - t).toNat
    omega
theorem ptsI_small (l d r s t : Int) (v : Bool) (h : resultC l d r s t = true) (h0 : 0 ≤ l ∧ 0 ≤ r) : -7800 ≤ ptsI l d r t v ∧ ptsI l d r t v ≤ 6000 := by
  unfold resultC rightC at h
  have h := of_decide_eq_true h
  obtain ⟨h1, h2, h3, h4⟩ := h
  have h1 := of_decide_eq_true h1
  by_cases hl : l = 0
  · unfold ptsI; rw [if_pos hl]; omega
  · have := ptsI_bd l d r t v (by omega) (by omega) (by omega)
    by_cases hm : 6 + l ≤ t
    · have := this.1 hm; omega
    · have := this.2 (by omega); omega
theorem scoreI_small (l d r s t vul : Int) (h : resultC l d r s t = true) (h0 : 0 ≤ l ∧ 0 ≤ r) : -7800 ≤ scoreI l d r s t vul ∧ scoreI l d r s t vul ≤ 7800 := by
  have := ptsI_small l d r s t (vulB vul s) h h0
  unfold scoreI; split <;> omega

end Go.Proofs.YtgfnggdjjigomaaDoor
