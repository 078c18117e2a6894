/- The plain mathematics of matchpoints: results of several parts, what they get from each other, fractions in lowest terms. No program stands in this text. -/
import Derived.Below
namespace Go.Proofs.YtgfnggdjjigomaaDoor

abbrev Pt := Int × Int
/-- What less, the same, and more points get. -/
def cmpG (p q : Int) : Int := if p < q then 0 else if p = q then 1 else 2
theorem cmpG_bd (p q : Int) : 0 ≤ cmpG p q ∧ cmpG p q ≤ 2 := by unfold cmpG; split <;> (try split) <;> omega
theorem cmpG_lt {p q : Int} (h : p < q) : cmpG p q = 0 := by unfold cmpG; rw [if_pos h]
theorem cmpG_eq (p : Int) : cmpG p p = 1 := by unfold cmpG; rw [if_neg (by omega), if_pos rfl]
theorem cmpG_gt {p q : Int} (h : q < p) : cmpG p q = 2 := by unfold cmpG; rw [if_neg (by omega), if_neg (by omega)]
def sumF (l : List Pt) (f : Pt → Int) : Int := (l.map f).sum
def sumTo (l : List Pt) (f : Pt → Int) (k : Nat) : Int := ((l.take k).map f).sum
theorem sumTo_succ (l : List Pt) (f : Pt → Int) (k : Nat) (h : k < l.length) : sumTo l f (k + 1) = sumTo l f k + f l[k] := by
  unfold sumTo; rw [List.take_succ_eq_append_getElem h, List.map_append, List.sum_append]; simp
theorem sumTo_all (l : List Pt) (f : Pt → Int) : sumTo l f l.length = sumF l f := by unfold sumTo sumF; rw [List.take_length]
theorem sumTo_bd (l : List Pt) (f : Pt → Int) (B : Int) (hf : ∀ p ∈ l, 0 ≤ f p ∧ f p ≤ B) (k : Nat) (h : k ≤ l.length) : 0 ≤ sumTo l f k ∧ sumTo l f k ≤ B * k := by
  induction k with
  | zero => simp [sumTo]
  | succ k ih =>
    have := ih (by omega)
    have := hf l[k] (List.getElem_mem (by omega))
    rw [sumTo_succ l f k (by omega)]
    have e : B * ((k + 1 : Nat) : Int) = B * k + B := by rw [Int.natCast_add, Int.mul_add]; simp
    omega
def sumW (r : List Pt) : Int := sumF r fun p => p.2
def okPt (p : Pt) : Bool := decide (1 ≤ p.2) && decide (p.2 ≤ 100) && decide (-10000 ≤ p.1) && decide (p.1 ≤ 10000)
def rightM (r : List Pt) : Bool := decide (1 ≤ r.length) && decide (r.length ≤ 4) && r.all okPt && (sumW r == 100)
theorem okPt_iff (p : Pt) : okPt p = true ↔ (1 ≤ p.2 ∧ p.2 ≤ 100) ∧ -10000 ≤ p.1 ∧ p.1 ≤ 10000 := by
  unfold okPt; simp only [Bool.and_eq_true, decide_eq_true_eq, and_assoc]
theorem rightM_iff (r : List Pt) : rightM r = true ↔ 1 ≤ r.length ∧ r.length ≤ 4 ∧ (∀ p ∈ r, okPt p = true) ∧ sumW r = 100 := by
  unfold rightM; simp only [Bool.and_eq_true, decide_eq_true_eq, List.all_eq_true, beq_iff_eq, and_assoc]
/-- What points get from a result, and a result from another one, in parts of 10000. -/
def gB (p : Int) (b : List Pt) : Int := sumF b fun q => q.2 * cmpG p q.1
def gAB (a b : List Pt) : Int := sumF a fun p => p.2 * gB p.1 b
theorem mulB {x y X Y : Int} (h1 : 0 ≤ x ∧ x ≤ X) (h2 : 0 ≤ y ∧ y ≤ Y) : 0 ≤ x * y ∧ x * y ≤ X * Y :=
  ⟨Int.mul_nonneg h1.1 h2.1, Int.mul_le_mul h1.2 h2.2 h2.1 (by omega)⟩
theorem gB_bd (p : Int) (b : List Pt) (hb : rightM b = true) : 0 ≤ gB p b ∧ gB p b ≤ 800 := by
  have h := (rightM_iff b).1 hb
  have := sumTo_bd b (fun q => q.2 * cmpG p q.1) 200 (fun q hq => by
    have h1 := (okPt_iff q).1 (h.2.2.1 q hq)
    exact mulB (X := 100) (Y := 2) (by omega) (cmpG_bd p q.1)) b.length (Nat.le_refl _)
  rw [sumTo_all] at this
  unfold gB; omega
theorem gAB_bd (a b : List Pt) (ha : rightM a = true) (hb : rightM b = true) : 0 ≤ gAB a b ∧ gAB a b ≤ 320000 := by
  have h := (rightM_iff a).1 ha
  have := sumTo_bd a (fun p => p.2 * gB p.1 b) 80000 (fun p hp => by
    have h1 := (okPt_iff p).1 (h.2.2.1 p hp)
    exact mulB (X := 100) (Y := 800) (by omega) (gB_bd p.1 b hb)) a.length (Nat.le_refl _)
  rw [sumTo_all] at this
  unfold gAB; omega

/-! ### Fractions in lowest terms -/
def fr (n d : Int) : Pt := (n / Int.gcd n d, d / Int.gcd n d)

/-! ### Matchpoints -/
/-- What a result gets from some results, in parts of 10000. -/
def gAll (r : List Pt) (l : List (List Pt)) : Int := (l.map fun o => gAB r o).sum
def gAllTo (r : List Pt) (l : List (List Pt)) (k : Nat) : Int := ((l.take k).map fun o => gAB r o).sum
theorem gAllTo_succ (r : List Pt) (l : List (List Pt)) (k : Nat) (h : k < l.length) : gAllTo r l (k + 1) = gAllTo r l k + gAB r l[k] := by
  unfold gAllTo; rw [List.take_succ_eq_append_getElem h, List.map_append, List.sum_append]; simp
theorem gAllTo_all (r : List Pt) (l : List (List Pt)) : gAllTo r l l.length = gAll r l := by unfold gAllTo gAll; rw [List.take_length]
theorem gAllTo_bd (r : List Pt) (l : List (List Pt)) (hr : rightM r = true) (hl : ∀ o ∈ l, rightM o = true) (k : Nat) (h : k ≤ l.length) : 0 ≤ gAllTo r l k ∧ gAllTo r l k ≤ 320000 * k := by
  induction k with
  | zero => simp [gAllTo]
  | succ k ih =>
    have := ih (by omega)
    have := gAB_bd r l[k] hr (hl _ (List.getElem_mem (by omega)))
    rw [gAllTo_succ r l k (by omega)]
    omega
def okAll (l : List (List Pt)) : Bool := l.all rightM
/-- The matchpoints of a result among results. -/
def ptsM (r : List Pt) (l : List (List Pt)) : Pt := fr (gAll r l - 10000) 10000

end Go.Proofs.YtgfnggdjjigomaaDoor
