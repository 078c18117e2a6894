/- The walk of the statement AdjustAwards. (Written by genawards.py.) -/
import Derived.Test.YtchklobblkddhaaDoorAdjMadeW2
namespace Go.Proofs.YtchklobblkddhaaDoor
open Go.RowKit

theorem award_fr (p n : Int) : awardF p n = fr (p * (2 * (n - 1))) 100 := by
  unfold awardF
  have h : fr p 1 = (p, 1) := by unfold fr; simp
  rw [← h, mul_fr p _ 1 100 (by decide) (by decide)]
  rfl
theorem award_both (p n : Int) : addF (awardF p n) (awardF (100 - p) n) = (2 * (n - 1), 1) := by
  rw [award_fr, award_fr, add_frD _ _ _ (by decide), ← Int.add_mul, show p + (100 - p) = 100 by omega, Int.mul_comm]
  exact whole_frD _ 100 (by decide)
theorem award_half (n : Int) : awardF 50 n = (n - 1, 1) := by
  rw [award_fr, show 50 * (2 * (n - 1)) = (n - 1) * 100 by omega]
  exact whole_frD _ 100 (by decide)
theorem award_bd (p n : Int) (hp : 0 ≤ p ∧ p ≤ 100) (hn : 1 ≤ n ∧ n ≤ 24) : 0 ≤ p * (2 * (n - 1)) ∧ p * (2 * (n - 1)) ≤ (2 * (n - 1)) * 100 := by
  have h1 := Int.mul_nonneg hp.1 (show 0 ≤ 2 * (n - 1) by omega)
  have h2 : p * (2 * (n - 1)) ≤ 100 * (2 * (n - 1)) := Int.mul_le_mul_of_nonneg_right hp.2 (by omega)
  omega
theorem award_sm (p n : Int) (hp : 0 ≤ p ∧ p ≤ 100) (hn : 1 ≤ n ∧ n ≤ 24) : smF (awardF p n) := by
  rw [award_fr]
  have := award_bd p n hp hn
  exact sm_frD _ _ (by decide) (by omega)
theorem award_num (p n : Int) (hp : 0 ≤ p ∧ p ≤ 100) (hn : 1 ≤ n ∧ n ≤ 24) : 0 ≤ (awardF p n).1 := by
  rw [award_fr]
  unfold fr
  exact Int.ediv_nonneg (award_bd p n hp hn).1 (Int.natCast_nonneg _)
theorem award_top (p n : Int) (hp : 0 ≤ p ∧ p ≤ 100) (hn : 1 ≤ n ∧ n ≤ 24) : cmpF (awardF p n) (2 * (n - 1), 1) ≤ 0 := by
  rw [award_fr, ← whole_frD (2 * (n - 1)) 100 (by decide), cmp_frD _ _ _ (by decide)]
  have := award_bd p n hp hn
  unfold cmpI
  split
  · decide
  · rw [if_neg (by omega)]; decide
theorem awT_share (i : Int) : shareB (awT i) = true := by unfold awT; (repeat' split) <;> decide
theorem right_award (p q : Int) (hp : shareB p = true) (hq : shareB q = true) : rightE 4 0 ex0 p q = true := by
  have h : restB ex0 0 = true := by decide
  unfold rightE
  rw [if_neg (by decide), if_neg (by decide), if_neg (by decide), if_neg (by decide), if_pos rfl]
  unfold awardB
  rw [hp, hq, h]; rfl
theorem ex0_ok : ∀ i, i < 4 → OcOk (ex0 i) := oo_ok (by unfold OcOk zO; decide) (by unfold OcOk zO; decide)
theorem fshare (p q n : Int) (hp : shareB p = true) (hq : shareB q = true) (hn : 1 ≤ n ∧ n ≤ 24) (w : World) (hL : LaidS w) :
    Calls Tryd.prog 21 #[.agg (enCells 4 0 ex0 p q), .int .i64 n] w fun e w' => e = .returned (.tuple #[fV (awardF p n), fV (awardF q n), .int .i64 0]) ∧ Below w.heap.size w w' :=
  award_some _ 0 p q n ex0 (enCells_ok _ _ _ _ _) ex0_ok (by decide) hn (right_award p q hp hq) w hL
/-- The small numbers of an award. -/
def smAw (a : Int) : SmE := ⟨4, 0, a, fun _ => 0, fun _ => 0, fun _ => 0⟩
theorem smAw_ok (a : Int) (h : 0 ≤ a ∧ a ≤ 255) : (smAw a).Ok := ⟨by show (0 : Int) ≤ 4 ∧ (4 : Int) ≤ 255; decide, by show (0 : Int) ≤ 0 ∧ (0 : Int) ≤ 255; decide, h, fun _ => by show (0 : Int) ≤ 0 ∧ (0 : Int) ≤ 255; decide, fun _ => by show (0 : Int) ≤ 0 ∧ (0 : Int) ≤ 255; decide, fun _ => by show (0 : Int) ≤ 0 ∧ (0 : Int) ≤ 255; decide⟩
def pT (j : Nat) : Int := if j = 0 then 0 else if j = 1 then 30 else if j = 2 then 40 else 50
theorem pT_share (j : Nat) : shareB (pT j) = true ∧ shareB (100 - pT j) = true := by unfold pT; (repeat' split) <;> decide

end Go.Proofs.YtchklobblkddhaaDoor
