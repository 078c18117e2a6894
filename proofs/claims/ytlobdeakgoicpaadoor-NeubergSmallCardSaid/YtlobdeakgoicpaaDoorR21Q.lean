/- Pairs: Sum, Share. -/
import Derived.Test.YtlobdeakgoicpaaDoorR21P
namespace Go.Proofs.YtlobdeakgoicpaaDoor
open Go.RowKit

theorem share_pair (p all : Int) (hp : -9223372036854775808 ≤ p ∧ p ≤ 9223372036854775807) :
    ∃ x y E : Int, (∀ w, Calls Tryd.prog 17 #[.int .i64 p, .int .i64 all] w fun e w' => e = .returned (.tuple #[.agg #[.int .i64 x, .int .i64 y], .int .i64 E]) ∧ Below w.heap.size w w') ∧
      (∀ w, Calls Tryd.prog 18 #[.int .i64 p, .int .i64 all] w fun e w' => e = .returned (.tuple #[.agg #[.int .i64 x, .int .i64 y], .int .i64 E]) ∧ Below w.heap.size w w') := by
  by_cases ha : 1 ≤ all ∧ all ≤ 24
  case neg =>
    have hb : boardB 0 all = false := by
      cases h : boardB 0 all with
      | false => rfl
      | true => exact absurd ((boardB_iff 0 all).1 h) (by omega)
    refine ⟨0, 0, 2, fun w => nshare_b1 p all w ha, fun w => ?_⟩
    have H := r21share p all w hp
    rw [hb] at H
    exact H
  have hb : boardB 0 all = true := (boardB_iff 0 all).2 ⟨ha.1, ha.2, by omega, by omega⟩
  by_cases h0 : p < 0
  · refine ⟨0, 0, 2, fun w => nshare_b2 p all w ha h0, fun w => ?_⟩
    have H := r21share p all w hp
    rw [hb, decide_eq_false (show ¬ 0 ≤ p by omega)] at H
    exact H
  by_cases h1 : 100 < p
  · refine ⟨0, 0, 2, fun w => nshare_b3 p all w ha h1, fun w => ?_⟩
    have H := r21share p all w hp
    rw [hb, decide_eq_false (show ¬ p ≤ 100 by omega), decide_eq_true (show 0 ≤ p by omega)] at H
    exact H
  have e : mulF (p, 1) (fr (2 * (all - 1)) 100) = fr (p * 2 * (all - 1)) 100 := by
    unfold mulF
    have hv := fr_val (2 * (all - 1)) 100 (by omega)
    have hd := (fr_isF (2 * (all - 1)) 100 (by omega)).1
    refine fr_cross _ _ _ _ (by rw [Int.one_mul]; exact hd) (by omega) ?_
    dsimp only
    rw [Int.one_mul, Int.mul_assoc, hv]
    ac_rfl
  refine ⟨(fr (p * 2 * (all - 1)) 100).1, (fr (p * 2 * (all - 1)) 100).2, 0, fun w => ?_, fun w => ?_⟩
  · have H := nshare p all w ⟨by omega, by omega⟩ ha
    rw [e] at H
    exact H
  · have H := r21share p all w hp
    rw [hb, decide_eq_true (show 0 ≤ p by omega), decide_eq_true (show p ≤ 100 by omega)] at H
    exact H

end Go.Proofs.YtlobdeakgoicpaaDoor
