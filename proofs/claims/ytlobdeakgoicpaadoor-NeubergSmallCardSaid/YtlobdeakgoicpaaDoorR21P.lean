/- Pairs: the program's functions and the reference's return the same. -/
import Derived.Test.YtlobdeakgoicpaaDoorR21D
import Derived.Test.YtlobdeakgoicpaaDoorNeuAwakeW
namespace Go.Proofs.YtlobdeakgoicpaaDoor
open Go.RowKit

theorem adjust_pair (f1 f2 n all : Int) (h1 : -9223372036854775808 ≤ f1 ∧ f1 ≤ 9223372036854775807) (h2 : -9223372036854775808 ≤ f2 ∧ f2 ≤ 9223372036854775807) :
    ∃ x y E : Int, (∀ w, Calls Tryd.prog 11 #[.agg #[.int .i64 f1, .int .i64 f2], .int .i64 n, .int .i64 all] w fun e w' => e = .returned (.tuple #[.agg #[.int .i64 x, .int .i64 y], .int .i64 E]) ∧ Below w.heap.size w w') ∧
      (∀ w, Calls Tryd.prog 12 #[.agg #[.int .i64 f1, .int .i64 f2], .int .i64 n, .int .i64 all] w fun e w' => e = .returned (.tuple #[.agg #[.int .i64 x, .int .i64 y], .int .i64 E]) ∧ Below w.heap.size w w') := by
  by_cases ha : 1 ≤ all ∧ all ≤ 24
  case neg =>
    have hb : boardB n all = false := by
      cases h : boardB n all with
      | false => rfl
      | true => exact absurd ((boardB_iff n all).1 h) (by omega)
    exact ⟨0, 0, 2, fun w => nadj_b1 f1 f2 n all w ha, fun w => radj_b1 f1 f2 n all w hb⟩
  by_cases hn : n < 1
  · refine ⟨0, 0, 2, fun w => nadj_b2 f1 f2 n all w ha hn, fun w => ?_⟩
    cases h : boardB n all with
    | false => exact radj_b1 f1 f2 n all w h
    | true => exact radj_b2 f1 f2 n all w h hn
  by_cases hm : all < n
  · have hb : boardB n all = false := by
      cases h : boardB n all with
      | false => rfl
      | true => exact absurd ((boardB_iff n all).1 h) (by omega)
    exact ⟨0, 0, 2, fun w => nadj_b3 f1 f2 n all w ha (by omega) hm, fun w => radj_b1 f1 f2 n all w hb⟩
  have hb : boardB n all = true := (boardB_iff n all).2 ⟨ha.1, ha.2, by omega, by omega⟩
  cases hr : rightF (f1, f2) with
  | false => exact ⟨0, 0, 2, fun w => nadj_c4 f1 f2 n all w ha ⟨by omega, by omega⟩ h1 h2 hr, fun w => radj_b3 f1 f2 n all w h1 h2 hb (by omega) hr⟩
  | true =>
    have hp := (isF_of_right hr).1
    dsimp only at hp
    by_cases hneg : f1 < 0
    · refine ⟨0, 0, 2, fun w => ?_, fun w => radj_b4 f1 f2 n all w h1 h2 hb (by omega) hr hneg⟩
      by_cases hd : 10000 < f2
      · exact nadj_c5 f1 f2 n all w ha ⟨by omega, by omega⟩ h1 h2 hr hd
      · exact nadj_c6 f1 f2 n all w ha ⟨by omega, by omega⟩ h1 h2 hr (by omega) hneg
    by_cases hd : 10000 < f2
    · exact ⟨0, 0, 2, fun w => nadj_c5 f1 f2 n all w ha ⟨by omega, by omega⟩ h1 h2 hr hd, fun w => radj_b5 f1 f2 n all w h1 h2 hb (by omega) hr (by omega) hd⟩
    by_cases hbig : 2 * (n - 1) * f2 < f1
    · refine ⟨0, 0, 2, fun w => nadj_c7 f1 f2 n all w ha ⟨by omega, by omega⟩ ⟨by omega, by omega⟩ ⟨by omega, by omega⟩ hr hbig, fun w => ?_⟩
      have hm0 := mulB (x := 2 * (n - 1)) (y := f2) (X := 46) (Y := 10000) (by omega) (by omega)
      refine r21adjust_great f1 f2 n all (cmpN (f1.natAbs * (1 : Int).natAbs) ((2 * n - 2).natAbs * f2.natAbs)) w hb (by omega) hr ⟨by omega, by omega⟩ ⟨by omega, by omega⟩ ?_ (fun W => r01cmpF f1 f2 (2 * n - 2) 1 W ⟨by omega, by omega⟩ ⟨by omega, by omega⟩ ⟨by omega, by omega⟩ ⟨by omega, by omega⟩ hr (right_of_isF (whole_isF _)))
      unfold cmpN
      have hp0 : 0 ≤ 2 * (n - 1) * f2 := Int.mul_nonneg (by omega) (by omega)
      have e : ((2 * n - 2).natAbs * f2.natAbs : Nat) = (2 * (n - 1) * f2).natAbs := by rw [Int.natAbs_mul, show 2 * n - 2 = 2 * (n - 1) by omega]
      rw [e, show (1 : Int).natAbs = 1 from rfl, Nat.mul_one, if_neg (by omega), if_pos (by omega)]
      omega
    · have hm0 := mulB (x := 2 * (n - 1)) (y := f2) (X := 46) (Y := 10000) (by omega) (by omega)
      have A := fr_posD (f1 + f2) f2 (by omega) hp
      have hN := fr_posD all n (by omega) (by omega)
      have s0 : smF (f1, f2) := ⟨isF_of_right hr, ⟨by show (-1000000000 : Int) ≤ f1; omega, by show f1 ≤ 1000000000; omega⟩, by show f2 ≤ 1000000; omega⟩
      have ea : addF (f1, f2) (1, 1) = fr (f1 + f2) f2 := by unfold addF; simp only [Int.mul_one, Int.one_mul]
      have s1 : smF (addF (f1, f2) (1, 1)) := by
        rw [ea]
        exact ⟨fr_isF _ _ hp, ⟨by omega, by omega⟩, by omega⟩
      have s2 : smF (mulF (addF (f1, f2) (1, 1)) (fr all n)) := by
        rw [ea]
        have m1 := mulB (x := (fr (f1 + f2) f2).1) (y := (fr all n).1) (X := 470000) (Y := 24) (by omega) (by omega)
        have m2 := mulB (x := (fr (f1 + f2) f2).2) (y := (fr all n).2) (X := 10000) (Y := 24) (by omega) (by omega)
        have m3 : 0 ≤ (fr (f1 + f2) f2).1 * (fr all n).1 := Int.mul_nonneg A.1 hN.1
        have m4 : 1 ≤ (fr (f1 + f2) f2).2 * (fr all n).2 := Int.mul_pos (by omega) (by omega)
        have M := fr_posD _ _ m3 m4
        unfold mulF
        exact ⟨fr_isF _ _ m4, ⟨by omega, by omega⟩, by omega⟩
      refine ⟨(adjF (f1, f2) n all).1, (adjF (f1, f2) n all).2, 0, fun w => ?_, fun w => ?_⟩
      · exact nadjust (f1, f2) n all w ⟨by omega, by omega⟩ ha.2 ⟨hp, by show f2 ≤ 10000; omega, by show 0 ≤ f1; omega, by show f1 ≤ 2 * (n - 1) * f2; omega⟩ s0 s1 s2
      · exact r21adjust_ok f1 f2 n all w ⟨by omega, by omega⟩ ha.2 (by omega) ⟨hp, by omega⟩ (by omega) hr

end Go.Proofs.YtlobdeakgoicpaaDoor
