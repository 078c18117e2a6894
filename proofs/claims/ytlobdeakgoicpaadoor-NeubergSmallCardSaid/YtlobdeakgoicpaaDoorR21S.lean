/- Pairs: what neuberg.Percent and neuberg.Sum reject; Sum, Percent. (Its walks written by genr21s.py.) -/
import Derived.Test.YtlobdeakgoicpaaDoorR21Q
import Derived.Test.YtlobdeakgoicpaaDoorNeuPer
namespace Go.Proofs.YtlobdeakgoicpaaDoor
open Go.RowKit

set_option maxHeartbeats 1000000 in
theorem npercent_c2 (f1 f2 all : Int) (w : World) (ha : 1 ≤ all ∧ all ≤ 24) (h1 : -9223372036854775808 ≤ f1 ∧ f1 ≤ 9223372036854775807) (h2 : -9223372036854775808 ≤ f2 ∧ f2 ≤ 9223372036854775807) (hr : rightF (f1, f2) = false) :
    Calls Tryd.prog 15 #[.agg #[.int .i64 f1, .int .i64 f2], .int .i64 all] w fun e w' => e = .returned (.tuple #[.agg #[.int .i64 0, .int .i64 0], .int .i64 2]) ∧ Below w.heap.size w w' := by
  have HB := Lib.hid (fun W => nboard2 all W ha)
  have HR := Lib.hid (fun W => right_all f1 f2 h1 h2 W)
  rw [hr] at HR
  clear hr
  go_enter Tryd.func15, Tryd.ntmps15
  go_upto_region 1 with fail
  obtain ⟨W0, hW0⟩ : ∃ W0, ((w.alloc (.cells #[.int .i64 f1, .int .i64 f2] 23)).alloc (.cells #[.int .i64 0, .int .i64 0] 23)) = W0 := ⟨_, rfl⟩
  have hB0 : Below w.heap.size w W0 := by rw [← hW0]; exact (by repeat (first | exact Below.refl _ _ | assumption | refine Below.drew ?_ | refine below_drewN ?_ _ | refine Below.alloc ?_ (by first | omega | (simp; done) | (simp; omega)) _ | refine Below.setCell ?_ (by first | omega | (simp; done) | (simp; omega)) _))
  have k0 : W0.heap[w.heap.size]? = some (.cells #[.int .i64 f1, .int .i64 f2] 23) := by rw [← hW0]; exact blk_alloc (blk_new _ rfl) _
  have k1 : W0.heap[w.heap.size + 1]? = some (.cells #[.int .i64 0, .int .i64 0] 23) := by rw [← hW0]; exact blk_new _ (by simp)
  have s0 : W0.heap.size = w.heap.size + 2 := by rw [← hW0]; simp
  (try rw [hW0])
  clear hW0
  have c0 := blk_cell k0 0
  have c1 := blk_cell k0 1
  go_wp2_with fail
  refine (HB.out _).mono ?_
  rintro ee we ⟨rfl, rfl⟩
  go_wp2_with fail
  refine (HR.out _).mono ?_
  rintro ee W1 ⟨rfl, hb1⟩
  have m1 := blk_below k1 hb1 (by omega)
  have c2 := blk_cell m1 0
  have c3 := blk_cell m1 1
  have g0 := blk_free m1 0
  have g1 := blk_free m1 1
  have hB1 := hB0.trans (hb1.mono hB0.size)
  go_wp2
  exact bodyPost_ret (v := .tuple #[.agg #[.int .i64 0, .int .i64 0], .int .i64 2]) (by simp [results, Tryd.results15, go_sem, c2, c3]) rfl ⟨rfl, (hB1.setCell (by show _ ≤ w.heap.size + 1; omega) _).setCell (by show _ ≤ w.heap.size + 1; omega) _⟩

set_option maxHeartbeats 1000000 in
theorem npercent_c6 (f1 f2 : Int) (w : World) (h1 : -9223372036854775808 ≤ f1 ∧ f1 ≤ 9223372036854775807) (h2 : -9223372036854775808 ≤ f2 ∧ f2 ≤ 9223372036854775807) (hr : rightF (f1, f2) = true) :
    Calls Tryd.prog 15 #[.agg #[.int .i64 f1, .int .i64 f2], .int .i64 1] w fun e w' => e = .returned (.tuple #[.agg #[.int .i64 0, .int .i64 0], .int .i64 6]) ∧ Below w.heap.size w w' := by
  have HB := Lib.hid (fun W => nboard2 1 W (by omega))
  have HR := Lib.hid (fun W => right_all f1 f2 h1 h2 W)
  rw [hr] at HR
  clear hr
  go_enter Tryd.func15, Tryd.ntmps15
  go_upto_region 1 with fail
  obtain ⟨W0, hW0⟩ : ∃ W0, ((w.alloc (.cells #[.int .i64 f1, .int .i64 f2] 23)).alloc (.cells #[.int .i64 0, .int .i64 0] 23)) = W0 := ⟨_, rfl⟩
  have hB0 : Below w.heap.size w W0 := by rw [← hW0]; exact (by repeat (first | exact Below.refl _ _ | assumption | refine Below.drew ?_ | refine below_drewN ?_ _ | refine Below.alloc ?_ (by first | omega | (simp; done) | (simp; omega)) _ | refine Below.setCell ?_ (by first | omega | (simp; done) | (simp; omega)) _))
  have k0 : W0.heap[w.heap.size]? = some (.cells #[.int .i64 f1, .int .i64 f2] 23) := by rw [← hW0]; exact blk_alloc (blk_new _ rfl) _
  have k1 : W0.heap[w.heap.size + 1]? = some (.cells #[.int .i64 0, .int .i64 0] 23) := by rw [← hW0]; exact blk_new _ (by simp)
  have s0 : W0.heap.size = w.heap.size + 2 := by rw [← hW0]; simp
  (try rw [hW0])
  clear hW0
  have c0 := blk_cell k0 0
  have c1 := blk_cell k0 1
  go_wp2_with fail
  refine (HB.out _).mono ?_
  rintro ee we ⟨rfl, rfl⟩
  go_wp2_with fail
  refine (HR.out _).mono ?_
  rintro ee W1 ⟨rfl, hb1⟩
  have m1 := blk_below k1 hb1 (by omega)
  have c2 := blk_cell m1 0
  have c3 := blk_cell m1 1
  have g0 := blk_free m1 0
  have g1 := blk_free m1 1
  have hB1 := hB0.trans (hb1.mono hB0.size)
  go_wp2
  exact bodyPost_ret (v := .tuple #[.agg #[.int .i64 0, .int .i64 0], .int .i64 6]) (by simp [results, Tryd.results15, go_sem, c2, c3]) rfl ⟨rfl, (hB1.setCell (by show _ ≤ w.heap.size + 1; omega) _).setCell (by show _ ≤ w.heap.size + 1; omega) _⟩

theorem nsum_b2 (n all : Int) (w : World) (ha : 1 ≤ all ∧ all ≤ 24) (hn : n < 0) : Calls Tryd.prog 13 #[.int .i64 n, .int .i64 all] w fun e w' => e = .returned (.tuple #[.int .i64 0, .int .i64 2]) ∧ w = w' := by
  have HB := Lib.hid (fun W => nboard2 all W ha)
  have t1 : decide (n < 0) = true := decide_eq_true hn
  go_enter Tryd.func13, Tryd.ntmps13
  go_wp2_with fail
  refine (HB.out _).mono ?_
  rintro ee we ⟨rfl, rfl⟩
  go_wp2
  go_ret2
  exact ⟨rfl, rfl⟩

theorem nsum_b3 (n all : Int) (w : World) (ha : 1 ≤ all ∧ all ≤ 24) (hn : 0 ≤ n) (hm : all < n) : Calls Tryd.prog 13 #[.int .i64 n, .int .i64 all] w fun e w' => e = .returned (.tuple #[.int .i64 0, .int .i64 2]) ∧ w = w' := by
  have HB := Lib.hid (fun W => nboard2 all W ha)
  have t1 : decide (n < 0) = false := decide_eq_false (by omega)
  have t2 : decide (n > all) = true := decide_eq_true hm
  have t3 : decide (all < n) = true := decide_eq_true hm
  go_enter Tryd.func13, Tryd.ntmps13
  go_wp2_with fail
  refine (HB.out _).mono ?_
  rintro ee we ⟨rfl, rfl⟩
  go_wp2
  go_ret2
  exact ⟨rfl, rfl⟩

theorem sum_pair (n all : Int) :
    ∃ x E : Int, (∀ w, Calls Tryd.prog 13 #[.int .i64 n, .int .i64 all] w fun e w' => e = .returned (.tuple #[.int .i64 x, .int .i64 E]) ∧ w = w') ∧
      (∀ w, Calls Tryd.prog 14 #[.int .i64 n, .int .i64 all] w fun e w' => e = .returned (.tuple #[.int .i64 x, .int .i64 E]) ∧ w = w') := by
  cases hb : boardB n all with
  | true =>
    obtain ⟨h1, h2, h3, h4⟩ := (boardB_iff n all).1 hb
    refine ⟨n * (all - 1), 0, fun w => nsum n all w ⟨h3, h4⟩ ⟨h1, h2⟩, fun w => ?_⟩
    have H := r21sum n all w
    rw [hb] at H
    exact H
  | false =>
    refine ⟨0, 2, fun w => ?_, fun w => ?_⟩
    · have hnot : ¬ (1 ≤ all ∧ all ≤ 24 ∧ 0 ≤ n ∧ n ≤ all) := fun h => by rw [(boardB_iff n all).2 h] at hb; cases hb
      by_cases ha : 1 ≤ all ∧ all ≤ 24
      · by_cases hn : n < 0
        · exact nsum_b2 n all w ha hn
        · exact nsum_b3 n all w ha (by omega) (by omega)
      · exact nsum_b1 n all w ha
    · have H := r21sum n all w
      rw [hb] at H
      exact H

theorem percent_pair (f1 f2 all : Int) (h1 : -9223372036854775808 ≤ f1 ∧ f1 ≤ 9223372036854775807) (h2 : -9223372036854775808 ≤ f2 ∧ f2 ≤ 9223372036854775807) :
    ∃ x y E : Int, (∀ w, Calls Tryd.prog 15 #[.agg #[.int .i64 f1, .int .i64 f2], .int .i64 all] w fun e w' => e = .returned (.tuple #[.agg #[.int .i64 x, .int .i64 y], .int .i64 E]) ∧ Below w.heap.size w w') ∧
      (∀ w, Calls Tryd.prog 16 #[.agg #[.int .i64 f1, .int .i64 f2], .int .i64 all] w fun e w' => e = .returned (.tuple #[.agg #[.int .i64 x, .int .i64 y], .int .i64 E]) ∧ Below w.heap.size w w') := by
  by_cases ha : 1 ≤ all ∧ all ≤ 24
  case neg =>
    have hb : boardB 0 all = false := by
      cases h : boardB 0 all with
      | false => rfl
      | true => exact absurd ((boardB_iff 0 all).1 h) (by omega)
    exact ⟨0, 0, 2, fun w => npercent_b1 f1 f2 all w ha, fun w => r21percent_bad f1 f2 all 2 w h1 h2 (Or.inl ⟨rfl, hb⟩)⟩
  have hb : boardB 0 all = true := (boardB_iff 0 all).2 ⟨ha.1, ha.2, by omega, by omega⟩
  cases hr : rightF (f1, f2) with
  | false => exact ⟨0, 0, 2, fun w => npercent_c2 f1 f2 all w ha h1 h2 hr, fun w => r21percent_bad f1 f2 all 2 w h1 h2 (Or.inr (Or.inl ⟨rfl, hb, hr⟩))⟩
  | true =>
    by_cases h1a : all = 1
    · subst h1a
      exact ⟨0, 0, 6, fun w => npercent_c6 f1 f2 w h1 h2 hr, fun w => r21percent_bad f1 f2 1 6 w h1 h2 (Or.inr (Or.inr ⟨rfl, hb, hr, rfl⟩))⟩
    · have hp := (isF_of_right hr).1
      dsimp only at hp
      obtain ⟨a, rfl⟩ : ∃ a : Nat, f2 = (a : Int) := ⟨f2.toNat, by omega⟩
      have hf := fr_isF 100 (2 * (all - 1)) (by omega)
      have hv := fr_posD 100 (2 * (all - 1)) (by omega) (by omega)
      have hx := fr_val 100 (2 * (all - 1)) (by omega)
      obtain ⟨q, hq⟩ : ∃ q, fr 100 (2 * (all - 1)) = q := ⟨_, rfl⟩
      rw [hq] at hf hv hx
      obtain ⟨q1, q2⟩ := q
      dsimp only at hv hx
      obtain ⟨b, rfl⟩ : ∃ b : Nat, q2 = (b : Int) := ⟨q2.toNat, by omega⟩
      have hq0 : 0 < q1 := by
        rcases Int.lt_or_eq_of_le hv.1 with h | h
        · exact h
        · rw [← h, Int.zero_mul] at hx; omega
      have hrq := right_of_isF hf
      obtain ⟨F, hF⟩ : ∃ F, mk0 (decide (f1 < 0)) (f1.natAbs * q1.natAbs) (a * b) = F := ⟨_, rfl⟩
      obtain ⟨E, hE⟩ : ∃ E, mkE (decide (f1 < 0)) (f1.natAbs * q1.natAbs) (a * b) = E := ⟨_, rfl⟩
      obtain ⟨x, y⟩ := F
      refine ⟨x, y, E, fun w => ?_, fun w => r21percent_ok f1 a all w h1 ⟨by omega, by omega⟩ ⟨by omega, ha.2⟩ hr q1 b hq ⟨hq0, by omega⟩ ⟨by omega, by omega⟩ hrq x y E hF hE⟩
      refine npercentP f1 a all w h1 ⟨by omega, by omega⟩ ⟨by omega, ha.2⟩ hr q1 b hq x y E (fun W => ?_) (fun he => ?_)
      · have H := fmul_all f1 q1 a b h1 ⟨by omega, by omega⟩ ⟨hq0, by omega⟩ ⟨by omega, by omega⟩ hr hrq W
        rw [hF, hE] at H
        exact H
      · have e1 := hF
        have e2 := hE
        unfold mk0 at e1
        unfold mkE at e2
        split at e2
        · exact absurd e2.symm he
        · rename_i hk
          rw [if_neg hk] at e1
          cases e1
          exact ⟨rfl, rfl⟩

end Go.Proofs.YtlobdeakgoicpaaDoor
