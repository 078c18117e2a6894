/- The walk of frac.Make for a numerator below 0. -/
import Derived.Test.YtgfnggdjjigomaaDoorFracW
namespace Go.Proofs.YtgfnggdjjigomaaDoor
open Go.RowKit

theorem fr_neg (n d : Int) (hn : n < 0) (hd : 1 ≤ d) : ∃ N D : Nat, n = -(N : Int) ∧ d = D ∧ 1 ≤ N ∧ 1 ≤ Nat.gcd N D ∧ 1 ≤ D ∧ 1 ≤ N / Nat.gcd N D ∧ fr n d = (-((N / Nat.gcd N D : Nat) : Int), ((D / Nat.gcd N D : Nat) : Int)) := by
  obtain ⟨N, hN⟩ := Int.eq_ofNat_of_zero_le (show 0 ≤ -n by omega)
  obtain ⟨D, rfl⟩ := Int.eq_ofNat_of_zero_le (show 0 ≤ d by omega)
  obtain rfl : n = -(N : Int) := by omega
  have hg : 1 ≤ Nat.gcd N D := Nat.gcd_pos_of_pos_right _ (by omega)
  have hd1 : Nat.gcd N D ∣ N := Nat.gcd_dvd_left _ _
  have hq : 1 ≤ N / Nat.gcd N D := Nat.div_pos (Nat.le_of_dvd (by omega) hd1) hg
  refine ⟨N, D, rfl, rfl, by omega, hg, by omega, hq, ?_⟩
  unfold fr
  have hi : Int.gcd (-(N : Int)) (D : Int) = Nat.gcd N D := by simp [Int.gcd]
  rw [hi]
  congr 1
  rw [Int.neg_ediv_of_dvd (Int.natCast_dvd_natCast.2 hd1)]
  rfl

set_option maxHeartbeats 1000000 in
theorem make_neg (n d : Int) (w : World) (hn : -9223372036854775807 ≤ n ∧ n < 0) (hd : 1 ≤ d ∧ d ≤ 9223372036854775807) :
    Calls Tryd.prog 56 #[.int .i64 n, .int .i64 d] w fun e w' => e = .returned (.tuple #[.agg #[.int .i64 (fr n d).1, .int .i64 (fr n d).2], .int .i64 0]) ∧ Below w.heap.size w w' := by
  have HS := Lib.hid (fun W => size_neg n W ⟨by omega, hn.2⟩)
  have hd1 : decide (n < 0) = true := decide_eq_true hn.2
  obtain ⟨N, D, hnN, rfl, hN1, hg, hD, hq0, hfr⟩ := fr_neg n d hn.2 hd.1
  rw [hfr]
  have hnn : -n = (N : Int) := by omega
  rw [hnn] at HS
  have hN2 : N ≤ 9223372036854775807 := by omega
  have hD2 : D ≤ 9223372036854775807 := by omega
  have q1 : N / Nat.gcd N D ≤ N := Nat.div_le_self _ _
  have q2 : D / Nat.gcd N D ≤ D := Nat.div_le_self _ _
  have e1 : (N : Int) / ((Nat.gcd N D : Nat) : Int) = ((N / Nat.gcd N D : Nat) : Int) := (Int.natCast_ediv _ _).symm
  have e2 : (D : Int) / ((Nat.gcd N D : Nat) : Int) = ((D / Nat.gcd N D : Nat) : Int) := (Int.natCast_ediv _ _).symm
  have hg2 : Nat.gcd N D ≤ D := Nat.gcd_le_right _ (by omega)
  have hz : ((D : Int) == 0) = false := beq_eq_false_iff_ne.2 (by omega)
  have HG := Lib.hid (gcd_any N D)
  clear hfr hnN hnn
  generalize N / Nat.gcd N D = x at *
  generalize D / Nat.gcd N D = y at *
  generalize Nat.gcd N D = g at *
  have e3 : (N : Int).tdiv (g : Int) = (x : Int) := by rw [Int.tdiv_eq_ediv_of_nonneg (by omega)]; exact e1
  have e4 : (D : Int).tdiv (g : Int) = (y : Int) := by rw [Int.tdiv_eq_ediv_of_nonneg (by omega)]; exact e2
  have hd2 : decide ((D : Int) < 0) = false := decide_eq_false (by omega)
  have hgz : ((g : Int) == 0) = false := beq_eq_false_iff_ne.2 (by omega)
  have hg0 : ¬ g = 0 := by omega
  have i1 : IntKind.u64.wrap (x : Int) = (x : Int) := IntWalk.u64_in _ (by omega)
  have i2 : IntKind.u64.wrap (y : Int) = (y : Int) := IntWalk.u64_in _ (by omega)
  have HP := Lib.hid (fun W => pack_neg (x : Int) (y : Int) W (by omega) (by omega))
  go_enter Tryd.func56, Tryd.ntmps56
  go_wp2_with fail
  refine (HS.out _).mono ?_
  rintro e _ ⟨rfl, rfl⟩
  go_wp2_with fail
  refine (size_pos _ _ (by omega)).mono ?_
  rintro e _ ⟨rfl, rfl⟩
  go_wp2_with fail
  refine (HG.out _ (by omega) (by omega)).mono ?_
  rintro e w1 ⟨rfl, hb1⟩
  have hb1' : Below w.heap.size w w1 := ((Below.refl _ _).alloc (Nat.le_refl _) _).trans (hb1.mono (by simp))
  have hblk : w1.heap[w.heap.size]? = _ := blk_below (blk_new (.cells #[.int .i64 0, .int .i64 0] 40) rfl) hb1 (by simp)
  have s1 : w.heap.size < w1.heap.size := by have := hb1.size; simp at this; omega
  have HK := Lib.hid (fun (wa : World) (hba : Below w1.drew.heap.size w1.drew wa) => frame2 (t := 40) (g := w.heap.size) (x := .int .i64 0) (y := .int .i64 0) hblk hba s1)
  go_wp2_with fail
  go_region_held3 (fun _ => True) (trivial) ((go_at_call 77; with_reducible refine (HP.out _).mono ?_; rintro e wa ⟨rfl, hba⟩; obtain ⟨hblk2, hc0, hc1, hf0, hf1⟩ := HK.out wa hba))
  clear i1 i2 e1 e2 e3 e4
  have hB : Below w.heap.size w wa := (hb1'.drew).trans (hba.mono (by show w.heap.size ≤ w1.heap.size; omega))
  go_wp2
  exact bodyPost_ret (v := .tuple #[.agg #[.int .i64 (-(x : Int)), .int .i64 (y : Int)], .int .i64 0]) (by simp [results, Tryd.results56, go_sem, hc0, hc1]) rfl ⟨rfl, (hB.setCell (Nat.le_refl _) _).setCell (Nat.le_refl _) _⟩

theorem make_any (n d : Int) (w : World) (hn : -9223372036854775807 ≤ n ∧ n ≤ 9223372036854775807) (hd : 1 ≤ d ∧ d ≤ 9223372036854775807) :
    Calls Tryd.prog 56 #[.int .i64 n, .int .i64 d] w fun e w' => e = .returned (.tuple #[.agg #[.int .i64 (fr n d).1, .int .i64 (fr n d).2], .int .i64 0]) ∧ Below w.heap.size w w' := by
  by_cases h : n < 0
  · exact make_neg n d w ⟨hn.1, h⟩ hd
  · exact make_pos n d w ⟨by omega, hn.2⟩ hd

end Go.Proofs.YtgfnggdjjigomaaDoor
