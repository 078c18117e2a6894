/- The walks of the package frac, so far: size, gcd, pack, Make. -/
import Derived.Test.YtlobdeakgoicpaaDoorChecked
import Derived.Test.YtlobdeakgoicpaaDoorBase
import Derived.Test.YtlobdeakgoicpaaDoorScoMath
import Derived.Deep.QuietTactic
import Derived.BigQuiet
import Derived.Deep.RegionHeld3
namespace Go.Proofs.YtlobdeakgoicpaaDoor
open Go.RowKit

set_option maxHeartbeats 400000 in
theorem size_pos (n : Int) (w : World) (h : 0 ≤ n ∧ n ≤ 9223372036854775807) :
    Calls Tryd.prog 58 #[.int .i64 n] w fun e w' => e = .returned (.int .u64 n) ∧ w = w' := by
  go_enter Tryd.func58, Tryd.ntmps58
  go_wp2
  go_ret
  exact ⟨rfl, rfl⟩

theorem wrap_neg (n : Int) (h : -9223372036854775808 ≤ n ∧ n < 0) : IntKind.u64.wrap (-IntKind.u64.wrap n) = -n := by
  simp only [IntKind.wrap, IntKind.signed, IntKind.bits]; simp; omega
set_option maxHeartbeats 400000 in
theorem size_neg (n : Int) (w : World) (h : -9223372036854775808 ≤ n ∧ n < 0) :
    Calls Tryd.prog 58 #[.int .i64 n] w fun e w' => e = .returned (.int .u64 (-n)) ∧ w = w' := by
  go_enter Tryd.func58, Tryd.ntmps58
  go_wp2
  go_ret
  exact ⟨ret_int (wrap_neg n h), rfl⟩

set_option maxHeartbeats 400000 in
theorem gcd_any (a b : Nat) (w : World) (ha : a ≤ 9223372036854775808) (hb : b ≤ 9223372036854775808) :
    Calls Tryd.prog 60 #[.int .u64 a, .int .u64 b] w fun e w' => e = .returned (.int .u64 (Nat.gcd a b)) ∧ Below w.heap.size w w' := by
  go_enter Tryd.func60, Tryd.ntmps60
  go_wp2
  go_loopw [0, 1] (fun x y wr => ∃ p q : Nat, p ≤ 9223372036854775808 ∧ q ≤ 9223372036854775808 ∧ x = .int .u64 (p : Int) ∧ y = .int .u64 (q : Int) ∧ Hid (Nat.gcd p q = Nat.gcd a b) ∧ Below w.heap.size w wr) (fun _ y _ => (intOf y).toNat)
  case atStart => exact ⟨a, b, ha, hb, rfl, rfl, rfl, Below.refl _ _⟩
  case round =>
    obtain ⟨p, q, hp, hq, rfl, rfl, hg, hbel⟩ := hrel
    by_cases h0 : q = 0
    · subst h0
      have hz : ((0 : Int) != 0) = false := rfl
      have Hg := Lib.hid (show p = Nat.gcd a b by rw [← hg.out, Nat.gcd_zero_right])
      go_wp2
      go_ret
      exact ⟨by rw [← Hg.out]; rfl, hbel⟩
    · have hz : ((q : Int) != 0) = true := bne_iff_ne.2 (by omega)
      have hm : (p : Int) % (q : Int) = ((p % q : Nat) : Int) := (Int.natCast_emod p q).symm
      have hlt : p % q < q := Nat.mod_lt _ (by omega)
      have hq1 : (1 : Int) ≤ (q : Int) := by omega
      have Hg := Lib.hid (show Nat.gcd q (p % q) = Nat.gcd a b by rw [← hg.out, Nat.gcd_comm q, ← Nat.gcd_rec, Nat.gcd_comm])
      generalize p % q = r at *
      go_wp2
      go_quiet (fail)
      go_wp2
      go_roundw
      case rel => exact ⟨q, r, hq, by omega, rfl, int_eq hm, Hg, (by repeat (first | exact Below.refl _ _ | assumption | refine Below.drew ?_ | refine below_drewN ?_ _ | refine Below.alloc ?_ (by first | omega | (simp; done) | (simp; omega)) _ | refine Below.setCell ?_ (by first | omega | (simp; done) | (simp; omega)) _))⟩
      case measure => simp [intOf]; omega

theorem conv_neg (x : Int) (h : 0 < x ∧ x ≤ 9223372036854775807) : wrap64 (IntKind.u64.wrap (-x)) = -x := by
  unfold wrap64
  simp only [IntKind.wrap, IntKind.signed, IntKind.bits]; simp; omega

set_option maxHeartbeats 400000 in
theorem pack_pos (x y : Int) (w : World) (hx : 0 ≤ x ∧ x ≤ 9223372036854775807) (hy : 0 ≤ y ∧ y ≤ 9223372036854775807) :
    Calls Tryd.prog 75 #[.bool false, .agg #[.int .u64 0, .int .u64 x], .agg #[.int .u64 0, .int .u64 y]] w fun e w' => e = .returned (.tuple #[.agg #[.int .i64 x, .int .i64 y], .int .i64 0]) ∧ Below w.heap.size w w' := by
  go_enter Tryd.func75, Tryd.ntmps75
  go_wp2
  exact bodyPost_ret (v := .tuple #[.agg #[.int .i64 x, .int .i64 y], .int .i64 0]) (by simp [results, Tryd.results75, go_sem]) rfl ⟨rfl, (by repeat (first | exact Below.refl _ _ | assumption | refine Below.drew ?_ | refine below_drewN ?_ _ | refine Below.alloc ?_ (by first | omega | (simp; done) | (simp; omega)) _ | refine Below.setCell ?_ (by first | omega | (simp; done) | (simp; omega)) _))⟩

set_option maxHeartbeats 400000 in
theorem pack_neg (x y : Int) (w : World) (hx : 0 < x ∧ x ≤ 9223372036854775807) (hy : 0 ≤ y ∧ y ≤ 9223372036854775807) :
    Calls Tryd.prog 75 #[.bool true, .agg #[.int .u64 0, .int .u64 x], .agg #[.int .u64 0, .int .u64 y]] w fun e w' => e = .returned (.tuple #[.agg #[.int .i64 (-x), .int .i64 y], .int .i64 0]) ∧ Below w.heap.size w w' := by
  have hcv := Lib.hid (conv_neg x hx)
  go_enter Tryd.func75, Tryd.ntmps75
  go_wp2
  refine bodyPost_ret (v := .tuple #[.agg #[.int .i64 (wrap64 (IntKind.u64.wrap (-x))), .int .i64 y], .int .i64 0]) (by simp [results, Tryd.results75, go_sem]) rfl ⟨by rw [show wrap64 (IntKind.u64.wrap (-x)) = -x from hcv.out], (by repeat (first | exact Below.refl _ _ | assumption | refine Below.drew ?_ | refine below_drewN ?_ _ | refine Below.alloc ?_ (by first | omega | (simp; done) | (simp; omega)) _ | refine Below.setCell ?_ (by first | omega | (simp; done) | (simp; omega)) _))⟩

/-- A block of two cells, kept. -/
theorem frame2 {W wa : World} {g t : Nat} {x y : Value} (h : W.heap[g]? = some (.cells #[x, y] t (0, 0))) (hb : Below W.drew.heap.size W.drew wa) (hg : g < W.heap.size) :
    wa.heap[g]? = some (.cells #[x, y] t (0, 0)) ∧ wa.cell? ⟨g, 0, none⟩ = some x ∧ wa.cell? ⟨g, 1, none⟩ = some y ∧ wa.frozen? ⟨g, 0, none⟩ = false ∧ wa.frozen? ⟨g, 1, none⟩ = false := by
  have h2 : wa.heap[g]? = some (.cells #[x, y] t (0, 0)) := blk_below (show W.drew.heap[g]? = _ from h) hb hg
  exact ⟨h2, blk_cell h2 0, blk_cell h2 1, blk_free h2 0, blk_free h2 1⟩
theorem fr_pos (n d : Int) (hn : 0 ≤ n) (hd : 1 ≤ d) : ∃ N D : Nat, n = N ∧ d = D ∧ 1 ≤ Nat.gcd N D ∧ 1 ≤ D ∧ fr n d = (((N / Nat.gcd N D : Nat) : Int), ((D / Nat.gcd N D : Nat) : Int)) := by
  obtain ⟨N, rfl⟩ := Int.eq_ofNat_of_zero_le hn
  obtain ⟨D, rfl⟩ := Int.eq_ofNat_of_zero_le (show 0 ≤ d by omega)
  exact ⟨N, D, rfl, rfl, Nat.gcd_pos_of_pos_right _ (by omega), by omega, rfl⟩

set_option maxHeartbeats 1000000 in
theorem make_pos (n d : Int) (w : World) (hn : 0 ≤ n ∧ n ≤ 9223372036854775807) (hd : 1 ≤ d ∧ d ≤ 9223372036854775807) :
    Calls Tryd.prog 56 #[.int .i64 n, .int .i64 d] w fun e w' => e = .returned (.tuple #[.agg #[.int .i64 (fr n d).1, .int .i64 (fr n d).2], .int .i64 0]) ∧ Below w.heap.size w w' := by
  obtain ⟨N, D, rfl, rfl, hg, hD, hfr⟩ := fr_pos n d hn.1 hd.1
  rw [hfr]
  have hN2 : N ≤ 9223372036854775807 := by omega
  have hD2 : D ≤ 9223372036854775807 := by omega
  have q1 : N / Nat.gcd N D ≤ N := Nat.div_le_self _ _
  have q2 : D / Nat.gcd N D ≤ D := Nat.div_le_self _ _
  have e1 : (N : Int) / ((Nat.gcd N D : Nat) : Int) = ((N / Nat.gcd N D : Nat) : Int) := (Int.natCast_ediv _ _).symm
  have e2 : (D : Int) / ((Nat.gcd N D : Nat) : Int) = ((D / Nat.gcd N D : Nat) : Int) := (Int.natCast_ediv _ _).symm
  have hg2 : Nat.gcd N D ≤ D := Nat.gcd_le_right _ (by omega)
  have hz : ((D : Int) == 0) = false := beq_eq_false_iff_ne.2 (by omega)
  have HG := Lib.hid (gcd_any N D)
  clear hfr
  generalize N / Nat.gcd N D = x at *
  generalize D / Nat.gcd N D = y at *
  generalize Nat.gcd N D = g at *
  have e3 : (N : Int).tdiv (g : Int) = (x : Int) := by rw [Int.tdiv_eq_ediv_of_nonneg (by omega)]; exact e1
  have e4 : (D : Int).tdiv (g : Int) = (y : Int) := by rw [Int.tdiv_eq_ediv_of_nonneg (by omega)]; exact e2
  have hd1 : decide ((N : Int) < 0) = false := decide_eq_false (by omega)
  have hd2 : decide ((D : Int) < 0) = false := decide_eq_false (by omega)
  have hgz : ((g : Int) == 0) = false := beq_eq_false_iff_ne.2 (by omega)
  have hg0 : ¬ g = 0 := by omega
  have i1 : IntKind.u64.wrap (x : Int) = (x : Int) := IntWalk.u64_in _ (by omega)
  have i2 : IntKind.u64.wrap (y : Int) = (y : Int) := IntWalk.u64_in _ (by omega)
  have HP := Lib.hid (fun W => pack_pos (x : Int) (y : Int) W (by omega) (by omega))
  go_enter Tryd.func56, Tryd.ntmps56
  go_wp2_with fail
  refine (size_pos _ _ hn).mono ?_
  rintro e _ ⟨rfl, rfl⟩
  go_wp2_with fail
  refine (size_pos _ _ (by omega)).mono ?_
  rintro e _ ⟨rfl, rfl⟩
  go_wp2_with fail
  refine (HG.out _ (by omega) (by omega)).mono ?_
  rintro e w1 ⟨rfl, hb1⟩
  have hb1' : Below w.heap.size w w1 := ((Below.refl _ _).alloc (Nat.le_refl _) _).trans (hb1.mono (by simp))
  have hblk : w1.heap[w.heap.size]? = _ := blk_below (blk_new (.cells #[.int .i64 0, .int .i64 0] 23) rfl) hb1 (by simp)
  have s1 : w.heap.size < w1.heap.size := by have := hb1.size; simp at this; omega
  have HK := Lib.hid (fun (wa : World) (hba : Below w1.drew.heap.size w1.drew wa) => frame2 (t := 23) (g := w.heap.size) (x := .int .i64 0) (y := .int .i64 0) hblk hba s1)
  go_wp2_with fail
  go_region_held3 (fun _ => True) (trivial) ((go_at_call 75; with_reducible refine (HP.out _).mono ?_; rintro e wa ⟨rfl, hba⟩; obtain ⟨hblk2, hc0, hc1, hf0, hf1⟩ := HK.out wa hba))
  clear i1 i2 e1 e2 e3 e4
  have hB : Below w.heap.size w wa := (hb1'.drew).trans (hba.mono (by show w.heap.size ≤ w1.heap.size; omega))
  go_wp2
  exact bodyPost_ret (v := .tuple #[.agg #[.int .i64 (x : Int), .int .i64 (y : Int)], .int .i64 0]) (by simp [results, Tryd.results56, go_sem, hc0, hc1]) rfl ⟨rfl, (hB.setCell (Nat.le_refl _) _).setCell (Nat.le_refl _) _⟩

end Go.Proofs.YtlobdeakgoicpaaDoor
