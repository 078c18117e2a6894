/- The walks of package neuberg: what is rejected. (Written by gennbad.py.) -/
import Derived.Test.YtlobdeakgoicpaaDoorNeuW
import Derived.Test.YtlobdeakgoicpaaDoorFracRight
import Derived.Test.YtlobdeakgoicpaaDoorMatOwn
namespace Go.Proofs.YtlobdeakgoicpaaDoor
open Go.RowKit

theorem nboard3 (n : Int) (w : World) (h : ¬ (1 ≤ n ∧ n ≤ 24)) : Calls Tryd.prog 33 #[.int .i64 n] w fun e w' => e = .returned (.bool false) ∧ w = w' :=
  (nboard n w).mono fun e w' hh => ⟨hh.1.trans (by rw [decide_eq_false h]), hh.2.symm⟩

set_option maxHeartbeats 1000000 in
theorem nadj_b1 (f1 f2 n all : Int) (w : World) (ha : ¬ (1 ≤ all ∧ all ≤ 24)) :
    Calls Tryd.prog 11 #[.agg #[.int .i64 f1, .int .i64 f2], .int .i64 n, .int .i64 all] w fun e w' => e = .returned (.tuple #[.agg #[.int .i64 0, .int .i64 0], .int .i64 2]) ∧ Below w.heap.size w w' := by
  have HB := Lib.hid (fun W => nboard3 all W ha)
  go_enter Tryd.func11, Tryd.ntmps11
  go_upto_region 1 with fail
  obtain ⟨W0, hW0⟩ : ∃ W0, ((w.alloc (.cells #[.int .i64 f1, .int .i64 f2] 23)).alloc (.cells #[.int .i64 0, .int .i64 0] 23)) = W0 := ⟨_, rfl⟩
  have hB0 : Below w.heap.size w W0 := by rw [← hW0]; exact (by repeat (first | exact Below.refl _ _ | assumption | refine Below.drew ?_ | refine below_drewN ?_ _ | refine Below.alloc ?_ (by first | omega | (simp; done) | (simp; omega)) _ | refine Below.setCell ?_ (by first | omega | (simp; done) | (simp; omega)) _))
  have k0 : W0.heap[w.heap.size]? = some (.cells #[.int .i64 f1, .int .i64 f2] 23) := by rw [← hW0]; exact blk_alloc (blk_new _ rfl) _
  have k1 : W0.heap[w.heap.size + 1]? = some (.cells #[.int .i64 0, .int .i64 0] 23) := by rw [← hW0]; exact blk_new _ (by simp)
  have s0 : W0.heap.size = w.heap.size + 2 := by rw [← hW0]; simp
  (try rw [hW0])
  clear hW0
  have c0 := blk_cell k0 0
  have c1 := blk_cell k0 1
  have c2 := blk_cell k1 0
  have c3 := blk_cell k1 1
  have g0 := blk_free k1 0
  have g1 := blk_free k1 1
  go_wp2_with fail
  refine (HB.out _).mono ?_
  rintro ee we ⟨rfl, rfl⟩
  go_wp2
  exact bodyPost_ret (v := .tuple #[.agg #[.int .i64 0, .int .i64 0], .int .i64 2]) (by simp [results, Tryd.results11, go_sem, c2, c3]) rfl ⟨rfl, ((hB0).setCell (by show _ ≤ w.heap.size + 1; omega) _).setCell (by show _ ≤ w.heap.size + 1; omega) _⟩

set_option maxHeartbeats 1000000 in
theorem nadj_b2 (f1 f2 n all : Int) (w : World) (ha : 1 ≤ all ∧ all ≤ 24) (hn : n < 1) :
    Calls Tryd.prog 11 #[.agg #[.int .i64 f1, .int .i64 f2], .int .i64 n, .int .i64 all] w fun e w' => e = .returned (.tuple #[.agg #[.int .i64 0, .int .i64 0], .int .i64 2]) ∧ Below w.heap.size w w' := by
  have HB := Lib.hid (fun W => nboard2 all W ha)
  have t1 : decide (n < 1) = true := decide_eq_true hn
  go_enter Tryd.func11, Tryd.ntmps11
  go_upto_region 1 with fail
  obtain ⟨W0, hW0⟩ : ∃ W0, ((w.alloc (.cells #[.int .i64 f1, .int .i64 f2] 23)).alloc (.cells #[.int .i64 0, .int .i64 0] 23)) = W0 := ⟨_, rfl⟩
  have hB0 : Below w.heap.size w W0 := by rw [← hW0]; exact (by repeat (first | exact Below.refl _ _ | assumption | refine Below.drew ?_ | refine below_drewN ?_ _ | refine Below.alloc ?_ (by first | omega | (simp; done) | (simp; omega)) _ | refine Below.setCell ?_ (by first | omega | (simp; done) | (simp; omega)) _))
  have k0 : W0.heap[w.heap.size]? = some (.cells #[.int .i64 f1, .int .i64 f2] 23) := by rw [← hW0]; exact blk_alloc (blk_new _ rfl) _
  have k1 : W0.heap[w.heap.size + 1]? = some (.cells #[.int .i64 0, .int .i64 0] 23) := by rw [← hW0]; exact blk_new _ (by simp)
  have s0 : W0.heap.size = w.heap.size + 2 := by rw [← hW0]; simp
  (try rw [hW0])
  clear hW0
  have c0 := blk_cell k0 0
  have c1 := blk_cell k0 1
  have c2 := blk_cell k1 0
  have c3 := blk_cell k1 1
  have g0 := blk_free k1 0
  have g1 := blk_free k1 1
  go_wp2_with fail
  refine (HB.out _).mono ?_
  rintro ee we ⟨rfl, rfl⟩
  go_wp2
  exact bodyPost_ret (v := .tuple #[.agg #[.int .i64 0, .int .i64 0], .int .i64 2]) (by simp [results, Tryd.results11, go_sem, c2, c3]) rfl ⟨rfl, ((hB0).setCell (by show _ ≤ w.heap.size + 1; omega) _).setCell (by show _ ≤ w.heap.size + 1; omega) _⟩

set_option maxHeartbeats 1000000 in
theorem nadj_b3 (f1 f2 n all : Int) (w : World) (ha : 1 ≤ all ∧ all ≤ 24) (hn : 1 ≤ n) (hm : all < n) :
    Calls Tryd.prog 11 #[.agg #[.int .i64 f1, .int .i64 f2], .int .i64 n, .int .i64 all] w fun e w' => e = .returned (.tuple #[.agg #[.int .i64 0, .int .i64 0], .int .i64 2]) ∧ Below w.heap.size w w' := by
  have HB := Lib.hid (fun W => nboard2 all W ha)
  have t1 : decide (n < 1) = false := decide_eq_false (by omega)
  have t2 : decide (n > all) = true := decide_eq_true hm
  have t3 : decide (all < n) = true := decide_eq_true hm
  go_enter Tryd.func11, Tryd.ntmps11
  go_upto_region 1 with fail
  obtain ⟨W0, hW0⟩ : ∃ W0, ((w.alloc (.cells #[.int .i64 f1, .int .i64 f2] 23)).alloc (.cells #[.int .i64 0, .int .i64 0] 23)) = W0 := ⟨_, rfl⟩
  have hB0 : Below w.heap.size w W0 := by rw [← hW0]; exact (by repeat (first | exact Below.refl _ _ | assumption | refine Below.drew ?_ | refine below_drewN ?_ _ | refine Below.alloc ?_ (by first | omega | (simp; done) | (simp; omega)) _ | refine Below.setCell ?_ (by first | omega | (simp; done) | (simp; omega)) _))
  have k0 : W0.heap[w.heap.size]? = some (.cells #[.int .i64 f1, .int .i64 f2] 23) := by rw [← hW0]; exact blk_alloc (blk_new _ rfl) _
  have k1 : W0.heap[w.heap.size + 1]? = some (.cells #[.int .i64 0, .int .i64 0] 23) := by rw [← hW0]; exact blk_new _ (by simp)
  have s0 : W0.heap.size = w.heap.size + 2 := by rw [← hW0]; simp
  (try rw [hW0])
  clear hW0
  have c0 := blk_cell k0 0
  have c1 := blk_cell k0 1
  have c2 := blk_cell k1 0
  have c3 := blk_cell k1 1
  have g0 := blk_free k1 0
  have g1 := blk_free k1 1
  go_wp2_with fail
  refine (HB.out _).mono ?_
  rintro ee we ⟨rfl, rfl⟩
  go_wp2
  exact bodyPost_ret (v := .tuple #[.agg #[.int .i64 0, .int .i64 0], .int .i64 2]) (by simp [results, Tryd.results11, go_sem, c2, c3]) rfl ⟨rfl, ((hB0).setCell (by show _ ≤ w.heap.size + 1; omega) _).setCell (by show _ ≤ w.heap.size + 1; omega) _⟩

set_option maxHeartbeats 1000000 in
theorem nadj_b4 (f1 f2 n all : Int) (w : World) (ha : 1 ≤ all ∧ all ≤ 24) (hn : 1 ≤ n ∧ n ≤ all) (h1 : -9223372036854775807 ≤ f1 ∧ f1 ≤ 9223372036854775807) (h2 : -9223372036854775807 ≤ f2 ∧ f2 ≤ 9223372036854775807) (hr : rightF (f1, f2) = false) :
    Calls Tryd.prog 11 #[.agg #[.int .i64 f1, .int .i64 f2], .int .i64 n, .int .i64 all] w fun e w' => e = .returned (.tuple #[.agg #[.int .i64 0, .int .i64 0], .int .i64 2]) ∧ Below w.heap.size w w' := by
  have HB := Lib.hid (fun W => nboard2 all W ha)
  have HR := Lib.hid (fun W => right_gen f1 f2 h1 h2 W)
  rw [hr] at HR
  have t1 : decide (n < 1) = false := decide_eq_false (by omega)
  have t2 : decide (n > all) = false := decide_eq_false (by omega)
  have t3 : decide (all < n) = false := decide_eq_false (by omega)
  go_enter Tryd.func11, Tryd.ntmps11
  go_upto_region 1 with fail
  obtain ⟨W0, hW0⟩ : ∃ W0, ((w.alloc (.cells #[.int .i64 f1, .int .i64 f2] 23)).alloc (.cells #[.int .i64 0, .int .i64 0] 23)) = W0 := ⟨_, rfl⟩
  have hB0 : Below w.heap.size w W0 := by rw [← hW0]; exact (by repeat (first | exact Below.refl _ _ | assumption | refine Below.drew ?_ | refine below_drewN ?_ _ | refine Below.alloc ?_ (by first | omega | (simp; done) | (simp; omega)) _ | refine Below.setCell ?_ (by first | omega | (simp; done) | (simp; omega)) _))
  have k0 : W0.heap[w.heap.size]? = some (.cells #[.int .i64 f1, .int .i64 f2] 23) := by rw [← hW0]; exact blk_alloc (blk_new _ rfl) _
  have k1 : W0.heap[w.heap.size + 1]? = some (.cells #[.int .i64 0, .int .i64 0] 23) := by rw [← hW0]; exact blk_new _ (by simp)
  have s0 : W0.heap.size = w.heap.size + 2 := by rw [← hW0]; simp
  (try rw [hW0])
  clear hW0
  have c0 := blk_cell k0 0
  have c1 := blk_cell k0 1
  have c2 := blk_cell k1 0
  have c3 := blk_cell k1 1
  have g0 := blk_free k1 0
  have g1 := blk_free k1 1
  go_wp2_with fail
  refine (HB.out _).mono ?_
  rintro ee we ⟨rfl, rfl⟩
  go_wp2_with fail
  refine (HR.out _).mono ?_
  rintro ee W1 ⟨rfl, hb1⟩
  have m0 := blk_below k0 hb1 (by omega)
  have m1 := blk_below k1 hb1 (by omega)
  have c0 := blk_cell m0 0
  have c1 := blk_cell m0 1
  have c2 := blk_cell m1 0
  have c3 := blk_cell m1 1
  have g0 := blk_free m1 0
  have g1 := blk_free m1 1
  have hB1 := hB0.trans (hb1.mono hB0.size)
  go_wp2
  exact bodyPost_ret (v := .tuple #[.agg #[.int .i64 0, .int .i64 0], .int .i64 2]) (by simp [results, Tryd.results11, go_sem, c2, c3]) rfl ⟨rfl, ((hB1).setCell (by show _ ≤ w.heap.size + 1; omega) _).setCell (by show _ ≤ w.heap.size + 1; omega) _⟩

set_option maxHeartbeats 2000000 in
theorem nadj_b5 (f1 f2 n all : Int) (w : World) (ha : 1 ≤ all ∧ all ≤ 24) (hn : 1 ≤ n ∧ n ≤ all) (h1 : -9223372036854775807 ≤ f1 ∧ f1 ≤ 9223372036854775807) (h2 : -9223372036854775807 ≤ f2 ∧ f2 ≤ 9223372036854775807) (hr : rightF (f1, f2) = true) (hd : f2 ≤ 10000) (hneg : f1 < 0) :
    Calls Tryd.prog 11 #[.agg #[.int .i64 f1, .int .i64 f2], .int .i64 n, .int .i64 all] w fun e w' => e = .returned (.tuple #[.agg #[.int .i64 0, .int .i64 0], .int .i64 2]) ∧ Below w.heap.size w w' := by
  have HB := Lib.hid (fun W => nboard2 all W ha)
  have HR := Lib.hid (fun W => right_gen f1 f2 h1 h2 W)
  rw [hr] at HR
  have t1 : decide (n < 1) = false := decide_eq_false (by omega)
  have t2 : decide (n > all) = false := decide_eq_false (by omega)
  have t3 : decide (all < n) = false := decide_eq_false (by omega)
  have t4 : decide (f2 > 10000) = false := decide_eq_false (by omega)
  have t5 : decide (10000 < f2) = false := decide_eq_false (by omega)
  have t6 : decide (f1 < 0) = true := decide_eq_true hneg
  go_enter Tryd.func11, Tryd.ntmps11
  go_upto_region 1 with fail
  obtain ⟨W0, hW0⟩ : ∃ W0, ((w.alloc (.cells #[.int .i64 f1, .int .i64 f2] 23)).alloc (.cells #[.int .i64 0, .int .i64 0] 23)) = W0 := ⟨_, rfl⟩
  have hB0 : Below w.heap.size w W0 := by rw [← hW0]; exact (by repeat (first | exact Below.refl _ _ | assumption | refine Below.drew ?_ | refine below_drewN ?_ _ | refine Below.alloc ?_ (by first | omega | (simp; done) | (simp; omega)) _ | refine Below.setCell ?_ (by first | omega | (simp; done) | (simp; omega)) _))
  have k0 : W0.heap[w.heap.size]? = some (.cells #[.int .i64 f1, .int .i64 f2] 23) := by rw [← hW0]; exact blk_alloc (blk_new _ rfl) _
  have k1 : W0.heap[w.heap.size + 1]? = some (.cells #[.int .i64 0, .int .i64 0] 23) := by rw [← hW0]; exact blk_new _ (by simp)
  have s0 : W0.heap.size = w.heap.size + 2 := by rw [← hW0]; simp
  (try rw [hW0])
  clear hW0
  have c0 := blk_cell k0 0
  have c1 := blk_cell k0 1
  have c2 := blk_cell k1 0
  have c3 := blk_cell k1 1
  have g0 := blk_free k1 0
  have g1 := blk_free k1 1
  go_wp2_with fail
  refine (HB.out _).mono ?_
  rintro ee we ⟨rfl, rfl⟩
  go_wp2_with fail
  refine (HR.out _).mono ?_
  rintro ee W1 ⟨rfl, hb1⟩
  have m0 := blk_below k0 hb1 (by omega)
  have m1 := blk_below k1 hb1 (by omega)
  have c0 := blk_cell m0 0
  have c1 := blk_cell m0 1
  have c2 := blk_cell m1 0
  have c3 := blk_cell m1 1
  have g0 := blk_free m1 0
  have g1 := blk_free m1 1
  have hB1 := hB0.trans (hb1.mono hB0.size)
  go_upto_region 3 with fail
  go_quiet (fail)
  have c2 : (W1.drewN nq).cell? ⟨w.heap.size + 1, 0, none⟩ = _ := c2
  have c3 : (W1.drewN nq).cell? ⟨w.heap.size + 1, 1, none⟩ = _ := c3
  have g0 : (W1.drewN nq).frozen? ⟨w.heap.size + 1, 0, none⟩ = _ := g0
  have g1 : (W1.drewN nq).frozen? ⟨w.heap.size + 1, 1, none⟩ = _ := g1
  have hB2 := below_drewN hB1 nq
  generalize W1.drewN nq = W2 at c2 c3 g0 g1 hB2 ⊢
  go_wp2
  exact bodyPost_ret (v := .tuple #[.agg #[.int .i64 0, .int .i64 0], .int .i64 2]) (by simp [results, Tryd.results11, go_sem, c2, c3]) rfl ⟨rfl, ((hB2).setCell (by show _ ≤ w.heap.size + 1; omega) _).setCell (by show _ ≤ w.heap.size + 1; omega) _⟩

set_option maxHeartbeats 2000000 in
theorem nadj_b6 (f1 n all : Int) (w : World) (ha : 1 ≤ all ∧ all ≤ 24) (hn : 1 ≤ n ∧ n ≤ all) (h1 : 0 ≤ f1 ∧ f1 ≤ 9223372036854775807) (hbig : 2 * (n - 1) < f1) :
    Calls Tryd.prog 11 #[.agg #[.int .i64 f1, .int .i64 1], .int .i64 n, .int .i64 all] w fun e w' => e = .returned (.tuple #[.agg #[.int .i64 0, .int .i64 0], .int .i64 2]) ∧ Below w.heap.size w w' := by
  have HB := Lib.hid (fun W => nboard2 all W ha)
  have HR := Lib.hid (fun W => right_gen f1 1 (by omega) (by decide) W)
  rw [show rightF (f1, 1) = true by unfold rightF; simp] at HR
  obtain ⟨T, hT⟩ : ∃ T : Int, 2 * (n - 1) = T := ⟨_, rfl⟩
  have HT := Lib.hid (fun W => topN_any n W (by omega))
  rw [if_neg (by omega), hT] at HT
  rw [hT] at hbig
  have t1 : decide (n < 1) = false := decide_eq_false (by omega)
  have t2 : decide (n > all) = false := decide_eq_false (by omega)
  have t3 : decide (all < n) = false := decide_eq_false (by omega)
  have t6 : decide (f1 < 0) = false := decide_eq_false (by omega)
  have t7 : decide (f1 > T) = true := decide_eq_true hbig
  have t8 : decide (T < f1) = true := decide_eq_true hbig
  have t9 : IntKind.i64.wrap (T * 1) = T := by rw [Int.mul_one]; exact IntWalk.i64_in _ (by omega)
  have t10 : IntKind.i64.wrap T = T := IntWalk.i64_in _ (by omega)
  obtain ⟨f2, hf2⟩ : ∃ f2 : Int, f2 = 1 := ⟨1, rfl⟩
  rw [← hf2] at HR ⊢
  have t4 : decide (f2 > 10000) = false := by rw [hf2]; decide
  have t5 : decide (10000 < f2) = false := by rw [hf2]; decide
  have t11 : IntKind.i64.wrap (T * f2) = T := by rw [hf2]; exact t9
  clear hf2 t9 hT hbig
  go_enter Tryd.func11, Tryd.ntmps11
  go_upto_region 1 with fail
  obtain ⟨W0, hW0⟩ : ∃ W0, ((w.alloc (.cells #[.int .i64 f1, .int .i64 f2] 23)).alloc (.cells #[.int .i64 0, .int .i64 0] 23)) = W0 := ⟨_, rfl⟩
  have hB0 : Below w.heap.size w W0 := by rw [← hW0]; exact (by repeat (first | exact Below.refl _ _ | assumption | refine Below.drew ?_ | refine below_drewN ?_ _ | refine Below.alloc ?_ (by first | omega | (simp; done) | (simp; omega)) _ | refine Below.setCell ?_ (by first | omega | (simp; done) | (simp; omega)) _))
  have k0 : W0.heap[w.heap.size]? = some (.cells #[.int .i64 f1, .int .i64 f2] 23) := by rw [← hW0]; exact blk_alloc (blk_new _ rfl) _
  have k1 : W0.heap[w.heap.size + 1]? = some (.cells #[.int .i64 0, .int .i64 0] 23) := by rw [← hW0]; exact blk_new _ (by simp)
  have s0 : W0.heap.size = w.heap.size + 2 := by rw [← hW0]; simp
  (try rw [hW0])
  clear hW0
  have c0 := blk_cell k0 0
  have c1 := blk_cell k0 1
  have c2 := blk_cell k1 0
  have c3 := blk_cell k1 1
  have g0 := blk_free k1 0
  have g1 := blk_free k1 1
  go_wp2_with fail
  refine (HB.out _).mono ?_
  rintro ee we ⟨rfl, rfl⟩
  go_wp2_with fail
  refine (HR.out _).mono ?_
  rintro ee W1 ⟨rfl, hb1⟩
  have m0 := blk_below k0 hb1 (by omega)
  have m1 := blk_below k1 hb1 (by omega)
  have c0 := blk_cell m0 0
  have c1 := blk_cell m0 1
  have c2 := blk_cell m1 0
  have c3 := blk_cell m1 1
  have g0 := blk_free m1 0
  have g1 := blk_free m1 1
  have hB1 := hB0.trans (hb1.mono hB0.size)
  go_upto_region 3 with fail
  go_region_held3 (fun w' => w'.cell? ⟨w.heap.size, 0, none⟩ = some (.int .i64 f1) ∧ w'.cell? ⟨w.heap.size, 1, none⟩ = some (.int .i64 f2)) ((first | exact ⟨c0, c1⟩))
    ((go_at_call 35; (with_reducible refine (HT.out _).mono ?_); rintro ee we ⟨rfl, rfl⟩))
  have c2 : W1.drew.cell? ⟨w.heap.size + 1, 0, none⟩ = _ := c2
  have c3 : W1.drew.cell? ⟨w.heap.size + 1, 1, none⟩ = _ := c3
  have g0 : W1.drew.frozen? ⟨w.heap.size + 1, 0, none⟩ = _ := g0
  have g1 : W1.drew.frozen? ⟨w.heap.size + 1, 1, none⟩ = _ := g1
  have hB2 := hB1.drew
  generalize W1.drew = W2 at c2 c3 g0 g1 hB2 ⊢
  go_wp2
  exact bodyPost_ret (v := .tuple #[.agg #[.int .i64 0, .int .i64 0], .int .i64 2]) (by simp [results, Tryd.results11, go_sem, c2, c3]) rfl ⟨rfl, ((hB2).setCell (by show _ ≤ w.heap.size + 1; omega) _).setCell (by show _ ≤ w.heap.size + 1; omega) _⟩

theorem nsum_b1 (n all : Int) (w : World) (ha : ¬ (1 ≤ all ∧ all ≤ 24)) : Calls Tryd.prog 13 #[.int .i64 n, .int .i64 all] w fun e w' => e = .returned (.tuple #[.int .i64 0, .int .i64 2]) ∧ w = w' := by
  have HB := Lib.hid (fun W => nboard3 all W ha)
  go_enter Tryd.func13, Tryd.ntmps13
  go_wp2_with fail
  refine (HB.out _).mono ?_
  rintro ee we ⟨rfl, rfl⟩
  go_wp2
  go_ret2
  exact ⟨rfl, rfl⟩

set_option maxHeartbeats 1000000 in
theorem nfield_b1 (A : Option Addr) (l c : Nat) (all : Int) (w : World) (ha : ¬ (1 ≤ all ∧ all ≤ 24)) : Calls Tryd.prog 21 #[.slice A l c, .int .i64 all] w fun e w' => e = .returned (.tuple #[.slice none 0 0, .int .i64 2]) ∧ w = w' := by
  have HB := Lib.hid (fun W => nboard3 all W ha)
  go_enter Tryd.func21, Tryd.ntmps21
  go_wp2_with fail
  refine (HB.out _).mono ?_
  rintro ee we ⟨rfl, rfl⟩
  go_wp2
  go_ret2
  exact ⟨rfl, rfl⟩
set_option maxHeartbeats 1000000 in
theorem nfield_b2 (L : List (List Pt)) (A : Option Addr) (c : Nat) (all : Int) (w : World) (ha : 1 ≤ all ∧ all ≤ 24) (hn : (L.length : Int) ≤ all) (hA : RdL w w.heap.size A L) (hlen : ∀ o ∈ L, o.length ≤ 1000) (he : ptsErr L = 2) : Calls Tryd.prog 21 #[.slice A L.length c, .int .i64 all] w fun e w' => e = .returned (.tuple #[.slice none 0 0, .int .i64 2]) ∧ Below w.heap.size w w' := by
  have HB := Lib.hid (fun W => nboard2 all W ha)
  have HP := Lib.hid (points_bad L A c w hA (by omega) hlen (by rw [he]; decide))
  rw [he] at HP
  have t1 : decide ((L.length : Int) > all) = false := decide_eq_false (by omega)
  have t2 : decide (all < (L.length : Int)) = false := decide_eq_false (by omega)
  clear hA hlen he
  go_enter Tryd.func21, Tryd.ntmps21
  go_wp2_with fail
  refine (HB.out _).mono ?_
  rintro ee we ⟨rfl, rfl⟩
  go_wp2_with fail
  refine HP.out.mono ?_
  rintro e w1 ⟨rfl, hb1⟩
  go_wp2
  go_ret2
  exact ⟨rfl, hb1⟩

set_option maxHeartbeats 1000000 in
theorem nshare_b1 (p all : Int) (w : World) (ha : ¬ (1 ≤ all ∧ all ≤ 24)) : Calls Tryd.prog 17 #[.int .i64 p, .int .i64 all] w fun e w' => e = .returned (.tuple #[.agg #[.int .i64 0, .int .i64 0], .int .i64 2]) ∧ Below w.heap.size w w' := by
  have HB := Lib.hid (fun W => nboard3 all W ha)
  go_enter Tryd.func17, Tryd.ntmps17
  go_wp2_with fail
  refine (HB.out _).mono ?_
  rintro ee we ⟨rfl, rfl⟩
  have k1 : (w.alloc (.cells #[.int .i64 0, .int .i64 0] 23)).heap[w.heap.size]? = _ := blk_new _ rfl
  have c2 := blk_cell k1 0
  have c3 := blk_cell k1 1
  have g0 := blk_free k1 0
  have g1 := blk_free k1 1
  have hB : Below w.heap.size w (w.alloc (.cells #[.int .i64 0, .int .i64 0] 23)) := (by repeat (first | exact Below.refl _ _ | assumption | refine Below.drew ?_ | refine below_drewN ?_ _ | refine Below.alloc ?_ (by first | omega | (simp; done) | (simp; omega)) _ | refine Below.setCell ?_ (by first | omega | (simp; done) | (simp; omega)) _))
  generalize w.alloc (.cells #[.int .i64 0, .int .i64 0] 23) = W1 at *
  go_wp2
  exact bodyPost_ret (v := .tuple #[.agg #[.int .i64 0, .int .i64 0], .int .i64 2]) (by simp [results, Tryd.results17, go_sem, c2, c3]) rfl ⟨rfl, (hB.setCell (Nat.le_refl _) _).setCell (Nat.le_refl _) _⟩

set_option maxHeartbeats 1000000 in
theorem nshare_b2 (p all : Int) (w : World) (ha : 1 ≤ all ∧ all ≤ 24) (hp : p < 0) : Calls Tryd.prog 17 #[.int .i64 p, .int .i64 all] w fun e w' => e = .returned (.tuple #[.agg #[.int .i64 0, .int .i64 0], .int .i64 2]) ∧ Below w.heap.size w w' := by
  have HB := Lib.hid (fun W => nboard2 all W ha)
  have t1 : decide (p < 0) = true := decide_eq_true hp
  go_enter Tryd.func17, Tryd.ntmps17
  go_wp2_with fail
  refine (HB.out _).mono ?_
  rintro ee we ⟨rfl, rfl⟩
  have k1 : (w.alloc (.cells #[.int .i64 0, .int .i64 0] 23)).heap[w.heap.size]? = _ := blk_new _ rfl
  have c2 := blk_cell k1 0
  have c3 := blk_cell k1 1
  have g0 := blk_free k1 0
  have g1 := blk_free k1 1
  have hB : Below w.heap.size w (w.alloc (.cells #[.int .i64 0, .int .i64 0] 23)) := (by repeat (first | exact Below.refl _ _ | assumption | refine Below.drew ?_ | refine below_drewN ?_ _ | refine Below.alloc ?_ (by first | omega | (simp; done) | (simp; omega)) _ | refine Below.setCell ?_ (by first | omega | (simp; done) | (simp; omega)) _))
  generalize w.alloc (.cells #[.int .i64 0, .int .i64 0] 23) = W1 at *
  go_wp2
  exact bodyPost_ret (v := .tuple #[.agg #[.int .i64 0, .int .i64 0], .int .i64 2]) (by simp [results, Tryd.results17, go_sem, c2, c3]) rfl ⟨rfl, (hB.setCell (Nat.le_refl _) _).setCell (Nat.le_refl _) _⟩

set_option maxHeartbeats 1000000 in
theorem nshare_b3 (p all : Int) (w : World) (ha : 1 ≤ all ∧ all ≤ 24) (hp : 100 < p) : Calls Tryd.prog 17 #[.int .i64 p, .int .i64 all] w fun e w' => e = .returned (.tuple #[.agg #[.int .i64 0, .int .i64 0], .int .i64 2]) ∧ Below w.heap.size w w' := by
  have HB := Lib.hid (fun W => nboard2 all W ha)
  have t1 : decide (p < 0) = false := decide_eq_false (by omega)
  have t2 : decide (p > 100) = true := decide_eq_true hp
  have t3 : decide (100 < p) = true := decide_eq_true hp
  go_enter Tryd.func17, Tryd.ntmps17
  go_wp2_with fail
  refine (HB.out _).mono ?_
  rintro ee we ⟨rfl, rfl⟩
  have k1 : (w.alloc (.cells #[.int .i64 0, .int .i64 0] 23)).heap[w.heap.size]? = _ := blk_new _ rfl
  have c2 := blk_cell k1 0
  have c3 := blk_cell k1 1
  have g0 := blk_free k1 0
  have g1 := blk_free k1 1
  have hB : Below w.heap.size w (w.alloc (.cells #[.int .i64 0, .int .i64 0] 23)) := (by repeat (first | exact Below.refl _ _ | assumption | refine Below.drew ?_ | refine below_drewN ?_ _ | refine Below.alloc ?_ (by first | omega | (simp; done) | (simp; omega)) _ | refine Below.setCell ?_ (by first | omega | (simp; done) | (simp; omega)) _))
  generalize w.alloc (.cells #[.int .i64 0, .int .i64 0] 23) = W1 at *
  go_wp2
  exact bodyPost_ret (v := .tuple #[.agg #[.int .i64 0, .int .i64 0], .int .i64 2]) (by simp [results, Tryd.results17, go_sem, c2, c3]) rfl ⟨rfl, (hB.setCell (Nat.le_refl _) _).setCell (Nat.le_refl _) _⟩

set_option maxHeartbeats 1000000 in
theorem npercent_b1 (f1 f2 all : Int) (w : World) (ha : ¬ (1 ≤ all ∧ all ≤ 24)) : Calls Tryd.prog 15 #[.agg #[.int .i64 f1, .int .i64 f2], .int .i64 all] w fun e w' => e = .returned (.tuple #[.agg #[.int .i64 0, .int .i64 0], .int .i64 2]) ∧ Below w.heap.size w w' := by
  have HB := Lib.hid (fun W => nboard3 all W ha)
  go_enter Tryd.func15, Tryd.ntmps15
  go_upto_region 1 with fail
  obtain ⟨W0, hW0⟩ : ∃ W0, ((w.alloc (.cells #[.int .i64 f1, .int .i64 f2] 23)).alloc (.cells #[.int .i64 0, .int .i64 0] 23)) = W0 := ⟨_, rfl⟩
  have hB0 : Below w.heap.size w W0 := by rw [← hW0]; exact (by repeat (first | exact Below.refl _ _ | assumption | refine Below.drew ?_ | refine below_drewN ?_ _ | refine Below.alloc ?_ (by first | omega | (simp; done) | (simp; omega)) _ | refine Below.setCell ?_ (by first | omega | (simp; done) | (simp; omega)) _))
  have k0 : W0.heap[w.heap.size]? = some (.cells #[.int .i64 f1, .int .i64 f2] 23) := by rw [← hW0]; exact blk_alloc (blk_new _ rfl) _
  have k1 : W0.heap[w.heap.size + 1]? = some (.cells #[.int .i64 0, .int .i64 0] 23) := by rw [← hW0]; exact blk_new _ (by simp)
  have s0 : W0.heap.size = w.heap.size + 2 := by rw [← hW0]; simp
  (try rw [hW0])
  clear hW0
  have c0 := blk_cell k0 0
  have c1 := blk_cell k0 1
  have c2 := blk_cell k1 0
  have c3 := blk_cell k1 1
  have g0 := blk_free k1 0
  have g1 := blk_free k1 1
  go_wp2_with fail
  refine (HB.out _).mono ?_
  rintro ee we ⟨rfl, rfl⟩
  go_wp2
  exact bodyPost_ret (v := .tuple #[.agg #[.int .i64 0, .int .i64 0], .int .i64 2]) (by simp [results, Tryd.results15, go_sem, c2, c3]) rfl ⟨rfl, ((hB0).setCell (by show _ ≤ w.heap.size + 1; omega) _).setCell (by show _ ≤ w.heap.size + 1; omega) _⟩

end Go.Proofs.YtlobdeakgoicpaaDoor
