/- The walks of package neuberg for any fraction: frac.Right of any integers, what Adjust rejects. -/
import Derived.Test.YtlobdeakgoicpaaDoorNeuBadW
namespace Go.Proofs.YtlobdeakgoicpaaDoor
open Go.RowKit

theorem size_all (n : Int) (w : World) (h : -9223372036854775808 ≤ n ∧ n ≤ 9223372036854775807) :
    Calls Tryd.prog 58 #[.int .i64 n] w fun e w' => e = .returned (.int .u64 ((n.natAbs : Nat) : Int)) ∧ w' = w := by
  by_cases h0 : n < 0
  · rw [show ((n.natAbs : Nat) : Int) = -n by omega]
    exact (size_neg n w (by omega)).mono fun _ _ ⟨a, b⟩ => ⟨a, b.symm⟩
  · rw [show ((n.natAbs : Nat) : Int) = n by omega]
    exact (size_pos n w (by omega)).mono fun _ _ ⟨a, b⟩ => ⟨a, b.symm⟩

set_option maxHeartbeats 1000000 in
theorem right_all (n d : Int) (hn : -9223372036854775808 ≤ n ∧ n ≤ 9223372036854775807) (hd0 : -9223372036854775808 ≤ d ∧ d ≤ 9223372036854775807) (w : World) :
    Calls Tryd.prog 34 #[.agg #[.int .i64 n, .int .i64 d]] w fun e w' => e = .returned (.bool (rightF (n, d))) ∧ Below w.heap.size w w' := by
  have k0 : (w.alloc (.cells #[.int .i64 n, .int .i64 d] 23)).heap[w.heap.size]? = _ := blk_new _ rfl
  have q0 := blk_cell k0 0
  have q1 := blk_cell k0 1
  have hB0 : Below w.heap.size w (w.alloc (.cells #[.int .i64 n, .int .i64 d] 23)) := (by repeat (first | exact Below.refl _ _ | assumption | refine Below.drew ?_ | refine below_drewN ?_ _ | refine Below.alloc ?_ (by first | omega | (simp; done) | (simp; omega)) _ | refine Below.setCell ?_ (by first | omega | (simp; done) | (simp; omega)) _))
  have hlt : w.heap.size < (w.alloc (.cells #[.int .i64 n, .int .i64 d] 23)).heap.size := by simp
  by_cases hp : 0 < d
  · obtain ⟨g, hg⟩ : ∃ g, Nat.gcd n.natAbs d.natAbs = g := ⟨_, rfl⟩
    have HSb := Lib.hid (fun W => size_all d W (by omega))
    have HSn := Lib.hid (fun W => size_all n W hn)
    have HG := Lib.hid (fun W => gcd_any n.natAbs d.natAbs W (by omega) (by omega))
    rw [hg] at HG
    have hr : rightF (n, d) = ((g : Int) == 1) := by
      unfold rightF
      dsimp only
      rw [decide_eq_true hp, Bool.true_and, hg]
      by_cases h : g = 1
      · subst h; rfl
      · rw [beq_eq_false_iff_ne.2 h, beq_eq_false_iff_ne.2 (by omega)]
    rw [hr]
    have hd3 : decide (d > 0) = true := decide_eq_true hp
    clear hr hg
    go_enter Tryd.func34, Tryd.ntmps34
    go_upto_region 1 with fail
    generalize w.alloc (.cells #[.int .i64 n, .int .i64 d] 23) = W1 at *
    go_region_held3 (fun w' => w'.cell? ⟨w.heap.size, 0, none⟩ = some (.int .i64 n) ∧ w'.cell? ⟨w.heap.size, 1, none⟩ = some (.int .i64 d)) ((first | exact ⟨q0, q1⟩ | exact ⟨keepB hba hlt q0, keepB hba hlt q1⟩))
      ((first | (go_at_call 58; first | ((with_reducible refine (HSb.out _).mono ?_); rintro ee we ⟨rfl, rfl⟩) | ((with_reducible refine (HSn.out _).mono ?_); rintro ee we ⟨rfl, rfl⟩)) | (go_at_call 60; (with_reducible refine (HG.out _).mono ?_); rintro ee wa ⟨rfl, hba⟩)))
    all_goals go_wp2
    all_goals go_ret
    all_goals exact ⟨rfl, (hB0.drew).trans (hba.mono (hB0.size))⟩
  · have hr : rightF (n, d) = false := by unfold rightF; rw [decide_eq_false hp]; rfl
    rw [hr]
    have hd3 : decide (d > 0) = false := decide_eq_false hp
    have hd4 : decide (0 < d) = false := decide_eq_false hp
    clear hr
    go_enter Tryd.func34, Tryd.ntmps34
    go_upto_region 1 with fail
    generalize w.alloc (.cells #[.int .i64 n, .int .i64 d] 23) = W1 at *
    go_quiet (fail)
    go_wp2
    go_ret
    exact ⟨rfl, below_drewN hB0 _⟩


set_option maxHeartbeats 1000000 in
theorem nadj_c4 (f1 f2 n all : Int) (w : World) (ha : 1 ≤ all ∧ all ≤ 24) (hn : 1 ≤ n ∧ n ≤ all) (h1 : -9223372036854775808 ≤ f1 ∧ f1 ≤ 9223372036854775807) (h2 : -9223372036854775808 ≤ f2 ∧ f2 ≤ 9223372036854775807) (hr : rightF (f1, f2) = false) :
    Calls Tryd.prog 11 #[.agg #[.int .i64 f1, .int .i64 f2], .int .i64 n, .int .i64 all] w fun e w' => e = .returned (.tuple #[.agg #[.int .i64 0, .int .i64 0], .int .i64 2]) ∧ Below w.heap.size w w' := by
  have HB := Lib.hid (fun W => nboard2 all W ha)
  have HR := Lib.hid (fun W => right_all f1 f2 h1 h2 W)
  rw [hr] at HR
  have t1 : decide (n < 1) = false := decide_eq_false (by omega)
  have t2 : decide (n > all) = false := decide_eq_false (by omega)
  have t3 : decide (all < n) = false := decide_eq_false (by omega)
  go_enter Tryd.func11, Tryd.ntmps11
  go_upto_region 1 with fail
  obtain ⟨W0, hW0⟩ : ∃ W0, ((w.alloc (.cells #[.int .i64 f1, .int .i64 f2] 23)).alloc (.cells #[.int .i64 0, .int .i64 0] 23)) = W0 := ⟨_, rfl⟩
  have hB0 : Below w.heap.size w W0 := by rw [← hW0]; exact (by repeat (first | exact Below.refl _ _ | assumption | refine Below.drew ?_ | refine below_drewN ?_ _ | refine Below.alloc ?_ (by first | omega | (simp; done) | (simp; omega)) _ | refine Below.setCell ?_ (by first | omega | (simp; done) | (simp; omega)) _))
  have k0 : W0.heap[w.heap.size]? = some (.cells #[.int .i64 f1, .int .i64 f2] 23) := by rw [← hW0]; exact blk_alloc (blk_new _ rfl) _
  have k1 : W0.heap[w.heap.size + 1]? = some (.cells #[.int .i64 0, .int .i64 0] 23) := by rw [← hW0]; exact blk_new _ (by simp)
  have s0 : W0.heap.size = w.heap.size + 2 := by rw [← hW0]; simp
  (try rw [hW0])
  clear hW0
  have c0 := blk_cell k0 0
  have c1 := blk_cell k0 1
  have c2 := blk_cell k1 0
  have c3 := blk_cell k1 1
  have g0 := blk_free k1 0
  have g1 := blk_free k1 1
  go_wp2_with fail
  refine (HB.out _).mono ?_
  rintro ee we ⟨rfl, rfl⟩
  go_wp2_with fail
  refine (HR.out _).mono ?_
  rintro ee W1 ⟨rfl, hb1⟩
  have m0 := blk_below k0 hb1 (by omega)
  have m1 := blk_below k1 hb1 (by omega)
  have c0 := blk_cell m0 0
  have c1 := blk_cell m0 1
  have c2 := blk_cell m1 0
  have c3 := blk_cell m1 1
  have g0 := blk_free m1 0
  have g1 := blk_free m1 1
  have hB1 := hB0.trans (hb1.mono hB0.size)
  go_wp2
  exact bodyPost_ret (v := .tuple #[.agg #[.int .i64 0, .int .i64 0], .int .i64 2]) (by simp [results, Tryd.results11, go_sem, c2, c3]) rfl ⟨rfl, ((hB1).setCell (by show _ ≤ w.heap.size + 1; omega) _).setCell (by show _ ≤ w.heap.size + 1; omega) _⟩

set_option maxHeartbeats 2000000 in
theorem nadj_c5 (f1 f2 n all : Int) (w : World) (ha : 1 ≤ all ∧ all ≤ 24) (hn : 1 ≤ n ∧ n ≤ all) (h1 : -9223372036854775808 ≤ f1 ∧ f1 ≤ 9223372036854775807) (h2 : -9223372036854775808 ≤ f2 ∧ f2 ≤ 9223372036854775807) (hr : rightF (f1, f2) = true) (hd : 10000 < f2) :
    Calls Tryd.prog 11 #[.agg #[.int .i64 f1, .int .i64 f2], .int .i64 n, .int .i64 all] w fun e w' => e = .returned (.tuple #[.agg #[.int .i64 0, .int .i64 0], .int .i64 2]) ∧ Below w.heap.size w w' := by
  have HB := Lib.hid (fun W => nboard2 all W ha)
  have HR := Lib.hid (fun W => right_all f1 f2 h1 h2 W)
  rw [hr] at HR
  have t1 : decide (n < 1) = false := decide_eq_false (by omega)
  have t2 : decide (n > all) = false := decide_eq_false (by omega)
  have t3 : decide (all < n) = false := decide_eq_false (by omega)
  have t4 : decide (f2 > 10000) = true := decide_eq_true hd
  have t5 : decide (10000 < f2) = true := decide_eq_true hd
  go_enter Tryd.func11, Tryd.ntmps11
  go_upto_region 1 with fail
  obtain ⟨W0, hW0⟩ : ∃ W0, ((w.alloc (.cells #[.int .i64 f1, .int .i64 f2] 23)).alloc (.cells #[.int .i64 0, .int .i64 0] 23)) = W0 := ⟨_, rfl⟩
  have hB0 : Below w.heap.size w W0 := by rw [← hW0]; exact (by repeat (first | exact Below.refl _ _ | assumption | refine Below.drew ?_ | refine below_drewN ?_ _ | refine Below.alloc ?_ (by first | omega | (simp; done) | (simp; omega)) _ | refine Below.setCell ?_ (by first | omega | (simp; done) | (simp; omega)) _))
  have k0 : W0.heap[w.heap.size]? = some (.cells #[.int .i64 f1, .int .i64 f2] 23) := by rw [← hW0]; exact blk_alloc (blk_new _ rfl) _
  have k1 : W0.heap[w.heap.size + 1]? = some (.cells #[.int .i64 0, .int .i64 0] 23) := by rw [← hW0]; exact blk_new _ (by simp)
  have s0 : W0.heap.size = w.heap.size + 2 := by rw [← hW0]; simp
  (try rw [hW0])
  clear hW0
  have c0 := blk_cell k0 0
  have c1 := blk_cell k0 1
  have c2 := blk_cell k1 0
  have c3 := blk_cell k1 1
  have g0 := blk_free k1 0
  have g1 := blk_free k1 1
  go_wp2_with fail
  refine (HB.out _).mono ?_
  rintro ee we ⟨rfl, rfl⟩
  go_wp2_with fail
  refine (HR.out _).mono ?_
  rintro ee W1 ⟨rfl, hb1⟩
  have m0 := blk_below k0 hb1 (by omega)
  have m1 := blk_below k1 hb1 (by omega)
  have c0 := blk_cell m0 0
  have c1 := blk_cell m0 1
  have c2 := blk_cell m1 0
  have c3 := blk_cell m1 1
  have g0 := blk_free m1 0
  have g1 := blk_free m1 1
  have hB1 := hB0.trans (hb1.mono hB0.size)
  go_upto_region 3 with fail
  go_quiet (fail)
  have c2 : (W1.drewN nq).cell? ⟨w.heap.size + 1, 0, none⟩ = _ := c2
  have c3 : (W1.drewN nq).cell? ⟨w.heap.size + 1, 1, none⟩ = _ := c3
  have g0 : (W1.drewN nq).frozen? ⟨w.heap.size + 1, 0, none⟩ = _ := g0
  have g1 : (W1.drewN nq).frozen? ⟨w.heap.size + 1, 1, none⟩ = _ := g1
  have hB2 := below_drewN hB1 nq
  generalize W1.drewN nq = W2 at c2 c3 g0 g1 hB2 ⊢
  go_wp2
  exact bodyPost_ret (v := .tuple #[.agg #[.int .i64 0, .int .i64 0], .int .i64 2]) (by simp [results, Tryd.results11, go_sem, c2, c3]) rfl ⟨rfl, ((hB2).setCell (by show _ ≤ w.heap.size + 1; omega) _).setCell (by show _ ≤ w.heap.size + 1; omega) _⟩

set_option maxHeartbeats 2000000 in
theorem nadj_c6 (f1 f2 n all : Int) (w : World) (ha : 1 ≤ all ∧ all ≤ 24) (hn : 1 ≤ n ∧ n ≤ all) (h1 : -9223372036854775808 ≤ f1 ∧ f1 ≤ 9223372036854775807) (h2 : -9223372036854775808 ≤ f2 ∧ f2 ≤ 9223372036854775807) (hr : rightF (f1, f2) = true) (hd : f2 ≤ 10000) (hneg : f1 < 0) :
    Calls Tryd.prog 11 #[.agg #[.int .i64 f1, .int .i64 f2], .int .i64 n, .int .i64 all] w fun e w' => e = .returned (.tuple #[.agg #[.int .i64 0, .int .i64 0], .int .i64 2]) ∧ Below w.heap.size w w' := by
  have HB := Lib.hid (fun W => nboard2 all W ha)
  have HR := Lib.hid (fun W => right_all f1 f2 h1 h2 W)
  rw [hr] at HR
  have t1 : decide (n < 1) = false := decide_eq_false (by omega)
  have t2 : decide (n > all) = false := decide_eq_false (by omega)
  have t3 : decide (all < n) = false := decide_eq_false (by omega)
  have t4 : decide (f2 > 10000) = false := decide_eq_false (by omega)
  have t5 : decide (10000 < f2) = false := decide_eq_false (by omega)
  have t6 : decide (f1 < 0) = true := decide_eq_true hneg
  go_enter Tryd.func11, Tryd.ntmps11
  go_upto_region 1 with fail
  obtain ⟨W0, hW0⟩ : ∃ W0, ((w.alloc (.cells #[.int .i64 f1, .int .i64 f2] 23)).alloc (.cells #[.int .i64 0, .int .i64 0] 23)) = W0 := ⟨_, rfl⟩
  have hB0 : Below w.heap.size w W0 := by rw [← hW0]; exact (by repeat (first | exact Below.refl _ _ | assumption | refine Below.drew ?_ | refine below_drewN ?_ _ | refine Below.alloc ?_ (by first | omega | (simp; done) | (simp; omega)) _ | refine Below.setCell ?_ (by first | omega | (simp; done) | (simp; omega)) _))
  have k0 : W0.heap[w.heap.size]? = some (.cells #[.int .i64 f1, .int .i64 f2] 23) := by rw [← hW0]; exact blk_alloc (blk_new _ rfl) _
  have k1 : W0.heap[w.heap.size + 1]? = some (.cells #[.int .i64 0, .int .i64 0] 23) := by rw [← hW0]; exact blk_new _ (by simp)
  have s0 : W0.heap.size = w.heap.size + 2 := by rw [← hW0]; simp
  (try rw [hW0])
  clear hW0
  have c0 := blk_cell k0 0
  have c1 := blk_cell k0 1
  have c2 := blk_cell k1 0
  have c3 := blk_cell k1 1
  have g0 := blk_free k1 0
  have g1 := blk_free k1 1
  go_wp2_with fail
  refine (HB.out _).mono ?_
  rintro ee we ⟨rfl, rfl⟩
  go_wp2_with fail
  refine (HR.out _).mono ?_
  rintro ee W1 ⟨rfl, hb1⟩
  have m0 := blk_below k0 hb1 (by omega)
  have m1 := blk_below k1 hb1 (by omega)
  have c0 := blk_cell m0 0
  have c1 := blk_cell m0 1
  have c2 := blk_cell m1 0
  have c3 := blk_cell m1 1
  have g0 := blk_free m1 0
  have g1 := blk_free m1 1
  have hB1 := hB0.trans (hb1.mono hB0.size)
  go_upto_region 3 with fail
  go_quiet (fail)
  have c2 : (W1.drewN nq).cell? ⟨w.heap.size + 1, 0, none⟩ = _ := c2
  have c3 : (W1.drewN nq).cell? ⟨w.heap.size + 1, 1, none⟩ = _ := c3
  have g0 : (W1.drewN nq).frozen? ⟨w.heap.size + 1, 0, none⟩ = _ := g0
  have g1 : (W1.drewN nq).frozen? ⟨w.heap.size + 1, 1, none⟩ = _ := g1
  have hB2 := below_drewN hB1 nq
  generalize W1.drewN nq = W2 at c2 c3 g0 g1 hB2 ⊢
  go_wp2
  exact bodyPost_ret (v := .tuple #[.agg #[.int .i64 0, .int .i64 0], .int .i64 2]) (by simp [results, Tryd.results11, go_sem, c2, c3]) rfl ⟨rfl, ((hB2).setCell (by show _ ≤ w.heap.size + 1; omega) _).setCell (by show _ ≤ w.heap.size + 1; omega) _⟩

set_option maxHeartbeats 2000000 in
theorem nadj_c7 (f1 f2 n all : Int) (w : World) (ha : 1 ≤ all ∧ all ≤ 24) (hn : 1 ≤ n ∧ n ≤ all) (h1 : 0 ≤ f1 ∧ f1 ≤ 9223372036854775807) (h2 : 1 ≤ f2 ∧ f2 ≤ 10000) (hr : rightF (f1, f2) = true) (hbig : 2 * (n - 1) * f2 < f1) :
    Calls Tryd.prog 11 #[.agg #[.int .i64 f1, .int .i64 f2], .int .i64 n, .int .i64 all] w fun e w' => e = .returned (.tuple #[.agg #[.int .i64 0, .int .i64 0], .int .i64 2]) ∧ Below w.heap.size w w' := by
  have HB := Lib.hid (fun W => nboard2 all W ha)
  have HR := Lib.hid (fun W => right_all f1 f2 (by omega) (by omega) W)
  rw [hr] at HR
  obtain ⟨T, hT⟩ : ∃ T : Int, 2 * (n - 1) = T := ⟨_, rfl⟩
  have HT := Lib.hid (fun W => topN_any n W (by omega))
  rw [if_neg (by omega), hT] at HT
  rw [hT] at hbig
  have t1 : decide (n < 1) = false := decide_eq_false (by omega)
  have t2 : decide (n > all) = false := decide_eq_false (by omega)
  have t3 : decide (all < n) = false := decide_eq_false (by omega)
  have t6 : decide (f1 < 0) = false := decide_eq_false (by omega)
  have hTb := mulB (x := T) (y := f2) (X := 46) (Y := 10000) (by omega) (by omega)
  have t11 : IntKind.i64.wrap (T * f2) = T * f2 := IntWalk.i64_in _ (by omega)
  have t10 : IntKind.i64.wrap T = T := IntWalk.i64_in _ (by omega)
  have t7 : decide (f1 > T * f2) = true := decide_eq_true hbig
  have t8 : decide (T * f2 < f1) = true := decide_eq_true hbig
  have t4 : decide (f2 > 10000) = false := decide_eq_false (by omega)
  have t5 : decide (10000 < f2) = false := decide_eq_false (by omega)
  clear hT hbig hTb
  go_enter Tryd.func11, Tryd.ntmps11
  go_upto_region 1 with fail
  obtain ⟨W0, hW0⟩ : ∃ W0, ((w.alloc (.cells #[.int .i64 f1, .int .i64 f2] 23)).alloc (.cells #[.int .i64 0, .int .i64 0] 23)) = W0 := ⟨_, rfl⟩
  have hB0 : Below w.heap.size w W0 := by rw [← hW0]; exact (by repeat (first | exact Below.refl _ _ | assumption | refine Below.drew ?_ | refine below_drewN ?_ _ | refine Below.alloc ?_ (by first | omega | (simp; done) | (simp; omega)) _ | refine Below.setCell ?_ (by first | omega | (simp; done) | (simp; omega)) _))
  have k0 : W0.heap[w.heap.size]? = some (.cells #[.int .i64 f1, .int .i64 f2] 23) := by rw [← hW0]; exact blk_alloc (blk_new _ rfl) _
  have k1 : W0.heap[w.heap.size + 1]? = some (.cells #[.int .i64 0, .int .i64 0] 23) := by rw [← hW0]; exact blk_new _ (by simp)
  have s0 : W0.heap.size = w.heap.size + 2 := by rw [← hW0]; simp
  (try rw [hW0])
  clear hW0
  have c0 := blk_cell k0 0
  have c1 := blk_cell k0 1
  have c2 := blk_cell k1 0
  have c3 := blk_cell k1 1
  have g0 := blk_free k1 0
  have g1 := blk_free k1 1
  go_wp2_with fail
  refine (HB.out _).mono ?_
  rintro ee we ⟨rfl, rfl⟩
  go_wp2_with fail
  refine (HR.out _).mono ?_
  rintro ee W1 ⟨rfl, hb1⟩
  have m0 := blk_below k0 hb1 (by omega)
  have m1 := blk_below k1 hb1 (by omega)
  have c0 := blk_cell m0 0
  have c1 := blk_cell m0 1
  have c2 := blk_cell m1 0
  have c3 := blk_cell m1 1
  have g0 := blk_free m1 0
  have g1 := blk_free m1 1
  have hB1 := hB0.trans (hb1.mono hB0.size)
  go_upto_region 3 with fail
  go_region_held3 (fun w' => w'.cell? ⟨w.heap.size, 0, none⟩ = some (.int .i64 f1) ∧ w'.cell? ⟨w.heap.size, 1, none⟩ = some (.int .i64 f2)) ((first | exact ⟨c0, c1⟩))
    ((go_at_call 35; (with_reducible refine (HT.out _).mono ?_); rintro ee we ⟨rfl, rfl⟩))
  have c2 : W1.drew.cell? ⟨w.heap.size + 1, 0, none⟩ = _ := c2
  have c3 : W1.drew.cell? ⟨w.heap.size + 1, 1, none⟩ = _ := c3
  have g0 : W1.drew.frozen? ⟨w.heap.size + 1, 0, none⟩ = _ := g0
  have g1 : W1.drew.frozen? ⟨w.heap.size + 1, 1, none⟩ = _ := g1
  have hB2 := hB1.drew
  generalize W1.drew = W2 at c2 c3 g0 g1 hB2 ⊢
  go_wp2
  exact bodyPost_ret (v := .tuple #[.agg #[.int .i64 0, .int .i64 0], .int .i64 2]) (by simp [results, Tryd.results11, go_sem, c2, c3]) rfl ⟨rfl, ((hB2).setCell (by show _ ≤ w.heap.size + 1; omega) _).setCell (by show _ ≤ w.heap.size + 1; omega) _⟩

end Go.Proofs.YtlobdeakgoicpaaDoor
