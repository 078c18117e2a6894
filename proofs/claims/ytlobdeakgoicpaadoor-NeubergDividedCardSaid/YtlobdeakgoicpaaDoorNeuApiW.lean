/- The walks of neuberg.Sum, Share, Percent, and finesselaw21.q. -/
import Derived.Test.YtlobdeakgoicpaaDoorNeuAdjW
namespace Go.Proofs.YtlobdeakgoicpaaDoor
open Go.RowKit

theorem nboard2 (n : Int) (w : World) (h : 1 ≤ n ∧ n ≤ 24) : Calls Tryd.prog 33 #[.int .i64 n] w fun e w' => e = .returned (.bool true) ∧ w = w' :=
  (nboard n w).mono fun e w' hh => ⟨hh.1.trans (by rw [decide_eq_true h]), hh.2.symm⟩

theorem q_any (n d : Int) (w : World) : Calls Tryd.prog 24 #[.int .i64 n, .int .i64 d] w fun e w' => e = .returned (.agg #[.int .i64 n, .int .i64 d]) ∧ Below w.heap.size w w' := by
  go_enter Tryd.func24, Tryd.ntmps24
  go_wp2
  exact bodyPost_ret (v := .agg #[.int .i64 n, .int .i64 d]) (by simp [results, Tryd.results24, go_sem]) rfl ⟨rfl, (by repeat (first | exact Below.refl _ _ | assumption | refine Below.drew ?_ | refine below_drewN ?_ _ | refine Below.alloc ?_ (by first | omega | (simp; done) | (simp; omega)) _ | refine Below.setCell ?_ (by first | omega | (simp; done) | (simp; omega)) _))⟩

theorem nsum (n all : Int) (w : World) (hn : 0 ≤ n ∧ n ≤ all) (ha : 1 ≤ all ∧ all ≤ 24) :
    Calls Tryd.prog 13 #[.int .i64 n, .int .i64 all] w fun e w' => e = .returned (.tuple #[.int .i64 (n * (all - 1)), .int .i64 0]) ∧ w = w' := by
  have HB := Lib.hid (fun W => nboard2 all W ha)
  have t1 : decide (n < 0) = false := decide_eq_false (by omega)
  have t2 : decide (n > all) = false := decide_eq_false (by omega)
  have t2' : decide (all < n) = false := decide_eq_false (by omega)
  have hb : 0 ≤ n * (all - 1) ∧ n * (all - 1) ≤ 24 * 24 := ⟨Int.mul_nonneg (by omega) (by omega), Int.mul_le_mul (by omega) (by omega) (by omega) (by omega)⟩
  obtain ⟨p, hp⟩ : ∃ p, n * (all - 1) = p := ⟨_, rfl⟩
  rw [hp] at hb ⊢
  have a1 : IntKind.i64.wrap (all - 1) = all - 1 := IntWalk.i64_in _ (by omega)
  have a2 : IntKind.i64.wrap (n * (all - 1)) = p := by rw [hp]; exact IntWalk.i64_in _ (by omega)
  go_enter Tryd.func13, Tryd.ntmps13
  go_wp2_with fail
  refine (HB.out _).mono ?_
  rintro ee we ⟨rfl, rfl⟩
  go_wp2
  go_ret2
  exact ⟨rfl, rfl⟩

set_option maxHeartbeats 2000000 in
theorem nshare (p all : Int) (w : World) (hp : 0 ≤ p ∧ p ≤ 100) (ha : 1 ≤ all ∧ all ≤ 24) :
    Calls Tryd.prog 17 #[.int .i64 p, .int .i64 all] w fun e w' => e = .returned (.tuple #[fV (mulF (p, 1) (fr (2 * (all - 1)) 100)), .int .i64 0]) ∧ Below w.heap.size w w' := by
  have HB := Lib.hid (fun W => nboard2 all W ha)
  obtain ⟨T, hT⟩ : ∃ T : Int, 2 * (all - 1) = T := ⟨_, rfl⟩
  have HT := Lib.hid (fun W => topN_any all W (by omega))
  rw [if_neg (by omega)] at HT
  rw [hT] at HT ⊢
  have HA := Lib.hid (fun (W : World) (b t g1 g2 : Nat) hs c0 d0 => napply1 (p, 1) (mulF (p, 1) (fr T 100)) T 100 b t g1 g2 W hs c0 d0 rfl (sm_whole p (by omega)) ⟨by omega, by omega⟩)
  generalize mulF (p, 1) (fr T 100) = r at *
  obtain ⟨x, y⟩ := r
  unfold fV at *
  dsimp only at *
  have t1 : decide (p < 0) = false := decide_eq_false (by omega)
  have t2 : decide (p > 100) = false := decide_eq_false (by omega)
  have t2' : decide (100 < p) = false := decide_eq_false (by omega)
  clear hT
  go_enter Tryd.func17, Tryd.ntmps17
  go_wp2_with fail
  refine (HB.out _).mono ?_
  rintro ee we ⟨rfl, rfl⟩
  go_wp2_with fail
  refine (HT.out _).mono ?_
  rintro ee we ⟨rfl, rfl⟩
  go_wp2_with fail
  refine (ntimes _ _ _).mono ?_
  rintro ee we ⟨rfl, rfl⟩
  go_wp2_with fail
  refine (HA.out _ _ _ _ _ (blk_new _ (by simp)) (blk_cell (blk_alloc (blk_alloc (blk_new _ (by simp)) _) _) 0) (blk_cell (blk_alloc (blk_new _ (by simp)) _) 0)).mono ?_
  rintro ee wa ⟨rfl, hba⟩
  have k1 : wa.heap[w.heap.size]? = some (.cells #[.int .i64 0, .int .i64 0] 23) := blk_below (blk_alloc (blk_alloc (blk_alloc (blk_new _ rfl) _) _) _) hba (by simp; omega)
  have c2 := blk_cell k1 0
  have c3 := blk_cell k1 1
  have g0 := blk_free k1 0
  have g1 := blk_free k1 1
  have hB : Below w.heap.size w wa := (show Below w.heap.size w _ from (by repeat (first | exact Below.refl _ _ | assumption | refine Below.drew ?_ | refine below_drewN ?_ _ | refine Below.alloc ?_ (by first | omega | (simp; done) | (simp; omega)) _ | refine Below.setCell ?_ (by first | omega | (simp; done) | (simp; omega)) _))).trans (hba.mono (by simp; omega))
  go_wp2
  exact bodyPost_ret (v := .tuple #[.agg #[.int .i64 x, .int .i64 y], .int .i64 0]) (by simp [results, Tryd.results17, go_sem, c2, c3]) rfl ⟨rfl, (hB.setCell (Nat.le_refl _) _).setCell (Nat.le_refl _) _⟩

set_option maxHeartbeats 2000000 in
theorem npercent (f : Pt) (all : Int) (w : World) (ha : 2 ≤ all ∧ all ≤ 24) (s0 : smF f) :
    Calls Tryd.prog 15 #[fV f, .int .i64 all] w fun e w' => e = .returned (.tuple #[fV (mulF f (fr 100 (2 * (all - 1)))), .int .i64 0]) ∧ Below w.heap.size w w' := by
  have HB := Lib.hid (fun W => nboard2 all W (by omega))
  have HR := Lib.hid (fun W => right_sm f s0 W)
  obtain ⟨T, hT⟩ : ∃ T : Int, 2 * (all - 1) = T := ⟨_, rfl⟩
  have HT := Lib.hid (fun W => topN_any all W (by omega))
  rw [if_neg (by omega)] at HT
  rw [hT] at HT ⊢
  have HA := Lib.hid (fun (W : World) (b t g1 g2 : Nat) hs c0 d0 => napply1 f (mulF f (fr 100 T)) 100 T b t g1 g2 W hs c0 d0 rfl s0 ⟨by omega, by omega⟩)
  generalize mulF f (fr 100 T) = r at *
  obtain ⟨f1, f2⟩ := f
  obtain ⟨x, y⟩ := r
  unfold fV at *
  dsimp only at *
  have t1 : (all == 1) = false := beq_eq_false_iff_ne.2 (by omega)
  have t2 : ¬ all = 1 := by omega
  clear hT s0
  go_enter Tryd.func15, Tryd.ntmps15
  go_upto_region 1 with fail
  obtain ⟨W0, hW0⟩ : ∃ W0, ((w.alloc (.cells #[.int .i64 f1, .int .i64 f2] 23)).alloc (.cells #[.int .i64 0, .int .i64 0] 23)) = W0 := ⟨_, rfl⟩
  have hB0 : Below w.heap.size w W0 := by rw [← hW0]; exact (by repeat (first | exact Below.refl _ _ | assumption | refine Below.drew ?_ | refine below_drewN ?_ _ | refine Below.alloc ?_ (by first | omega | (simp; done) | (simp; omega)) _ | refine Below.setCell ?_ (by first | omega | (simp; done) | (simp; omega)) _))
  have k0 : W0.heap[w.heap.size]? = some (.cells #[.int .i64 f1, .int .i64 f2] 23) := by rw [← hW0]; exact blk_alloc (blk_new _ rfl) _
  have k1 : W0.heap[w.heap.size + 1]? = some (.cells #[.int .i64 0, .int .i64 0] 23) := by rw [← hW0]; exact blk_new _ (by simp)
  have s0 : W0.heap.size = w.heap.size + 2 := by rw [← hW0]; simp
  (try rw [hW0])
  clear hW0
  have c0 := blk_cell k0 0
  have c1 := blk_cell k0 1
  go_wp2_with fail
  refine (HB.out _).mono ?_
  rintro ee we ⟨rfl, rfl⟩
  go_wp2_with fail
  refine (HR.out _).mono ?_
  rintro ee W1 ⟨rfl, hb1⟩
  have m0 := blk_below k0 hb1 (by omega)
  have m1 := blk_below k1 hb1 (by omega)
  have c0 := blk_cell m0 0
  have c1 := blk_cell m0 1
  have hB1 := hB0.trans (hb1.mono hB0.size)
  have sz1 := hb1.size
  go_upto_region 5 with fail
  obtain ⟨WX, hWX⟩ : ∃ WX, (((W1.alloc (.cells #[.int .i64 100] 3)).alloc (.cells #[.int .i64 T] 3)).alloc (.cells #[.func (.func 62) #[] #[.pointer (some ⟨W1.heap.size, 0, none⟩), .pointer (some ⟨W1.heap.size + 1, 0, none⟩)]] 70)) = WX := ⟨_, rfl⟩
  have x0 : WX.heap[W1.heap.size]? = some (.cells #[.int .i64 100] 3) := by rw [← hWX]; exact blk_alloc (blk_alloc (blk_new _ rfl) _) _
  have x1 : WX.heap[W1.heap.size + 1]? = some (.cells #[.int .i64 T] 3) := by rw [← hWX]; exact blk_alloc (blk_new _ (by simp)) _
  have x4 : WX.heap[W1.heap.size + 1 + 1]? = some (.cells #[.func (.func 62) #[] #[.pointer (some ⟨W1.heap.size, 0, none⟩), .pointer (some ⟨W1.heap.size + 1, 0, none⟩)]] 70) := by rw [← hWX]; exact blk_new _ (by simp)
  have hBX : Below W1.heap.size W1 WX := by rw [← hWX]; exact (by repeat (first | exact Below.refl _ _ | assumption | refine Below.drew ?_ | refine below_drewN ?_ _ | refine Below.alloc ?_ (by first | omega | (simp; done) | (simp; omega)) _ | refine Below.setCell ?_ (by first | omega | (simp; done) | (simp; omega)) _))
  have HX := HA.out WX.drew _ _ _ _ x4 (blk_cell x0 0) (blk_cell x1 0)
  have HX2 := HX.mono fun ee wa (h : ee = .returned (.tuple #[.agg #[.int .i64 x, .int .i64 y], .int .i64 0]) ∧ Below WX.drew.heap.size WX.drew wa) =>
    (show ee = .returned (.tuple #[.agg #[.int .i64 x, .int .i64 y], .int .i64 0]) ∧ Below w.heap.size w wa ∧ wa.cell? ⟨w.heap.size, 0, none⟩ = some (.int .i64 f1) ∧ wa.cell? ⟨w.heap.size, 1, none⟩ = some (.int .i64 f2) ∧ wa.cell? ⟨w.heap.size + 1, 0, none⟩ = some (.int .i64 0) ∧ wa.cell? ⟨w.heap.size + 1, 1, none⟩ = some (.int .i64 0) ∧ wa.frozen? ⟨w.heap.size + 1, 0, none⟩ = false ∧ wa.frozen? ⟨w.heap.size + 1, 1, none⟩ = false from
      have hb : Below W1.heap.size W1 wa := hBX.drew.trans (h.2.mono hBX.size)
      have a0 := blk_below m0 hb (by omega)
      have a1 := blk_below m1 hb (by omega)
      ⟨h.1, hB1.trans (hb.mono hB1.size), blk_cell a0 0, blk_cell a0 1, blk_cell a1 0, blk_cell a1 1, blk_free a1 0, blk_free a1 1⟩)
  rw [← hWX] at HX2
  have HX3 := Lib.hid HX2
  have HK := Lib.hid (fun (w' : World) (h : ∀ (p : Addr) (v : Value), W1.cell? p = some v → w'.cell? p = some v) => (show w'.cell? ⟨w.heap.size, 0, none⟩ = some (.int .i64 f1) ∧ w'.cell? ⟨w.heap.size, 1, none⟩ = some (.int .i64 f2) from ⟨h _ _ c0, h _ _ c1⟩))
  have ne0 : w.heap.size + 1 ≠ w.heap.size := by omega
  clear HX HX2 hWX x0 x1 x4 hBX HA HB HR t1 t2 ha
  go_region_held3 (fun w' => w'.cell? ⟨w.heap.size, 0, none⟩ = some (.int .i64 f1) ∧ w'.cell? ⟨w.heap.size, 1, none⟩ = some (.int .i64 f2)) ((first | exact ⟨keepS (keepS hk0 ne0 _) ne0 _, keepS (keepS hk1 ne0 _) ne0 _⟩ | exact ⟨hk0, hk1⟩ | exact HK.out _ (fun p v h => h) | exact HK.out _ (fun p v h => keepC (keepC h _) _) | exact HK.out _ (fun p v h => keepC (keepC (keepC h _) _) _)))
    ((first
      | (go_at_call 35; (with_reducible refine (HT.out _).mono ?_); rintro ee we ⟨rfl, rfl⟩)
      | (go_at_call 38; (with_reducible refine (ntimes _ _ _).mono ?_); rintro ee we ⟨rfl, rfl⟩)
      | (go_at_call 36; refine HX3.out.mono ?_; rintro ee wa ⟨rfl, hBa, hk0, hk1, hc2, hc3, hf2, hf3⟩)))
  go_wp2
  exact bodyPost_ret (v := .tuple #[.agg #[.int .i64 x, .int .i64 y], .int .i64 0]) (by simp [results, Tryd.results15, go_sem, hc2, hc3]) rfl ⟨rfl, (hBa.setCell (by show _ ≤ w.heap.size + 1; omega) _).setCell (by show _ ≤ w.heap.size + 1; omega) _⟩

set_option maxHeartbeats 1000000 in
theorem npercent_one (f : Pt) (w : World) (s0 : smF f) :
    Calls Tryd.prog 15 #[fV f, .int .i64 1] w fun e w' => e = .returned (.tuple #[.agg #[.int .i64 0, .int .i64 0], .int .i64 6]) ∧ Below w.heap.size w w' := by
  have HB := Lib.hid (fun W => nboard2 1 W (by omega))
  have HR := Lib.hid (fun W => right_sm f s0 W)
  obtain ⟨f1, f2⟩ := f
  unfold fV at *
  dsimp only at *
  clear s0
  go_enter Tryd.func15, Tryd.ntmps15
  go_upto_region 1 with fail
  obtain ⟨W0, hW0⟩ : ∃ W0, ((w.alloc (.cells #[.int .i64 f1, .int .i64 f2] 23)).alloc (.cells #[.int .i64 0, .int .i64 0] 23)) = W0 := ⟨_, rfl⟩
  have hB0 : Below w.heap.size w W0 := by rw [← hW0]; exact (by repeat (first | exact Below.refl _ _ | assumption | refine Below.drew ?_ | refine below_drewN ?_ _ | refine Below.alloc ?_ (by first | omega | (simp; done) | (simp; omega)) _ | refine Below.setCell ?_ (by first | omega | (simp; done) | (simp; omega)) _))
  have k0 : W0.heap[w.heap.size]? = some (.cells #[.int .i64 f1, .int .i64 f2] 23) := by rw [← hW0]; exact blk_alloc (blk_new _ rfl) _
  have k1 : W0.heap[w.heap.size + 1]? = some (.cells #[.int .i64 0, .int .i64 0] 23) := by rw [← hW0]; exact blk_new _ (by simp)
  have s0 : W0.heap.size = w.heap.size + 2 := by rw [← hW0]; simp
  (try rw [hW0])
  clear hW0
  have c0 := blk_cell k0 0
  have c1 := blk_cell k0 1
  go_wp2_with fail
  refine (HB.out _).mono ?_
  rintro ee we ⟨rfl, rfl⟩
  go_wp2_with fail
  refine (HR.out _).mono ?_
  rintro ee W1 ⟨rfl, hb1⟩
  have m1 := blk_below k1 hb1 (by omega)
  have c2 := blk_cell m1 0
  have c3 := blk_cell m1 1
  have g0 := blk_free m1 0
  have g1 := blk_free m1 1
  have hB1 := hB0.trans (hb1.mono hB0.size)
  go_wp2
  exact bodyPost_ret (v := .tuple #[.agg #[.int .i64 0, .int .i64 0], .int .i64 6]) (by simp [results, Tryd.results15, go_sem, c2, c3]) rfl ⟨rfl, (hB1.setCell (by show _ ≤ w.heap.size + 1; omega) _).setCell (by show _ ≤ w.heap.size + 1; omega) _⟩

end Go.Proofs.YtlobdeakgoicpaaDoor
