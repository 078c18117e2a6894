/- The walk of Made of layer 22's statements. (Written by genmade22.py.) -/
import Derived.Test.YtchklobblkddhaaDoorAdjMadeW
import Derived.Laws.CopyOwn
import Derived.Deep.RegionWith
namespace Go.Proofs.YtchklobblkddhaaDoor
open Go.RowKit

theorem sm_b (x : SmE) : ∀ i, i < 4 → (smA x)[3 + i]? = some (.int .u8 (x.b i)) := fun i hi => by
  obtain rfl | rfl | rfl | rfl : i = 0 ∨ i = 1 ∨ i = 2 ∨ i = 3 := by omega
  all_goals rfl
theorem sm_t (x : SmE) : ∀ i, i < 4 → (smA x)[7 + i]? = some (.int .u8 (x.t i)) := fun i hi => by
  obtain rfl | rfl | rfl | rfl : i = 0 ∨ i = 1 ∨ i = 2 ∨ i = 3 := by omega
  all_goals rfl
theorem sm_v (x : SmE) : ∀ i, i < 3 → (smA x)[11 + i]? = some (.int .u8 (x.v i)) := fun i hi => by
  obtain rfl | rfl | rfl : i = 0 ∨ i = 1 ∨ i = 2 := by omega
  all_goals rfl
/-- An outcome stored into a block of cells, from an offset on. -/
def six (w : World) (g off : Nat) (x : Oc) : World := (((((w.setCell ⟨g, off, none⟩ (.int .u8 x.l)).setCell ⟨g, off + 1, none⟩ (.int .u8 x.d)).setCell ⟨g, off + 2, none⟩ (.int .u8 x.r)).setCell ⟨g, off + 3, none⟩ (.int .u8 x.s)).setCell ⟨g, off + 4, none⟩ (.int .i64 x.t)).setCell ⟨g, off + 5, none⟩ (.int .i64 x.w)
theorem six_set {w : World} {g k0 : Nat} {k f a0 a1 : Int} {o : Nat → Oc} (h : w.heap[g]? = some (.cells (enCells k f o a0 a1) k0)) (i : Nat) (hi : i < 4) (x : Oc) : (six w g (7 + i * 6) x).heap[g]? = some (.cells (enCells k f (upd o i x) a0 a1) k0) :=
  (blk_set (blk_set (blk_set (blk_set (blk_set (blk_set h (7 + i * 6) (.int .u8 x.l)) (7 + i * 6 + 1) (.int .u8 x.d)) (7 + i * 6 + 2) (.int .u8 x.r)) (7 + i * 6 + 3) (.int .u8 x.s)) (7 + i * 6 + 4) (.int .i64 x.t)) (7 + i * 6 + 5) (.int .i64 x.w)).trans (congrArg (fun c => some (Obj.cells c k0)) (enCells_set k f o a0 a1 i hi x))
theorem six_far {w : World} {g g2 : Nat} {y : Option Obj} (h : w.heap[g2]? = y) (hne : g2 ≠ g) (off : Nat) (x : Oc) : (six w g off x).heap[g2]? = y :=
  blk_far (blk_far (blk_far (blk_far (blk_far (blk_far h hne _) hne _) hne _) hne _) hne _) hne _
theorem six_below {B : Nat} {w0 w : World} (h : Below B w0 w) (g off : Nat) (hg : B ≤ g) (x : Oc) : Below B w0 (six w g off x) :=
  (((((h.setCell (p := ⟨g, off, none⟩) hg _).setCell (p := ⟨g, off + 1, none⟩) hg _).setCell (p := ⟨g, off + 2, none⟩) hg _).setCell (p := ⟨g, off + 3, none⟩) hg _).setCell (p := ⟨g, off + 4, none⟩) hg _).setCell (p := ⟨g, off + 5, none⟩) hg _
theorem awT_get (i : Int) (h : 0 ≤ i ∧ i < 7) : (#[.int .i64 0, .int .i64 30, .int .i64 40, .int .i64 50, .int .i64 60, .int .i64 70, .int .i64 100] : Array Value)[i.toNat]? = some (.int .i64 (awT i)) := by
  obtain rfl | rfl | rfl | rfl | rfl | rfl | rfl : i = 0 ∨ i = 1 ∨ i = 2 ∨ i = 3 ∨ i = 4 ∨ i = 5 ∨ i = 6 := by omega
  all_goals rfl
theorem enCells_aw {w : World} {g k0 : Nat} {k f a0 a1 : Int} {o : Nat → Oc} (h : w.heap[g]? = some (.cells (enCells k f o a0 a1) k0)) (y0 y1 : Int) : ((w.drew.setCell ⟨g, 31, none⟩ (.int .i64 y0)).setCell ⟨g, 32, none⟩ (.int .i64 y1)).heap[g]? = some (.cells (enCells k f o y0 y1) k0) :=
  (blk_set (blk_set (show w.drew.heap[g]? = _ from h) 31 (.int .i64 y0)) 32 (.int .i64 y1)).trans (congrArg (fun c => some (Obj.cells c k0)) (by simp [enCells]))
theorem enC_size (k f : Int) (o : Nat → Oc) (a0 a1 : Int) : (Tryd.prog.info? 32).map (·.size) = some (enCells k f o a0 a1).size := (enCells_ok k f o a0 a1).size

set_option maxRecDepth 100000 in
set_option maxHeartbeats 4000000 in
theorem made_k0 (x : SmE) (hx : x.Ok) (hk : x.k % 5 = 0) (w : World) :
    Calls Tryd.prog 18 #[.agg (smA x)] w fun e w' => e = .returned (.agg (madeC x)) ∧ Below w.heap.size w w' := by
  obtain ⟨hk0, hf0, ha0, hb0, ht0, hv0⟩ := hx
  have HZ := Lib.hid enC_size
  obtain ⟨f, hf⟩ : ∃ f, x.f % 4 = f := ⟨_, rfl⟩
  have HMC := Lib.hid (show madeC x = enCells 0 f ex0 0 0 by
    unfold madeC madeO madeA0 madeA1
    rw [hk, hf]; rfl)
  obtain ⟨xk, hxk⟩ : ∃ y, x.k = y := ⟨_, rfl⟩
  obtain ⟨xf, hxf⟩ : ∃ y, x.f = y := ⟨_, rfl⟩
  rw [hxk] at hk hk0
  rw [hxf] at hf hf0
  have hs0 : (smA x)[0]? = some (.int .u8 xk) := by rw [← hxk]; rfl
  have hs1 : (smA x)[1]? = some (.int .u8 xf) := by rw [← hxf]; rfl
  have hs2 : (smA x)[2]? = some (.int .u8 x.a) := rfl
  have hsb := sm_b x
  have hst := sm_t x
  have hsv := sm_v x
  have HSB := Lib.hid (And.intro hsb (And.intro hst hsv))
  have HBT := Lib.hid (And.intro hb0 (And.intro ht0 hv0))
  clear hsb hst hsv hb0 ht0 hv0 hxk hxf
  go_enter Tryd.func18, Tryd.ntmps18
  go_upto_region 1 with fail
  obtain ⟨Z, hZ⟩ : ∃ Z, enCells 0 0 ex0 0 0 = Z := ⟨_, rfl⟩
  obtain ⟨W0, hW0⟩ : ∃ W0, (w.alloc (.cells (smA x) 61)).alloc (.cells (enCells 0 0 ex0 0 0) 32) = W0 := ⟨_, rfl⟩
  obtain ⟨g, hg⟩ : ∃ g, w.heap.size = g := ⟨_, rfl⟩
  have KS := Lib.hid (show W0.heap[g]? = some (.cells (smA x) 61) by rw [← hW0]; exact blk_alloc (blk_new _ hg.symm) _)
  have KR := Lib.hid (show W0.heap[g + 1]? = some (.cells (enCells 0 0 ex0 0 0) 32) by rw [← hW0]; exact blk_new _ (by simp; omega))
  have hB0 : Below w.heap.size w W0 := by rw [← hW0]; exact (by repeat (first | exact Below.refl _ _ | assumption | refine Below.drew ?_ | refine below_drewN ?_ _ | refine Below.alloc ?_ (by first | omega | (simp; done) | (simp; omega)) _ | refine Below.setCell ?_ (by first | omega | (simp; done) | (simp; omega)) _))
  have hnW : (w.alloc (.cells (smA x) 61)).alloc (.cells #[.int .i64 0, .int .i64 0, .int .i64 0, .int .i64 0, .int .u8 0, .int .u8 0, .bool false, .int .u8 0, .int .u8 0, .int .u8 0, .int .u8 0, .int .i64 0, .int .i64 0, .int .u8 0, .int .u8 0, .int .u8 0, .int .u8 0, .int .i64 0, .int .i64 0, .int .u8 0, .int .u8 0, .int .u8 0, .int .u8 0, .int .i64 0, .int .i64 0, .int .u8 0, .int .u8 0, .int .u8 0, .int .u8 0, .int .i64 0, .int .i64 0, .int .i64 0, .int .i64 0] 32) = W0 := hW0
  rw [hnW, hg]
  have HG := Lib.hid hg
  have lr := blk_lt KR.out
  have e0 := (blk_cell KS.out 0).trans hs0
  have e1 := (blk_cell KS.out 1).trans hs1
  clear hW0 hnW hZ hg
  go_upto_region 2 with (first | (refine wpList_build_to rfl 32 _ rfl (enCells (xk % 5) (xf % 4) ex0 0 0) (by kernel_rfl) ?_) | (refine wpList_store_new rfl 32 _ _ rfl (enCells 0 f ex0 0 0) _ _ rfl rfl (HZ.out _ _ _ _ _) rfl (enCells_one _ _ _ _ _) ?_))
  obtain ⟨W1, hW1⟩ : ∃ W1, W0.alloc (.cells (enCells 0 f ex0 0 0) 32) = W1 := ⟨_, rfl⟩
  obtain ⟨g3, hg3⟩ : ∃ g, W0.heap.size = g := ⟨_, rfl⟩
  have k3 : W1.heap[g3]? = some (.cells (enCells 0 f ex0 0 0) 32) := by rw [← hW1]; exact blk_new _ hg3.symm
  have KS := Lib.hid (show W1.heap[g]? = some (.cells (smA x) 61) by rw [← hW1]; exact blk_alloc KS.out _)
  have KR := Lib.hid (show W1.heap[g + 1]? = some (.cells (enCells 0 0 ex0 0 0) 32) by rw [← hW1]; exact blk_alloc KR.out _)
  have hB1 : Below w.heap.size w W1 := by rw [← hW1]; exact hB0.alloc hB0.size _
  have hgr : g + 1 < g3 := by omega
  rw [hW1, hg3]
  have HK3 := Lib.hid k3
  have h4 : W1.cell? ⟨g3, 4, none⟩ = some (.int .u8 0) := blk_cell k3 4
  have l3 := blk_lt k3
  clear hW1 hg3 k3 e0 e1 hB0 lr
  go_upto_region 23 with fail
  have KF := Lib.hid (HK3.out)
  have KR2 := Lib.hid (KR.out)
  have hBf := Lib.hid (hB1)
  
  have hz : (Tryd.prog.info? 32).map (·.size) = some (enCells 0 f ex0 0 0).size := enC_size _ _ _ _ _
  have HZF := Lib.hid hz
  clear hz
  go_wp2_with (first | (refine wpList_load_row rfl 32 (.tmp 3) rfl g3 rfl 32 (enCells 0 f ex0 0 0) _ _ KF.out Tryd.underlying32 rfl HZF.out ?_) | (refine wpList_store_row rfl 32 _ _ rfl (g + 1) (enCells 0 f ex0 0 0) rfl rfl 32 _ KR2.out HZF.out rfl (enCells_one _ _ _ _ _) ?_))
  exact bodyPost_ret (v := .agg (enCells 0 f ex0 0 0)) (results_cell_row (by rfl) _ _ (g + 1) 32 (enCells 0 f ex0 0 0) (0, 0) _ rfl (setRow_heap _ _ _ _ _ _ KR2.out) Tryd.underlying32 rfl HZF.out) rfl ⟨by rw [HMC.out], below_setRow hBf.out (by rw [HG.out]; exact Nat.le_succ _) _⟩
  
set_option maxRecDepth 100000 in
set_option maxHeartbeats 4000000 in
theorem made_k1 (x : SmE) (hx : x.Ok) (hk : x.k % 5 = 1) (w : World) :
    Calls Tryd.prog 18 #[.agg (smA x)] w fun e w' => e = .returned (.agg (madeC x)) ∧ Below w.heap.size w w' := by
  obtain ⟨hk0, hf0, ha0, hb0, ht0, hv0⟩ := hx
  have HZ := Lib.hid enC_size
  obtain ⟨f, hf⟩ : ∃ f, x.f % 4 = f := ⟨_, rfl⟩
  have HMC := Lib.hid (show madeC x = enCells 1 f (upd ex0 0 (outO (x.b 0) (x.t 0))) 0 0 by
    unfold madeC madeO madeA0 madeA1
    rw [hk, hf]; rfl)
  obtain ⟨xk, hxk⟩ : ∃ y, x.k = y := ⟨_, rfl⟩
  obtain ⟨xf, hxf⟩ : ∃ y, x.f = y := ⟨_, rfl⟩
  rw [hxk] at hk hk0
  rw [hxf] at hf hf0
  have hs0 : (smA x)[0]? = some (.int .u8 xk) := by rw [← hxk]; rfl
  have hs1 : (smA x)[1]? = some (.int .u8 xf) := by rw [← hxf]; rfl
  have hs2 : (smA x)[2]? = some (.int .u8 x.a) := rfl
  have hsb := sm_b x
  have hst := sm_t x
  have hsv := sm_v x
  have HSB := Lib.hid (And.intro hsb (And.intro hst hsv))
  have HBT := Lib.hid (And.intro hb0 (And.intro ht0 hv0))
  clear hsb hst hsv hb0 ht0 hv0 hxk hxf
  go_enter Tryd.func18, Tryd.ntmps18
  go_upto_region 1 with fail
  obtain ⟨Z, hZ⟩ : ∃ Z, enCells 0 0 ex0 0 0 = Z := ⟨_, rfl⟩
  obtain ⟨W0, hW0⟩ : ∃ W0, (w.alloc (.cells (smA x) 61)).alloc (.cells (enCells 0 0 ex0 0 0) 32) = W0 := ⟨_, rfl⟩
  obtain ⟨g, hg⟩ : ∃ g, w.heap.size = g := ⟨_, rfl⟩
  have KS := Lib.hid (show W0.heap[g]? = some (.cells (smA x) 61) by rw [← hW0]; exact blk_alloc (blk_new _ hg.symm) _)
  have KR := Lib.hid (show W0.heap[g + 1]? = some (.cells (enCells 0 0 ex0 0 0) 32) by rw [← hW0]; exact blk_new _ (by simp; omega))
  have hB0 : Below w.heap.size w W0 := by rw [← hW0]; exact (by repeat (first | exact Below.refl _ _ | assumption | refine Below.drew ?_ | refine below_drewN ?_ _ | refine Below.alloc ?_ (by first | omega | (simp; done) | (simp; omega)) _ | refine Below.setCell ?_ (by first | omega | (simp; done) | (simp; omega)) _))
  have hnW : (w.alloc (.cells (smA x) 61)).alloc (.cells #[.int .i64 0, .int .i64 0, .int .i64 0, .int .i64 0, .int .u8 0, .int .u8 0, .bool false, .int .u8 0, .int .u8 0, .int .u8 0, .int .u8 0, .int .i64 0, .int .i64 0, .int .u8 0, .int .u8 0, .int .u8 0, .int .u8 0, .int .i64 0, .int .i64 0, .int .u8 0, .int .u8 0, .int .u8 0, .int .u8 0, .int .i64 0, .int .i64 0, .int .u8 0, .int .u8 0, .int .u8 0, .int .u8 0, .int .i64 0, .int .i64 0, .int .i64 0, .int .i64 0] 32) = W0 := hW0
  rw [hnW, hg]
  have HG := Lib.hid hg
  have lr := blk_lt KR.out
  have e0 := (blk_cell KS.out 0).trans hs0
  have e1 := (blk_cell KS.out 1).trans hs1
  clear hW0 hnW hZ hg
  go_upto_region 2 with (first | (refine wpList_build_to rfl 32 _ rfl (enCells (xk % 5) (xf % 4) ex0 0 0) (by kernel_rfl) ?_) | (refine wpList_store_new rfl 32 _ _ rfl (enCells 1 f ex0 0 0) _ _ rfl rfl (HZ.out _ _ _ _ _) rfl (enCells_one _ _ _ _ _) ?_))
  obtain ⟨W1, hW1⟩ : ∃ W1, W0.alloc (.cells (enCells 1 f ex0 0 0) 32) = W1 := ⟨_, rfl⟩
  obtain ⟨g3, hg3⟩ : ∃ g, W0.heap.size = g := ⟨_, rfl⟩
  have k3 : W1.heap[g3]? = some (.cells (enCells 1 f ex0 0 0) 32) := by rw [← hW1]; exact blk_new _ hg3.symm
  have KS := Lib.hid (show W1.heap[g]? = some (.cells (smA x) 61) by rw [← hW1]; exact blk_alloc KS.out _)
  have KR := Lib.hid (show W1.heap[g + 1]? = some (.cells (enCells 0 0 ex0 0 0) 32) by rw [← hW1]; exact blk_alloc KR.out _)
  have hB1 : Below w.heap.size w W1 := by rw [← hW1]; exact hB0.alloc hB0.size _
  have hgr : g + 1 < g3 := by omega
  rw [hW1, hg3]
  have HK3 := Lib.hid k3
  have h4 : W1.cell? ⟨g3, 4, none⟩ = some (.int .u8 1) := blk_cell k3 4
  have l3 := blk_lt k3
  clear hW1 hg3 k3 e0 e1 hB0 lr
  have HOa := Lib.hid (fun W => outcome_any (x.b 0) (x.t 0) (HBT.out.1 0) (HBT.out.2.1 0) W)
  have eba : W1.cell? ⟨g, 3, none⟩ = some (.int .u8 (x.b 0)) := (blk_cell KS.out 3).trans (HSB.out.1 0 (by decide))
  have eta : W1.cell? ⟨g, 7, none⟩ = some (.int .u8 (x.t 0)) := (blk_cell KS.out 7).trans (HSB.out.2.1 0 (by decide))
  obtain ⟨qa, hqa⟩ : ∃ q, outO (x.b 0) (x.t 0) = q := ⟨_, rfl⟩
  rw [hqa] at HOa HMC
  obtain ⟨tba, htba⟩ : ∃ q, x.b 0 = q := ⟨_, rfl⟩
  obtain ⟨tta, htta⟩ : ∃ q, x.t 0 = q := ⟨_, rfl⟩
  rw [htba] at HOa eba
  rw [htta] at HOa eta
  clear hqa htba htta
  have hgg : g ≤ g3 := by omega
  obtain ⟨q1, q2, q3, q4, q5, q6⟩ := qa
  dsimp only at HOa
  go_wp2_with fail
  refine (HOa.out _).mono ?_
  rintro ee w2 ⟨rfl, hb2⟩
  have k3 := blk_below HK3.out hb2 l3
  have hB2 := below_via hB1 hb2
  have KRb := Lib.hid (blk_below KR.out hb2 (by omega))
  have KX := Lib.hid (six_set k3 0 (by decide) ⟨q1, q2, q3, q4, q5, q6⟩)
  have ua0 : w2.cell? ⟨g3, 7, none⟩ = some (.int .u8 0) := blk_cell k3 (7)
  have fa0 := blk_free k3 (7)
  have ua1 : w2.cell? ⟨g3, 8, none⟩ = some (.int .u8 0) := blk_cell k3 (8)
  have fa1 := blk_free k3 (8)
  have ua2 : w2.cell? ⟨g3, 9, none⟩ = some (.int .u8 0) := blk_cell k3 (9)
  have fa2 := blk_free k3 (9)
  have ua3 : w2.cell? ⟨g3, 10, none⟩ = some (.int .u8 0) := blk_cell k3 (10)
  have fa3 := blk_free k3 (10)
  have ua4 : w2.cell? ⟨g3, 11, none⟩ = some (.int .i64 0) := blk_cell k3 (11)
  have fa4 := blk_free k3 (11)
  have ua5 : w2.cell? ⟨g3, 12, none⟩ = some (.int .i64 0) := blk_cell k3 (12)
  have fa5 := blk_free k3 (12)
  clear k3 h4 eba eta hb2
  go_upto_region 23 with fail
  have KF := Lib.hid (KX.out)
  have KR2 := Lib.hid (six_far KRb.out (show g + 1 ≠ g3 by omega) 7 ⟨q1, q2, q3, q4, q5, q6⟩)
  have hBf := Lib.hid (six_below hB2 g3 7 (show w.heap.size ≤ g3 by rw [HG.out]; omega) ⟨q1, q2, q3, q4, q5, q6⟩)
  simp only [six, Nat.reduceMul, Nat.reduceAdd] at KF KR2 hBf
  have hz : (Tryd.prog.info? 32).map (·.size) = some (enCells 1 f (upd ex0 0 ⟨q1, q2, q3, q4, q5, q6⟩) 0 0).size := enC_size _ _ _ _ _
  have HZF := Lib.hid hz
  clear hz
  go_wp2_with (first | (refine wpList_load_row rfl 32 (.tmp 3) rfl g3 rfl 32 (enCells 1 f (upd ex0 0 ⟨q1, q2, q3, q4, q5, q6⟩) 0 0) _ _ KF.out Tryd.underlying32 rfl HZF.out ?_) | (refine wpList_store_row rfl 32 _ _ rfl (g + 1) (enCells 1 f (upd ex0 0 ⟨q1, q2, q3, q4, q5, q6⟩) 0 0) rfl rfl 32 _ KR2.out HZF.out rfl (enCells_one _ _ _ _ _) ?_))
  exact bodyPost_ret (v := .agg (enCells 1 f (upd ex0 0 ⟨q1, q2, q3, q4, q5, q6⟩) 0 0)) (results_cell_row (by rfl) _ _ (g + 1) 32 (enCells 1 f (upd ex0 0 ⟨q1, q2, q3, q4, q5, q6⟩) 0 0) (0, 0) _ rfl (setRow_heap _ _ _ _ _ _ KR2.out) Tryd.underlying32 rfl HZF.out) rfl ⟨by rw [HMC.out], below_setRow hBf.out (by rw [HG.out]; exact Nat.le_succ _) _⟩
  
set_option maxRecDepth 100000 in
set_option maxHeartbeats 4000000 in
theorem made_k4 (x : SmE) (hx : x.Ok) (hk : x.k % 5 = 4) (w : World) :
    Calls Tryd.prog 18 #[.agg (smA x)] w fun e w' => e = .returned (.agg (madeC x)) ∧ Below w.heap.size w w' := by
  obtain ⟨hk0, hf0, ha0, hb0, ht0, hv0⟩ := hx
  have HZ := Lib.hid enC_size
  obtain ⟨f, hf⟩ : ∃ f, x.f % 4 = f := ⟨_, rfl⟩
  have HMC := Lib.hid (show madeC x = enCells 4 f ex0 (awT (x.a % 7)) (awT (x.a / 7 % 7)) by
    unfold madeC madeO madeA0 madeA1
    rw [hk, hf]; rfl)
  obtain ⟨xk, hxk⟩ : ∃ y, x.k = y := ⟨_, rfl⟩
  obtain ⟨xf, hxf⟩ : ∃ y, x.f = y := ⟨_, rfl⟩
  rw [hxk] at hk hk0
  rw [hxf] at hf hf0
  have hs0 : (smA x)[0]? = some (.int .u8 xk) := by rw [← hxk]; rfl
  have hs1 : (smA x)[1]? = some (.int .u8 xf) := by rw [← hxf]; rfl
  have hs2 : (smA x)[2]? = some (.int .u8 x.a) := rfl
  have hsb := sm_b x
  have hst := sm_t x
  have hsv := sm_v x
  have HSB := Lib.hid (And.intro hsb (And.intro hst hsv))
  have HBT := Lib.hid (And.intro hb0 (And.intro ht0 hv0))
  clear hsb hst hsv hb0 ht0 hv0 hxk hxf
  go_enter Tryd.func18, Tryd.ntmps18
  go_upto_region 1 with fail
  obtain ⟨Z, hZ⟩ : ∃ Z, enCells 0 0 ex0 0 0 = Z := ⟨_, rfl⟩
  obtain ⟨W0, hW0⟩ : ∃ W0, (w.alloc (.cells (smA x) 61)).alloc (.cells (enCells 0 0 ex0 0 0) 32) = W0 := ⟨_, rfl⟩
  obtain ⟨g, hg⟩ : ∃ g, w.heap.size = g := ⟨_, rfl⟩
  have KS := Lib.hid (show W0.heap[g]? = some (.cells (smA x) 61) by rw [← hW0]; exact blk_alloc (blk_new _ hg.symm) _)
  have KR := Lib.hid (show W0.heap[g + 1]? = some (.cells (enCells 0 0 ex0 0 0) 32) by rw [← hW0]; exact blk_new _ (by simp; omega))
  have hB0 : Below w.heap.size w W0 := by rw [← hW0]; exact (by repeat (first | exact Below.refl _ _ | assumption | refine Below.drew ?_ | refine below_drewN ?_ _ | refine Below.alloc ?_ (by first | omega | (simp; done) | (simp; omega)) _ | refine Below.setCell ?_ (by first | omega | (simp; done) | (simp; omega)) _))
  have hnW : (w.alloc (.cells (smA x) 61)).alloc (.cells #[.int .i64 0, .int .i64 0, .int .i64 0, .int .i64 0, .int .u8 0, .int .u8 0, .bool false, .int .u8 0, .int .u8 0, .int .u8 0, .int .u8 0, .int .i64 0, .int .i64 0, .int .u8 0, .int .u8 0, .int .u8 0, .int .u8 0, .int .i64 0, .int .i64 0, .int .u8 0, .int .u8 0, .int .u8 0, .int .u8 0, .int .i64 0, .int .i64 0, .int .u8 0, .int .u8 0, .int .u8 0, .int .u8 0, .int .i64 0, .int .i64 0, .int .i64 0, .int .i64 0] 32) = W0 := hW0
  rw [hnW, hg]
  have HG := Lib.hid hg
  have lr := blk_lt KR.out
  have e0 := (blk_cell KS.out 0).trans hs0
  have e1 := (blk_cell KS.out 1).trans hs1
  clear hW0 hnW hZ hg
  go_upto_region 2 with (first | (refine wpList_build_to rfl 32 _ rfl (enCells (xk % 5) (xf % 4) ex0 0 0) (by kernel_rfl) ?_) | (refine wpList_store_new rfl 32 _ _ rfl (enCells 4 f ex0 0 0) _ _ rfl rfl (HZ.out _ _ _ _ _) rfl (enCells_one _ _ _ _ _) ?_))
  obtain ⟨W1, hW1⟩ : ∃ W1, W0.alloc (.cells (enCells 4 f ex0 0 0) 32) = W1 := ⟨_, rfl⟩
  obtain ⟨g3, hg3⟩ : ∃ g, W0.heap.size = g := ⟨_, rfl⟩
  have k3 : W1.heap[g3]? = some (.cells (enCells 4 f ex0 0 0) 32) := by rw [← hW1]; exact blk_new _ hg3.symm
  have KS := Lib.hid (show W1.heap[g]? = some (.cells (smA x) 61) by rw [← hW1]; exact blk_alloc KS.out _)
  have KR := Lib.hid (show W1.heap[g + 1]? = some (.cells (enCells 0 0 ex0 0 0) 32) by rw [← hW1]; exact blk_alloc KR.out _)
  have hB1 : Below w.heap.size w W1 := by rw [← hW1]; exact hB0.alloc hB0.size _
  have hgr : g + 1 < g3 := by omega
  rw [hW1, hg3]
  have HK3 := Lib.hid k3
  have h4 : W1.cell? ⟨g3, 4, none⟩ = some (.int .u8 4) := blk_cell k3 4
  have l3 := blk_lt k3
  clear hW1 hg3 k3 e0 e1 hB0 lr
  have hgg : g ≤ g3 := by omega
  have e2 := (blk_cell KS.out 2).trans hs2
  obtain ⟨xa, hxa⟩ : ∃ q, x.a = q := ⟨_, rfl⟩
  rw [hxa] at e2 ha0 HMC
  clear hs2 hxa
  go_upto_region 22 with fail
  obtain ⟨W2, hW2⟩ : ∃ W2, W1.alloc (.cells #[.int .i64 0, .int .i64 30, .int .i64 40, .int .i64 50, .int .i64 60, .int .i64 70, .int .i64 100] 3) = W2 := ⟨_, rfl⟩
  obtain ⟨T, hT⟩ : ∃ g, W1.heap.size = g := ⟨_, rfl⟩
  have nT : W2.heap[T]? = some (.cells #[.int .i64 0, .int .i64 30, .int .i64 40, .int .i64 50, .int .i64 60, .int .i64 70, .int .i64 100] 3) := by rw [← hW2]; exact blk_new _ hT.symm
  have KS2 := Lib.hid (show W2.heap[g]? = some (.cells (smA x) 61) by rw [← hW2]; exact blk_alloc KS.out _)
  have KRb := Lib.hid (show W2.heap[g + 1]? = some (.cells (enCells 0 0 ex0 0 0) 32) by rw [← hW2]; exact blk_alloc KR.out _)
  have k3 : W2.heap[g3]? = some (.cells (enCells 4 f ex0 0 0) 32) := by rw [← hW2]; exact blk_alloc HK3.out _
  have hB2 : Below w.heap.size w W2 := by rw [← hW2]; exact hB1.alloc hB1.size _
  have hb12 : Below g3 W1 W2 := by rw [← hW2]; exact (Below.refl _ _).alloc (by omega) _
  rw [hW2, hT]
  have e2 := (bcell hb12 g 2 (by omega)).trans e2
  have gT : g3 < T := by omega
  have aw := awT_get
  obtain ⟨y0, hy0⟩ : ∃ y, awT (xa % 7) = y := ⟨_, rfl⟩
  obtain ⟨y1, hy1⟩ : ∃ y, awT (xa / 7 % 7) = y := ⟨_, rfl⟩
  have t0 : W2.cell? ⟨T, (xa % 7).toNat, none⟩ = some (.int .i64 y0) := by rw [← hy0]; exact (blk_cell nT _).trans (aw (xa % 7) (by omega))
  have t1 : W2.cell? ⟨T, (xa / 7 % 7).toNat, none⟩ = some (.int .i64 y1) := by rw [← hy1]; exact (blk_cell nT _).trans (aw (xa / 7 % 7) (by omega))
  rw [hy0, hy1] at HMC
  have c0 : 0 ≤ xa % 7 := by omega
  have c1 : xa % 7 < 7 := by omega
  have c2 : 0 ≤ xa / 7 % 7 := by omega
  have c3 : xa / 7 % 7 < 7 := by omega
  have v0 : IntKind.i64.wrap xa = xa := IntWalk.i64_in _ (by omega)
  have v1 : xa.tmod 7 = xa % 7 := Int.tmod_eq_emod_of_nonneg (by omega)
  have v2 : xa.tdiv 7 = xa / 7 := Int.tdiv_eq_ediv_of_nonneg (by omega)
  have v4 : IntKind.i64.wrap (xa / 7) = xa / 7 := IntWalk.i64_in _ (by omega)
  have v3 : (xa / 7).tmod 7 = xa / 7 % 7 := Int.tmod_eq_emod_of_nonneg (by omega)
  have u31 : W2.cell? ⟨g3, 31, none⟩ = some (.int .i64 0) := blk_cell k3 31
  have u32 : W2.cell? ⟨g3, 32, none⟩ = some (.int .i64 0) := blk_cell k3 32
  have f31 := blk_free k3 31
  have f32 := blk_free k3 32
  have hsg : g ≠ g3 := by omega
  have hsT : T ≠ g3 := by omega
  have KX := Lib.hid (enCells_aw k3 y0 y1)
  clear aw hW2 hT nT k3 hy0 hy1 h4
  have hd : (W2.drew.cell? ⟨g, 2, none⟩ = some (.int .u8 xa) ∧ W2.drew.cell? ⟨T, (xa % 7).toNat, none⟩ = some (.int .i64 y0) ∧ W2.drew.cell? ⟨T, (xa / 7 % 7).toNat, none⟩ = some (.int .i64 y1)) := ⟨e2, t0, t1⟩
  refine wp_region_held_drew (S := (fun w' => w'.cell? ⟨g, 2, none⟩ = some (.int .u8 xa) ∧ w'.cell? ⟨T, (xa % 7).toNat, none⟩ = some (.int .i64 y0) ∧ w'.cell? ⟨T, (xa / 7 % 7).toNat, none⟩ = some (.int .i64 y1))) (by kernel_rfl) hd (fun hHeld => ?_)
  refine take_named (i := 0) (d := 103) (v := ?vw0) rfl (by kernel_rfl) (by kernel_rfl) (by kernel_rfl) (by kernel_rfl) (fun _ _ _ h => h) (Or.inl ⟨by kernel_rfl, ?yw0⟩) (by assumption) ?_
  case yw0 => intro wq hSw; (try dsimp only at hSw); go_simp; (try with_reducible rfl)
  (try simp only [Act.put, List.setIfInBounds_toArray, List.set_cons_zero, List.set_cons_succ])
  refine take_named (i := 1) (d := 104) (v := ?vw1) rfl (by kernel_rfl) (by kernel_rfl) (by kernel_rfl) (by kernel_rfl) (fun _ _ _ h => h) (Or.inl ⟨by kernel_rfl, ?yw1⟩) (by assumption) ?_
  case yw1 => intro wq hSw; (try dsimp only at hSw); go_simp; (try with_reducible rfl)
  (try simp only [Act.put, List.setIfInBounds_toArray, List.set_cons_zero, List.set_cons_succ])
  refine take_named (i := 2) (d := 105) (v := ?vw2) rfl (by kernel_rfl) (by kernel_rfl) (by kernel_rfl) (by kernel_rfl) (fun _ _ _ h => h) (Or.inl ⟨by kernel_rfl, ?yw2⟩) (by assumption) ?_
  case yw2 => intro wq hSw; (try dsimp only at hSw); go_simp; (try with_reducible rfl)
  (try simp only [Act.put, List.setIfInBounds_toArray, List.set_cons_zero, List.set_cons_succ])
  refine take_named (i := 3) (d := 106) (v := ?vw3) rfl (by kernel_rfl) (by kernel_rfl) (by kernel_rfl) (by kernel_rfl) (fun _ _ _ h => h) (Or.inl ⟨by kernel_rfl, ?yw3⟩) (by assumption) ?_
  case yw3 => intro wq hSw; (try dsimp only at hSw); go_simp; (try with_reducible rfl)
  (try simp only [Act.put, List.setIfInBounds_toArray, List.set_cons_zero, List.set_cons_succ])
  refine take_named (i := 4) (d := 107) (v := ?vw4) rfl (by kernel_rfl) (by kernel_rfl) (by kernel_rfl) (by kernel_rfl) (fun _ _ _ h => h) (Or.inl ⟨by kernel_rfl, ?yw4⟩) (by assumption) ?_
  case yw4 => intro wq hSw; (try dsimp only at hSw); go_simp; (try with_reducible rfl)
  (try simp only [Act.put, List.setIfInBounds_toArray, List.set_cons_zero, List.set_cons_succ])
  refine take_named (i := 5) (d := 108) (v := ?vw5) rfl (by kernel_rfl) (by kernel_rfl) (by kernel_rfl) (by kernel_rfl) (fun _ _ _ h => h) (Or.inl ⟨by kernel_rfl, ?yw5⟩) (by assumption) ?_
  case yw5 => intro wq hSw; (try dsimp only at hSw); go_simp; (try with_reducible rfl)
  (try simp only [Act.put, List.setIfInBounds_toArray, List.set_cons_zero, List.set_cons_succ])
  refine take_named (i := 6) (d := 109) (v := ?vw6) rfl (by kernel_rfl) (by kernel_rfl) (by kernel_rfl) (by kernel_rfl) (fun _ _ _ h => h) (Or.inl ⟨by kernel_rfl, ?yw6⟩) (by assumption) ?_
  case yw6 => intro wq hSw; (try dsimp only at hSw); go_simp; (try with_reducible rfl)
  (try simp only [Act.put, List.setIfInBounds_toArray, List.set_cons_zero, List.set_cons_succ])
  refine take_named (i := 7) (d := 110) (v := ?vw7) rfl (by kernel_rfl) (by kernel_rfl) (by kernel_rfl) (by kernel_rfl) (fun _ _ _ h => h) (Or.inl ⟨by kernel_rfl, ?yw7⟩) (by assumption) ?_
  case yw7 => intro wq hSw; (try dsimp only at hSw); go_simp; (try with_reducible rfl)
  (try simp only [Act.put, List.setIfInBounds_toArray, List.set_cons_zero, List.set_cons_succ])
  refine take_named (i := 8) (d := 111) (v := ?vw8) rfl (by kernel_rfl) (by kernel_rfl) (by kernel_rfl) (by kernel_rfl) (fun _ _ _ h => h) (Or.inl ⟨by kernel_rfl, ?yw8⟩) (by assumption) ?_
  case yw8 => intro wq hSw; (try dsimp only at hSw); go_simp; (try with_reducible rfl)
  (try simp only [Act.put, List.setIfInBounds_toArray, List.set_cons_zero, List.set_cons_succ])
  refine take_named (i := 9) (d := 112) (v := ?vw9) rfl (by kernel_rfl) (by kernel_rfl) (by kernel_rfl) (by kernel_rfl) (fun _ _ _ h => h) (Or.inl ⟨by kernel_rfl, ?yw9⟩) (by assumption) ?_
  case yw9 => intro wq hSw; (try dsimp only at hSw); go_simp; (try with_reducible rfl)
  (try simp only [Act.put, List.setIfInBounds_toArray, List.set_cons_zero, List.set_cons_succ])
  refine take_named (i := 10) (d := 113) (v := ?vw10) rfl (by kernel_rfl) (by kernel_rfl) (by kernel_rfl) (by kernel_rfl) (fun _ _ _ h => h) (Or.inl ⟨by kernel_rfl, ?yw10⟩) (by assumption) ?_
  case yw10 => intro wq hSw; (try dsimp only at hSw); go_simp; (try with_reducible rfl)
  (try simp only [Act.put, List.setIfInBounds_toArray, List.set_cons_zero, List.set_cons_succ])
  refine take_named (i := 11) (d := 114) (v := ?vw11) rfl (by kernel_rfl) (by kernel_rfl) (by kernel_rfl) (by kernel_rfl) (fun _ _ _ h => h) (Or.inl ⟨by kernel_rfl, ?yw11⟩) (by assumption) ?_
  case yw11 => intro wq hSw; (try dsimp only at hSw); go_simp; (try with_reducible rfl)
  (try simp only [Act.put, List.setIfInBounds_toArray, List.set_cons_zero, List.set_cons_succ])
  refine take_named (i := 12) (d := 115) (v := ?vw12) rfl (by kernel_rfl) (by kernel_rfl) (by kernel_rfl) (by kernel_rfl) (fun _ _ _ h => h) (Or.inl ⟨by kernel_rfl, ?yw12⟩) (by assumption) ?_
  case yw12 => intro wq hSw; (try dsimp only at hSw); go_simp; (try with_reducible rfl)
  (try simp only [Act.put, List.setIfInBounds_toArray, List.set_cons_zero, List.set_cons_succ])
  refine take_named (i := 13) (d := 116) (v := ?vw13) rfl (by kernel_rfl) (by kernel_rfl) (by kernel_rfl) (by kernel_rfl) (fun _ _ _ h => h) (Or.inl ⟨by kernel_rfl, ?yw13⟩) (by assumption) ?_
  case yw13 => intro wq hSw; (try dsimp only at hSw); go_simp; (try with_reducible rfl)
  (try simp only [Act.put, List.setIfInBounds_toArray, List.set_cons_zero, List.set_cons_succ])
  refine take_named (i := 14) (d := 117) (v := ?vw14) rfl (by kernel_rfl) (by kernel_rfl) (by kernel_rfl) (by kernel_rfl) (fun _ _ _ h => h) (Or.inl ⟨by kernel_rfl, ?yw14⟩) (by assumption) ?_
  case yw14 => intro wq hSw; (try dsimp only at hSw); go_simp; (try with_reducible rfl)
  (try simp only [Act.put, List.setIfInBounds_toArray, List.set_cons_zero, List.set_cons_succ])
  refine take_named (i := 15) (d := 118) (v := ?vw15) rfl (by kernel_rfl) (by kernel_rfl) (by kernel_rfl) (by kernel_rfl) (fun _ _ _ h => h) (Or.inl ⟨by kernel_rfl, ?yw15⟩) (by assumption) ?_
  case yw15 => intro wq hSw; (try dsimp only at hSw); go_simp; (try with_reducible rfl)
  (try simp only [Act.put, List.setIfInBounds_toArray, List.set_cons_zero, List.set_cons_succ])
  refine take_named (i := 16) (d := 119) (v := ?vw16) rfl (by kernel_rfl) (by kernel_rfl) (by kernel_rfl) (by kernel_rfl) (fun _ _ _ h => h) (Or.inl ⟨by kernel_rfl, ?yw16⟩) (by assumption) ?_
  case yw16 => intro wq hSw; (try dsimp only at hSw); go_simp; (try with_reducible rfl)
  (try simp only [Act.put, List.setIfInBounds_toArray, List.set_cons_zero, List.set_cons_succ])
  refine wpAnyH_ready (rs := [17]) (by kernel_rfl) (by simp) ?_
  refine AllReadyH.cons rfl (fun K hK => ?_) AllReadyH.nil
  go_simp
  refine hK.out _ _ ⟨keepS (keepS e2 (Ne.symm hsg) _) (Ne.symm hsg) _, keepS (keepS t0 (Ne.symm hsT) _) (Ne.symm hsT) _, keepS (keepS t1 (Ne.symm hsT) _) (Ne.symm hsT) _⟩ (fun hHeld1 => ?_)
  clear hK K hHeld
  (try simp only [Act.put, List.setIfInBounds_toArray, List.set_cons_zero, List.set_cons_succ])
  refine wpAnyH_done (by kernel_rfl) ?_ _
  go_upto_region 23 with fail
  have KF := Lib.hid (KX.out)
  have KR2 := Lib.hid (blk_far (blk_far (p := ⟨g3, 31, none⟩) KRb.out (show g + 1 ≠ g3 by omega) (.int .i64 y0)) (p := ⟨g3, 32, none⟩) (show g + 1 ≠ g3 by omega) (.int .i64 y1))
  have hBf := Lib.hid (((hB2.drew).setCell (p := ⟨g3, 31, none⟩) (show w.heap.size ≤ g3 by rw [HG.out]; omega) (.int .i64 y0)).setCell (p := ⟨g3, 32, none⟩) (show w.heap.size ≤ g3 by rw [HG.out]; omega) (.int .i64 y1))
  
  have hz : (Tryd.prog.info? 32).map (·.size) = some (enCells 4 f ex0 y0 y1).size := enC_size _ _ _ _ _
  have HZF := Lib.hid hz
  clear hz
  go_wp2_with (first | (refine wpList_load_row rfl 32 (.tmp 3) rfl g3 rfl 32 (enCells 4 f ex0 y0 y1) _ _ KF.out Tryd.underlying32 rfl HZF.out ?_) | (refine wpList_store_row rfl 32 _ _ rfl (g + 1) (enCells 4 f ex0 y0 y1) rfl rfl 32 _ KR2.out HZF.out rfl (enCells_one _ _ _ _ _) ?_))
  exact bodyPost_ret (v := .agg (enCells 4 f ex0 y0 y1)) (results_cell_row (by rfl) _ _ (g + 1) 32 (enCells 4 f ex0 y0 y1) (0, 0) _ rfl (setRow_heap _ _ _ _ _ _ KR2.out) Tryd.underlying32 rfl HZF.out) rfl ⟨by rw [HMC.out], below_setRow hBf.out (by rw [HG.out]; exact Nat.le_succ _) _⟩
  

end Go.Proofs.YtchklobblkddhaaDoor
