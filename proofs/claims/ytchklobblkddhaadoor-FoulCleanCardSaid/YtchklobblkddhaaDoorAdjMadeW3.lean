/- The walk of Made of layer 22's statements: kinds 3 and 2. (Written by genmade22b.py.) -/
import Derived.Test.YtchklobblkddhaaDoorAdjMadeW2
namespace Go.Proofs.YtchklobblkddhaaDoor
open Go.RowKit

theorem wgh_cells (x : SmE) (n k : Nat) (f : Int) (hk : k < 4) : (enCells 2 f (upd (wghO x n k) k (outO (x.b k) (x.t k))) 0 0).setIfInBounds (7 + k * 6 + 5) (.int .i64 (wgtM x.v n k)) = enCells 2 f (wghO x n (k + 1)) 0 0 := by
  rw [enCells_wgt _ _ _ _ _ k hk]
  apply enCells_congr
  intro i _
  rw [show upd (wghO x n k) k (outO (x.b k) (x.t k)) k = outO (x.b k) (x.t k) from if_pos rfl]
  exact wgh_succ x n k i
theorem below_up {B B2 : Nat} {w W w2 : World} (h : Below B w W) (h2 : Below B2 W w2) (hB : B ≤ B2) : Below B w w2 := h.trans (h2.mono hB)
theorem wgh_zero (x : SmE) (n : Nat) (f : Int) : enCells 2 f ex0 0 0 = enCells 2 f (wghO x n 0) 0 0 := by
  apply enCells_congr
  intro i hi
  obtain rfl | rfl | rfl | rfl : i = 0 ∨ i = 1 ∨ i = 2 ∨ i = 3 := by omega
  all_goals rfl

set_option maxRecDepth 100000 in
set_option maxHeartbeats 4000000 in
theorem made_k3 (x : SmE) (hx : x.Ok) (hk : x.k % 5 = 3) (w : World) :
    Calls Tryd.prog 18 #[.agg (smA x)] w fun e w' => e = .returned (.agg (madeC x)) ∧ Below w.heap.size w w' := by
  obtain ⟨hk0, hf0, ha0, hb0, ht0, hv0⟩ := hx
  have HZ := Lib.hid enC_size
  obtain ⟨f, hf⟩ : ∃ f, x.f % 4 = f := ⟨_, rfl⟩
  have HMC := Lib.hid (show madeC x = enCells 3 f (upd (upd ex0 0 (outO (x.b 0) (x.t 0))) 1 (outO (x.b 1) (x.t 1))) 0 0 by
    unfold madeC madeO madeA0 madeA1
    rw [hk, hf]; rfl)
  obtain ⟨xk, hxk⟩ : ∃ y, x.k = y := ⟨_, rfl⟩
  obtain ⟨xf, hxf⟩ : ∃ y, x.f = y := ⟨_, rfl⟩
  rw [hxk] at hk hk0
  rw [hxf] at hf hf0
  have hs0 : (smA x)[0]? = some (.int .u8 xk) := by rw [← hxk]; rfl
  have hs1 : (smA x)[1]? = some (.int .u8 xf) := by rw [← hxf]; rfl
  have hs2 : (smA x)[2]? = some (.int .u8 x.a) := rfl
  have hsb := sm_b x
  have hst := sm_t x
  have hsv := sm_v x
  have HSB := Lib.hid (And.intro hsb (And.intro hst hsv))
  have HBT := Lib.hid (And.intro hb0 (And.intro ht0 hv0))
  clear hsb hst hsv hb0 ht0 hv0 hxk hxf
  go_enter Tryd.func18, Tryd.ntmps18
  go_upto_region 1 with fail
  obtain ⟨Z, hZ⟩ : ∃ Z, enCells 0 0 ex0 0 0 = Z := ⟨_, rfl⟩
  obtain ⟨W0, hW0⟩ : ∃ W0, (w.alloc (.cells (smA x) 61)).alloc (.cells (enCells 0 0 ex0 0 0) 32) = W0 := ⟨_, rfl⟩
  obtain ⟨g, hg⟩ : ∃ g, w.heap.size = g := ⟨_, rfl⟩
  have KS := Lib.hid (show W0.heap[g]? = some (.cells (smA x) 61) by rw [← hW0]; exact blk_alloc (blk_new _ hg.symm) _)
  have KR := Lib.hid (show W0.heap[g + 1]? = some (.cells (enCells 0 0 ex0 0 0) 32) by rw [← hW0]; exact blk_new _ (by simp; omega))
  have hB0 : Below w.heap.size w W0 := by rw [← hW0]; exact (by repeat (first | exact Below.refl _ _ | assumption | refine Below.drew ?_ | refine below_drewN ?_ _ | refine Below.alloc ?_ (by first | omega | (simp; done) | (simp; omega)) _ | refine Below.setCell ?_ (by first | omega | (simp; done) | (simp; omega)) _))
  have hnW : (w.alloc (.cells (smA x) 61)).alloc (.cells #[.int .i64 0, .int .i64 0, .int .i64 0, .int .i64 0, .int .u8 0, .int .u8 0, .bool false, .int .u8 0, .int .u8 0, .int .u8 0, .int .u8 0, .int .i64 0, .int .i64 0, .int .u8 0, .int .u8 0, .int .u8 0, .int .u8 0, .int .i64 0, .int .i64 0, .int .u8 0, .int .u8 0, .int .u8 0, .int .u8 0, .int .i64 0, .int .i64 0, .int .u8 0, .int .u8 0, .int .u8 0, .int .u8 0, .int .i64 0, .int .i64 0, .int .i64 0, .int .i64 0] 32) = W0 := hW0
  rw [hnW, hg]
  have HG := Lib.hid hg
  have lr := blk_lt KR.out
  have e0 := (blk_cell KS.out 0).trans hs0
  have e1 := (blk_cell KS.out 1).trans hs1
  clear hW0 hnW hZ hg
  go_upto_region 2 with (first | (refine wpList_build_to rfl 32 _ rfl (enCells (xk % 5) (xf % 4) ex0 0 0) (by kernel_rfl) ?_) | (refine wpList_store_new rfl 32 _ _ rfl (enCells 3 f ex0 0 0) _ _ rfl rfl (HZ.out _ _ _ _ _) rfl (enCells_one _ _ _ _ _) ?_))
  obtain ⟨W1, hW1⟩ : ∃ W1, W0.alloc (.cells (enCells 3 f ex0 0 0) 32) = W1 := ⟨_, rfl⟩
  obtain ⟨g3, hg3⟩ : ∃ g, W0.heap.size = g := ⟨_, rfl⟩
  have k3 : W1.heap[g3]? = some (.cells (enCells 3 f ex0 0 0) 32) := by rw [← hW1]; exact blk_new _ hg3.symm
  have KS := Lib.hid (show W1.heap[g]? = some (.cells (smA x) 61) by rw [← hW1]; exact blk_alloc KS.out _)
  have KR := Lib.hid (show W1.heap[g + 1]? = some (.cells (enCells 0 0 ex0 0 0) 32) by rw [← hW1]; exact blk_alloc KR.out _)
  have hB1 : Below w.heap.size w W1 := by rw [← hW1]; exact hB0.alloc hB0.size _
  have hgr : g + 1 < g3 := by omega
  rw [hW1, hg3]
  have HK3 := Lib.hid k3
  have h4 : W1.cell? ⟨g3, 4, none⟩ = some (.int .u8 3) := blk_cell k3 4
  have l3 := blk_lt k3
  clear hW1 hg3 k3 e0 e1 hB0 lr
  have HOa := Lib.hid (fun W => outcome_any (x.b 0) (x.t 0) (HBT.out.1 0) (HBT.out.2.1 0) W)
  have eba : W1.cell? ⟨g, 3, none⟩ = some (.int .u8 (x.b 0)) := (blk_cell KS.out 3).trans (HSB.out.1 0 (by decide))
  have eta : W1.cell? ⟨g, 7, none⟩ = some (.int .u8 (x.t 0)) := (blk_cell KS.out 7).trans (HSB.out.2.1 0 (by decide))
  obtain ⟨qa, hqa⟩ : ∃ q, outO (x.b 0) (x.t 0) = q := ⟨_, rfl⟩
  rw [hqa] at HOa HMC
  obtain ⟨tba, htba⟩ : ∃ q, x.b 0 = q := ⟨_, rfl⟩
  obtain ⟨tta, htta⟩ : ∃ q, x.t 0 = q := ⟨_, rfl⟩
  rw [htba] at HOa eba
  rw [htta] at HOa eta
  clear hqa htba htta
  have HOb := Lib.hid (fun W => outcome_any (x.b 1) (x.t 1) (HBT.out.1 1) (HBT.out.2.1 1) W)
  have ebb : W1.cell? ⟨g, 4, none⟩ = some (.int .u8 (x.b 1)) := (blk_cell KS.out 4).trans (HSB.out.1 1 (by decide))
  have etb : W1.cell? ⟨g, 8, none⟩ = some (.int .u8 (x.t 1)) := (blk_cell KS.out 8).trans (HSB.out.2.1 1 (by decide))
  obtain ⟨qb, hqb⟩ : ∃ q, outO (x.b 1) (x.t 1) = q := ⟨_, rfl⟩
  rw [hqb] at HOb HMC
  obtain ⟨tbb, htbb⟩ : ∃ q, x.b 1 = q := ⟨_, rfl⟩
  obtain ⟨ttb, httb⟩ : ∃ q, x.t 1 = q := ⟨_, rfl⟩
  rw [htbb] at HOb ebb
  rw [httb] at HOb etb
  clear hqb htbb httb
  have hgg : g ≤ g3 := by omega
  obtain ⟨q1, q2, q3, q4, q5, q6⟩ := qa
  obtain ⟨r1, r2, r3, r4, r5, r6⟩ := qb
  dsimp only at HOa HOb
  have hd2 : Below W1.heap.size W1 W1.drew := (Below.refl _ _).drew
  have HKS := Lib.hid (fun (W : World) (hW : Below g3 W1 W) => (show W.cell? ⟨g, 3, none⟩ = some (.int .u8 tba) ∧ W.cell? ⟨g, 7, none⟩ = some (.int .u8 tta) ∧ W.cell? ⟨g, 4, none⟩ = some (.int .u8 tbb) ∧ W.cell? ⟨g, 8, none⟩ = some (.int .u8 ttb) from
    have hg3 : g < g3 := by omega
    ⟨(bcell hW g 3 hg3).trans eba, (bcell hW g 7 hg3).trans eta, (bcell hW g 4 hg3).trans ebb, (bcell hW g 8 hg3).trans etb⟩))
  have hl3 : g3 ≤ W1.heap.size := Nat.le_of_lt l3
  go_upto_region 6 with fail
  clear h4
  refine wp_region_held_drew (S := (fun w' => w'.cell? ⟨g, 3, none⟩ = some (.int .u8 tba) ∧ w'.cell? ⟨g, 7, none⟩ = some (.int .u8 tta) ∧ w'.cell? ⟨g, 4, none⟩ = some (.int .u8 tbb) ∧ w'.cell? ⟨g, 8, none⟩ = some (.int .u8 ttb))) (by kernel_rfl) ⟨eba, eta, ebb, etb⟩ (fun hHeld => ?_)
  refine take_named (i := 0) (d := 31) (v := ?vs0) rfl (by kernel_rfl) (by kernel_rfl) (by kernel_rfl) (by kernel_rfl) (fun _ _ _ h => h) (Or.inl ⟨by kernel_rfl, ?ys0⟩) (by assumption) ?_
  case ys0 => intro wq hSw; (try dsimp only at hSw); go_simp; (try with_reducible rfl)
  (try simp only [Act.put, List.setIfInBounds_toArray, List.set_cons_zero, List.set_cons_succ])
  refine take_named (i := 1) (d := 32) (v := ?vs1) rfl (by kernel_rfl) (by kernel_rfl) (by kernel_rfl) (by kernel_rfl) (fun _ _ _ h => h) (Or.inl ⟨by kernel_rfl, ?ys1⟩) (by assumption) ?_
  case ys1 => intro wq hSw; (try dsimp only at hSw); go_simp; (try with_reducible rfl)
  (try simp only [Act.put, List.setIfInBounds_toArray, List.set_cons_zero, List.set_cons_succ])
  refine take_named (i := 2) (d := 33) (v := ?vs2) rfl (by kernel_rfl) (by kernel_rfl) (by kernel_rfl) (by kernel_rfl) (fun _ _ _ h => h) (Or.inl ⟨by kernel_rfl, ?ys2⟩) (by assumption) ?_
  case ys2 => intro wq hSw; (try dsimp only at hSw); go_simp; (try with_reducible rfl)
  (try simp only [Act.put, List.setIfInBounds_toArray, List.set_cons_zero, List.set_cons_succ])
  refine take_named (i := 3) (d := 34) (v := ?vs3) rfl (by kernel_rfl) (by kernel_rfl) (by kernel_rfl) (by kernel_rfl) (fun _ _ _ h => h) (Or.inl ⟨by kernel_rfl, ?ys3⟩) (by assumption) ?_
  case ys3 => intro wq hSw; (try dsimp only at hSw); go_simp; (try with_reducible rfl)
  (try simp only [Act.put, List.setIfInBounds_toArray, List.set_cons_zero, List.set_cons_succ])
  refine take_named (i := 4) (d := 35) (v := ?vs4) rfl (by kernel_rfl) (by kernel_rfl) (by kernel_rfl) (by kernel_rfl) (fun _ _ _ h => h) (Or.inl ⟨by kernel_rfl, ?ys4⟩) (by assumption) ?_
  case ys4 => intro wq hSw; (try dsimp only at hSw); go_simp; (try with_reducible rfl)
  (try simp only [Act.put, List.setIfInBounds_toArray, List.set_cons_zero, List.set_cons_succ])
  refine take_named (i := 5) (d := 36) (v := ?vs5) rfl (by kernel_rfl) (by kernel_rfl) (by kernel_rfl) (by kernel_rfl) (fun _ _ _ h => h) (Or.inl ⟨by kernel_rfl, ?ys5⟩) (by assumption) ?_
  case ys5 => intro wq hSw; (try dsimp only at hSw); go_simp; (try with_reducible rfl)
  (try simp only [Act.put, List.setIfInBounds_toArray, List.set_cons_zero, List.set_cons_succ])
  refine take_named (i := 7) (d := 38) (v := ?vs7) rfl (by kernel_rfl) (by kernel_rfl) (by kernel_rfl) (by kernel_rfl) (fun _ _ _ h => h) (Or.inl ⟨by kernel_rfl, ?ys7⟩) (by assumption) ?_
  case ys7 => intro wq hSw; (try dsimp only at hSw); go_simp; (try with_reducible rfl)
  (try simp only [Act.put, List.setIfInBounds_toArray, List.set_cons_zero, List.set_cons_succ])
  refine take_named (i := 8) (d := 39) (v := ?vs8) rfl (by kernel_rfl) (by kernel_rfl) (by kernel_rfl) (by kernel_rfl) (fun _ _ _ h => h) (Or.inl ⟨by kernel_rfl, ?ys8⟩) (by assumption) ?_
  case ys8 => intro wq hSw; (try dsimp only at hSw); go_simp; (try with_reducible rfl)
  (try simp only [Act.put, List.setIfInBounds_toArray, List.set_cons_zero, List.set_cons_succ])
  refine take_named (i := 9) (d := 40) (v := ?vs9) rfl (by kernel_rfl) (by kernel_rfl) (by kernel_rfl) (by kernel_rfl) (fun _ _ _ h => h) (Or.inl ⟨by kernel_rfl, ?ys9⟩) (by assumption) ?_
  case ys9 => intro wq hSw; (try dsimp only at hSw); go_simp; (try with_reducible rfl)
  (try simp only [Act.put, List.setIfInBounds_toArray, List.set_cons_zero, List.set_cons_succ])
  refine take_named (i := 10) (d := 41) (v := ?vs10) rfl (by kernel_rfl) (by kernel_rfl) (by kernel_rfl) (by kernel_rfl) (fun _ _ _ h => h) (Or.inl ⟨by kernel_rfl, ?ys10⟩) (by assumption) ?_
  case ys10 => intro wq hSw; (try dsimp only at hSw); go_simp; (try with_reducible rfl)
  (try simp only [Act.put, List.setIfInBounds_toArray, List.set_cons_zero, List.set_cons_succ])
  refine take_named (i := 11) (d := 42) (v := ?vs11) rfl (by kernel_rfl) (by kernel_rfl) (by kernel_rfl) (by kernel_rfl) (fun _ _ _ h => h) (Or.inl ⟨by kernel_rfl, ?ys11⟩) (by assumption) ?_
  case ys11 => intro wq hSw; (try dsimp only at hSw); go_simp; (try with_reducible rfl)
  (try simp only [Act.put, List.setIfInBounds_toArray, List.set_cons_zero, List.set_cons_succ])
  refine take_named (i := 12) (d := 43) (v := ?vs12) rfl (by kernel_rfl) (by kernel_rfl) (by kernel_rfl) (by kernel_rfl) (fun _ _ _ h => h) (Or.inl ⟨by kernel_rfl, ?ys12⟩) (by assumption) ?_
  case ys12 => intro wq hSw; (try dsimp only at hSw); go_simp; (try with_reducible rfl)
  (try simp only [Act.put, List.setIfInBounds_toArray, List.set_cons_zero, List.set_cons_succ])
  refine take_named (i := 14) (d := 45) (v := ?vs14) rfl (by kernel_rfl) (by kernel_rfl) (by kernel_rfl) (by kernel_rfl) (fun _ _ _ h => h) (Or.inl ⟨by kernel_rfl, ?ys14⟩) (by assumption) ?_
  case ys14 => intro wq hSw; (try dsimp only at hSw); go_simp; (try with_reducible rfl)
  (try simp only [Act.put, List.setIfInBounds_toArray, List.set_cons_zero, List.set_cons_succ])
  refine take_named (i := 17) (d := 47) (v := ?vs17) rfl (by kernel_rfl) (by kernel_rfl) (by kernel_rfl) (by kernel_rfl) (fun _ _ _ h => h) (Or.inl ⟨by kernel_rfl, ?ys17⟩) (by assumption) ?_
  case ys17 => intro wq hSw; (try dsimp only at hSw); go_simp; (try with_reducible rfl)
  (try simp only [Act.put, List.setIfInBounds_toArray, List.set_cons_zero, List.set_cons_succ])
  refine wpAnyH_ready (rs := [6]) (by kernel_rfl) (by simp) ?_
  refine AllReadyH.cons rfl (fun K hK => ?_) AllReadyH.nil
  go_simp
  refine (HOa.out _).mono ?_
  rintro ee wm ⟨rfl, hbm0⟩
  have hbm := hd2.trans (hbm0.mono hd2.size)
  refine hK.out _ _ (HKS.out _ (hbm.mono hl3)) (fun hHeld1 => ?_)
  clear hK K hHeld
  (try simp only [Act.put, List.setIfInBounds_toArray, List.set_cons_zero, List.set_cons_succ])
  refine take_named (i := 15) (d := 46) (v := ?vs15) rfl (by kernel_rfl) (by kernel_rfl) (by kernel_rfl) (by kernel_rfl) (fun _ _ _ h => h) (Or.inl ⟨by kernel_rfl, ?ys15⟩) (by assumption) ?_
  case ys15 => intro wq hSw; (try dsimp only at hSw); go_simp; (try with_reducible rfl)
  (try simp only [Act.put, List.setIfInBounds_toArray, List.set_cons_zero, List.set_cons_succ])
  refine wpAnyH_ready (rs := [13]) (by kernel_rfl) (by simp) ?_
  refine AllReadyH.cons rfl (fun K hK => ?_) AllReadyH.nil
  go_simp
  refine (HOb.out _).mono ?_
  rintro ee wn ⟨rfl, hbn0⟩
  have hbn := hbm.trans (hbn0.mono hbm.size)
  have k3n := blk_below HK3.out hbn l3
  have ua0 : wn.cell? ⟨g3, 7, none⟩ = some (.int .u8 0) := blk_cell k3n 7
  have fa0 := blk_free k3n 7
  have ua1 : wn.cell? ⟨g3, 8, none⟩ = some (.int .u8 0) := blk_cell k3n 8
  have fa1 := blk_free k3n 8
  have ua2 : wn.cell? ⟨g3, 9, none⟩ = some (.int .u8 0) := blk_cell k3n 9
  have fa2 := blk_free k3n 9
  have ua3 : wn.cell? ⟨g3, 10, none⟩ = some (.int .u8 0) := blk_cell k3n 10
  have fa3 := blk_free k3n 10
  have ua4 : wn.cell? ⟨g3, 11, none⟩ = some (.int .i64 0) := blk_cell k3n 11
  have fa4 := blk_free k3n 11
  have ua5 : wn.cell? ⟨g3, 12, none⟩ = some (.int .i64 0) := blk_cell k3n 12
  have fa5 := blk_free k3n 12
  have ua6 : wn.cell? ⟨g3, 13, none⟩ = some (.int .u8 0) := blk_cell k3n 13
  have fa6 := blk_free k3n 13
  have ua7 : wn.cell? ⟨g3, 14, none⟩ = some (.int .u8 0) := blk_cell k3n 14
  have fa7 := blk_free k3n 14
  have ua8 : wn.cell? ⟨g3, 15, none⟩ = some (.int .u8 0) := blk_cell k3n 15
  have fa8 := blk_free k3n 15
  have ua9 : wn.cell? ⟨g3, 16, none⟩ = some (.int .u8 0) := blk_cell k3n 16
  have fa9 := blk_free k3n 16
  have ua10 : wn.cell? ⟨g3, 17, none⟩ = some (.int .i64 0) := blk_cell k3n 17
  have fa10 := blk_free k3n 17
  have ua11 : wn.cell? ⟨g3, 18, none⟩ = some (.int .i64 0) := blk_cell k3n 18
  have fa11 := blk_free k3n 18
  refine hK.out _ _ (HKS.out _ (hbn.mono hl3)) (fun hHeld2 => ?_)
  clear hK K hHeld1
  (try simp only [Act.put, List.setIfInBounds_toArray, List.set_cons_zero, List.set_cons_succ])
  refine wpAnyH_ready (rs := [16]) (by kernel_rfl) (by simp) ?_
  refine AllReadyH.cons rfl (fun K hK => ?_) AllReadyH.nil
  go_simp
  refine hK.out _ _ (HKS.out _ (six_below (hbn.mono hl3) g3 7 (Nat.le_refl _) ⟨q1, q2, q3, q4, q5, q6⟩)) (fun hHeld3 => ?_)
  clear hK K hHeld2
  (try simp only [Act.put, List.setIfInBounds_toArray, List.set_cons_zero, List.set_cons_succ])
  refine take_named (i := 18) (d := 48) (v := ?vs18) rfl (by kernel_rfl) (by kernel_rfl) (by kernel_rfl) (by kernel_rfl) (fun _ _ _ h => h) (Or.inl ⟨by kernel_rfl, ?ys18⟩) (by assumption) ?_
  case ys18 => intro wq hSw; (try dsimp only at hSw); go_simp; (try with_reducible rfl)
  (try simp only [Act.put, List.setIfInBounds_toArray, List.set_cons_zero, List.set_cons_succ])
  refine wpAnyH_ready (rs := [19]) (by kernel_rfl) (by simp) ?_
  refine AllReadyH.cons rfl (fun K hK => ?_) AllReadyH.nil
  go_simp
  refine hK.out _ _ (HKS.out _ (six_below (six_below (hbn.mono hl3) g3 7 (Nat.le_refl _) ⟨q1, q2, q3, q4, q5, q6⟩) g3 13 (Nat.le_refl _) ⟨r1, r2, r3, r4, r5, r6⟩)) (fun hHeld4 => ?_)
  clear hK K hHeld3
  (try simp only [Act.put, List.setIfInBounds_toArray, List.set_cons_zero, List.set_cons_succ])
  refine wpAnyH_done (by kernel_rfl) ?_ _
  have k3 := blk_below HK3.out hbn l3
  have hB2 := below_via hB1 hbn
  have KRb := Lib.hid (blk_below KR.out hbn (by omega))
  have KX := Lib.hid (six_set (six_set k3 0 (by decide) ⟨q1, q2, q3, q4, q5, q6⟩) 1 (by decide) ⟨r1, r2, r3, r4, r5, r6⟩)
  clear k3 eba eta ebb etb
  go_upto_region 23 with fail
  have KF := Lib.hid (KX.out)
  have KR2 := Lib.hid (six_far (six_far KRb.out (show g + 1 ≠ g3 by omega) 7 ⟨q1, q2, q3, q4, q5, q6⟩) (show g + 1 ≠ g3 by omega) 13 ⟨r1, r2, r3, r4, r5, r6⟩)
  have hBf := Lib.hid (six_below (six_below hB2 g3 7 (show w.heap.size ≤ g3 by rw [HG.out]; omega) ⟨q1, q2, q3, q4, q5, q6⟩) g3 13 (show w.heap.size ≤ g3 by rw [HG.out]; omega) ⟨r1, r2, r3, r4, r5, r6⟩)
  simp only [six, Nat.reduceMul, Nat.reduceAdd] at KF KR2 hBf
  have hz : (Tryd.prog.info? 32).map (·.size) = some (enCells 3 f (upd (upd ex0 0 ⟨q1, q2, q3, q4, q5, q6⟩) 1 ⟨r1, r2, r3, r4, r5, r6⟩) 0 0).size := enC_size _ _ _ _ _
  have HZF := Lib.hid hz
  clear hz
  go_wp2_with (first | (refine wpList_load_row rfl 32 (.tmp 3) rfl g3 rfl 32 (enCells 3 f (upd (upd ex0 0 ⟨q1, q2, q3, q4, q5, q6⟩) 1 ⟨r1, r2, r3, r4, r5, r6⟩) 0 0) _ _ KF.out Tryd.underlying32 rfl HZF.out ?_) | (refine wpList_store_row rfl 32 _ _ rfl (g + 1) (enCells 3 f (upd (upd ex0 0 ⟨q1, q2, q3, q4, q5, q6⟩) 1 ⟨r1, r2, r3, r4, r5, r6⟩) 0 0) rfl rfl 32 _ KR2.out HZF.out rfl (enCells_one _ _ _ _ _) ?_))
  exact bodyPost_ret (v := .agg (enCells 3 f (upd (upd ex0 0 ⟨q1, q2, q3, q4, q5, q6⟩) 1 ⟨r1, r2, r3, r4, r5, r6⟩) 0 0)) (results_cell_row (by rfl) _ _ (g + 1) 32 (enCells 3 f (upd (upd ex0 0 ⟨q1, q2, q3, q4, q5, q6⟩) 1 ⟨r1, r2, r3, r4, r5, r6⟩) 0 0) (0, 0) _ rfl (setRow_heap _ _ _ _ _ _ KR2.out) Tryd.underlying32 rfl HZF.out) rfl ⟨by rw [HMC.out], below_setRow hBf.out (by rw [HG.out]; exact Nat.le_succ _) _⟩
  
set_option maxRecDepth 100000 in
set_option maxHeartbeats 4000000 in
theorem made_k2 (x : SmE) (hx : x.Ok) (hk : x.k % 5 = 2) (w : World) :
    Calls Tryd.prog 18 #[.agg (smA x)] w fun e w' => e = .returned (.agg (madeC x)) ∧ Below w.heap.size w w' := by
  obtain ⟨hk0, hf0, ha0, hb0, ht0, hv0⟩ := hx
  have HZ := Lib.hid enC_size
  obtain ⟨f, hf⟩ : ∃ f, x.f % 4 = f := ⟨_, rfl⟩
  have HMC := Lib.hid (show madeC x = enCells 2 f (wghO x (nM x) (nM x)) 0 0 by
    unfold madeC madeO madeA0 madeA1
    rw [hk, hf]; rfl)
  obtain ⟨xk, hxk⟩ : ∃ y, x.k = y := ⟨_, rfl⟩
  obtain ⟨xf, hxf⟩ : ∃ y, x.f = y := ⟨_, rfl⟩
  rw [hxk] at hk hk0
  rw [hxf] at hf hf0
  have hs0 : (smA x)[0]? = some (.int .u8 xk) := by rw [← hxk]; rfl
  have hs1 : (smA x)[1]? = some (.int .u8 xf) := by rw [← hxf]; rfl
  have hs2 : (smA x)[2]? = some (.int .u8 x.a) := rfl
  have hsb := sm_b x
  have hst := sm_t x
  have hsv := sm_v x
  have HSB := Lib.hid (And.intro hsb (And.intro hst hsv))
  have HBT := Lib.hid (And.intro hb0 (And.intro ht0 hv0))
  clear hsb hst hsv hb0 ht0 hv0 hxk hxf
  go_enter Tryd.func18, Tryd.ntmps18
  go_upto_region 1 with fail
  obtain ⟨Z, hZ⟩ : ∃ Z, enCells 0 0 ex0 0 0 = Z := ⟨_, rfl⟩
  obtain ⟨W0, hW0⟩ : ∃ W0, (w.alloc (.cells (smA x) 61)).alloc (.cells (enCells 0 0 ex0 0 0) 32) = W0 := ⟨_, rfl⟩
  obtain ⟨g, hg⟩ : ∃ g, w.heap.size = g := ⟨_, rfl⟩
  have KS := Lib.hid (show W0.heap[g]? = some (.cells (smA x) 61) by rw [← hW0]; exact blk_alloc (blk_new _ hg.symm) _)
  have KR := Lib.hid (show W0.heap[g + 1]? = some (.cells (enCells 0 0 ex0 0 0) 32) by rw [← hW0]; exact blk_new _ (by simp; omega))
  have hB0 : Below w.heap.size w W0 := by rw [← hW0]; exact (by repeat (first | exact Below.refl _ _ | assumption | refine Below.drew ?_ | refine below_drewN ?_ _ | refine Below.alloc ?_ (by first | omega | (simp; done) | (simp; omega)) _ | refine Below.setCell ?_ (by first | omega | (simp; done) | (simp; omega)) _))
  have hnW : (w.alloc (.cells (smA x) 61)).alloc (.cells #[.int .i64 0, .int .i64 0, .int .i64 0, .int .i64 0, .int .u8 0, .int .u8 0, .bool false, .int .u8 0, .int .u8 0, .int .u8 0, .int .u8 0, .int .i64 0, .int .i64 0, .int .u8 0, .int .u8 0, .int .u8 0, .int .u8 0, .int .i64 0, .int .i64 0, .int .u8 0, .int .u8 0, .int .u8 0, .int .u8 0, .int .i64 0, .int .i64 0, .int .u8 0, .int .u8 0, .int .u8 0, .int .u8 0, .int .i64 0, .int .i64 0, .int .i64 0, .int .i64 0] 32) = W0 := hW0
  rw [hnW, hg]
  have HG := Lib.hid hg
  have lr := blk_lt KR.out
  have e0 := (blk_cell KS.out 0).trans hs0
  have e1 := (blk_cell KS.out 1).trans hs1
  clear hW0 hnW hZ hg
  go_upto_region 2 with (first | (refine wpList_build_to rfl 32 _ rfl (enCells (xk % 5) (xf % 4) ex0 0 0) (by kernel_rfl) ?_) | (refine wpList_store_new rfl 32 _ _ rfl (enCells 2 f ex0 0 0) _ _ rfl rfl (HZ.out _ _ _ _ _) rfl (enCells_one _ _ _ _ _) ?_))
  obtain ⟨W1, hW1⟩ : ∃ W1, W0.alloc (.cells (enCells 2 f ex0 0 0) 32) = W1 := ⟨_, rfl⟩
  obtain ⟨g3, hg3⟩ : ∃ g, W0.heap.size = g := ⟨_, rfl⟩
  have k3 : W1.heap[g3]? = some (.cells (enCells 2 f ex0 0 0) 32) := by rw [← hW1]; exact blk_new _ hg3.symm
  have KS := Lib.hid (show W1.heap[g]? = some (.cells (smA x) 61) by rw [← hW1]; exact blk_alloc KS.out _)
  have KR := Lib.hid (show W1.heap[g + 1]? = some (.cells (enCells 0 0 ex0 0 0) 32) by rw [← hW1]; exact blk_alloc KR.out _)
  have hB1 : Below w.heap.size w W1 := by rw [← hW1]; exact hB0.alloc hB0.size _
  have hgr : g + 1 < g3 := by omega
  rw [hW1, hg3]
  have HK3 := Lib.hid k3
  have h4 : W1.cell? ⟨g3, 4, none⟩ = some (.int .u8 2) := blk_cell k3 4
  have l3 := blk_lt k3
  clear hW1 hg3 k3 e0 e1 hB0 lr
  have hgg : g ≤ g3 := by omega
  have ev0 := (blk_cell KS.out 11).trans (HSB.out.2.2 0 (by decide))
  obtain ⟨N, hN⟩ : ∃ N, nM x = N := ⟨_, rfl⟩
  have hv00 := HBT.out.2.2 0
  have hNi : 2 + x.v 0 % 3 = (N : Int) := by rw [← hN]; unfold nM; omega
  have hNb : 2 ≤ N ∧ N ≤ 4 := by omega
  rw [hN] at HMC
  clear hN
  go_upto_region 10 with fail
  clear hNi hv00 ev0
  have nb0 : (2 : Int) ≤ (N : Int) := by omega
  have nb1 : (N : Int) ≤ 4 := by omega
  go_wp2
  go_loopw [5, 58] (fun l i wr => ∃ k : Nat, k ≤ N ∧ i = .int .i64 (k : Int) ∧ l = .int .i64 (leftM x.v N k) ∧ Hid (wr.heap[g3]? = some (.cells (enCells 2 f (wghO x N k) 0 0) 32)) ∧ Below g3 W1 wr) (fun _ i _ => N - (intOf i).toNat)
  case atStart => exact ⟨0, by omega, rfl, rfl, (show _ = _ by rw [← wgh_zero]; exact HK3.out), Below.refl _ _⟩
  case round =>
    obtain ⟨k, hk, rfl, rfl, hkr, hbel⟩ := hrel
    have hkr0 := hkr
    by_cases hlt : k < N
    · have hk4 : k < 4 := by omega
      have kr := hkr.out
      have lr3 := blk_lt kr
      have hl3 : g3 ≤ wr.heap.size := Nat.le_of_lt lr3
      have hsg : g < g3 := by omega
      have eb : wr.cell? ⟨g, 3 + k, none⟩ = some (.int .u8 (x.b k)) := (bcell hbel g _ hsg).trans ((blk_cell KS.out (3 + k)).trans (HSB.out.1 k hk4))
      have et : wr.cell? ⟨g, 7 + k, none⟩ = some (.int .u8 (x.t k)) := (bcell hbel g _ hsg).trans ((blk_cell KS.out (7 + k)).trans (HSB.out.2.1 k hk4))
      have HEV := Lib.hid (fun (h3 : k < 3) (W : World) (hW : Below g3 wr W) => (show W.cell? ⟨g, 11 + k, none⟩ = some (.int .u8 (x.v k)) from (bcell hW g _ hsg).trans ((bcell hbel g _ hsg).trans ((blk_cell KS.out (11 + k)).trans (HSB.out.2.2 k h3)))))
      have HO := Lib.hid (fun W => outcome_any (x.b k) (x.t k) (HBT.out.1 k) (HBT.out.2.1 k) W)
      have hvk := HBT.out.2.2 k
      have hlb := leftM_bd x.v N hNb.2 k hlt
      have hwb := wgtM_bd x.v N hNb.2 k hlt
      have HWc := Lib.hid (wgh_cells x N k f hk4)
      have HLs := Lib.hid (leftM_succ x.v N k)
      have HWd := Lib.hid (show wgtM x.v N k = if k + 1 < N then 1 + x.v k % (leftM x.v N k - ((N : Int) - 1 - k)) else leftM x.v N k from rfl)
      obtain ⟨q, hq⟩ : ∃ q, outO (x.b k) (x.t k) = q := ⟨_, rfl⟩
      rw [hq] at HO HWc
      obtain ⟨tb, htb⟩ : ∃ q, x.b k = q := ⟨_, rfl⟩
      obtain ⟨tt, htt⟩ : ∃ q, x.t k = q := ⟨_, rfl⟩
      rw [htb] at HO eb
      rw [htt] at HO et
      obtain ⟨q1, q2, q3, q4, q5, q6⟩ := q
      dsimp only at HO
      generalize leftM x.v N k = l at hlb HLs HWd ⊢
      generalize wgtM x.v N k = y at hwb HWc HLs HWd
      generalize x.v k = vk at HEV hvk HWd
      clear hq htb htt hkr hkr0
      have c1 : (0 : Int) ≤ (k : Int) := by omega
      have c2 : (k : Int) < 4 := by omega
      have c2' : (k : Int) < (N : Int) := by omega
      have hd2 : Below wr.heap.size wr wr.drew := (Below.refl _ _).drew
      have HKS := Lib.hid (fun (W : World) (hW : Below g3 wr W) => (show W.cell? ⟨g, 3 + k, none⟩ = some (.int .u8 tb) ∧ W.cell? ⟨g, 7 + k, none⟩ = some (.int .u8 tt) from ⟨(bcell hW g _ hsg).trans eb, (bcell hW g _ hsg).trans et⟩))
      go_upto_region 13 with fail
      refine wp_region_held_drew (S := (fun w' => w'.cell? ⟨g, 3 + k, none⟩ = some (.int .u8 tb) ∧ w'.cell? ⟨g, 7 + k, none⟩ = some (.int .u8 tt))) (by kernel_rfl) ⟨eb, et⟩ (fun hHeld => ?_)
      refine take_named (i := 0) (d := 61) (v := ?vm0) rfl (by kernel_rfl) (by kernel_rfl) (by kernel_rfl) (by kernel_rfl) (fun _ _ _ h => h) (Or.inl ⟨by kernel_rfl, ?ym0⟩) (by assumption) ?_
      case ym0 => intro wq hSw; (try dsimp only at hSw); go_simp; (try with_reducible rfl)
      (try simp only [Act.put, List.setIfInBounds_toArray, List.set_cons_zero, List.set_cons_succ])
      refine take_named (i := 1) (d := 62) (v := ?vm1) rfl (by kernel_rfl) (by kernel_rfl) (by kernel_rfl) (by kernel_rfl) (fun _ _ _ h => h) (Or.inl ⟨by kernel_rfl, ?ym1⟩) (by assumption) ?_
      case ym1 => intro wq hSw; (try dsimp only at hSw); go_simp; (try with_reducible rfl)
      (try simp only [Act.put, List.setIfInBounds_toArray, List.set_cons_zero, List.set_cons_succ])
      refine take_named (i := 2) (d := 63) (v := ?vm2) rfl (by kernel_rfl) (by kernel_rfl) (by kernel_rfl) (by kernel_rfl) (fun _ _ _ h => h) (Or.inl ⟨by kernel_rfl, ?ym2⟩) (by assumption) ?_
      case ym2 => intro wq hSw; (try dsimp only at hSw); go_simp; (try with_reducible rfl)
      (try simp only [Act.put, List.setIfInBounds_toArray, List.set_cons_zero, List.set_cons_succ])
      refine take_named (i := 3) (d := 64) (v := ?vm3) rfl (by kernel_rfl) (by kernel_rfl) (by kernel_rfl) (by kernel_rfl) (fun _ _ _ h => h) (Or.inl ⟨by kernel_rfl, ?ym3⟩) (by assumption) ?_
      case ym3 => intro wq hSw; (try dsimp only at hSw); go_simp; (try with_reducible rfl)
      (try simp only [Act.put, List.setIfInBounds_toArray, List.set_cons_zero, List.set_cons_succ])
      refine take_named (i := 4) (d := 65) (v := ?vm4) rfl (by kernel_rfl) (by kernel_rfl) (by kernel_rfl) (by kernel_rfl) (fun _ _ _ h => h) (Or.inl ⟨by kernel_rfl, ?ym4⟩) (by assumption) ?_
      case ym4 => intro wq hSw; (try dsimp only at hSw); go_simp; (try with_reducible rfl)
      (try simp only [Act.put, List.setIfInBounds_toArray, List.set_cons_zero, List.set_cons_succ])
      refine take_named (i := 5) (d := 66) (v := ?vm5) rfl (by kernel_rfl) (by kernel_rfl) (by kernel_rfl) (by kernel_rfl) (fun _ _ _ h => h) (Or.inl ⟨by kernel_rfl, ?ym5⟩) (by assumption) ?_
      case ym5 => intro wq hSw; (try dsimp only at hSw); go_simp; (try with_reducible rfl)
      (try simp only [Act.put, List.setIfInBounds_toArray, List.set_cons_zero, List.set_cons_succ])
      refine take_named (i := 6) (d := 67) (v := ?vm6) rfl (by kernel_rfl) (by kernel_rfl) (by kernel_rfl) (by kernel_rfl) (fun _ _ _ h => h) (Or.inl ⟨by kernel_rfl, ?ym6⟩) (by assumption) ?_
      case ym6 => intro wq hSw; (try dsimp only at hSw); go_simp; (try with_reducible rfl)
      (try simp only [Act.put, List.setIfInBounds_toArray, List.set_cons_zero, List.set_cons_succ])
      refine take_named (i := 7) (d := 68) (v := ?vm7) rfl (by kernel_rfl) (by kernel_rfl) (by kernel_rfl) (by kernel_rfl) (fun _ _ _ h => h) (Or.inl ⟨by kernel_rfl, ?ym7⟩) (by assumption) ?_
      case ym7 => intro wq hSw; (try dsimp only at hSw); go_simp; (try with_reducible rfl)
      (try simp only [Act.put, List.setIfInBounds_toArray, List.set_cons_zero, List.set_cons_succ])
      refine take_named (i := 8) (d := 69) (v := ?vm8) rfl (by kernel_rfl) (by kernel_rfl) (by kernel_rfl) (by kernel_rfl) (fun _ _ _ h => h) (Or.inl ⟨by kernel_rfl, ?ym8⟩) (by assumption) ?_
      case ym8 => intro wq hSw; (try dsimp only at hSw); go_simp; (try with_reducible rfl)
      (try simp only [Act.put, List.setIfInBounds_toArray, List.set_cons_zero, List.set_cons_succ])
      refine take_named (i := 10) (d := 71) (v := ?vm10) rfl (by kernel_rfl) (by kernel_rfl) (by kernel_rfl) (by kernel_rfl) (fun _ _ _ h => h) (Or.inl ⟨by kernel_rfl, ?ym10⟩) (by assumption) ?_
      case ym10 => intro wq hSw; (try dsimp only at hSw); go_simp; (try with_reducible rfl)
      (try simp only [Act.put, List.setIfInBounds_toArray, List.set_cons_zero, List.set_cons_succ])
      refine wpAnyH_ready (rs := [9]) (by kernel_rfl) (by simp) ?_
      refine AllReadyH.cons rfl (fun K hK => ?_) AllReadyH.nil
      go_simp
      refine (HO.out _).mono ?_
      rintro ee wm ⟨rfl, hbm0⟩
      have hbm := hd2.trans (hbm0.mono hd2.size)
      have kmm := blk_below kr hbm lr3
      obtain ⟨u0, u1, u2, u3, u4, u5⟩ := (enCells_ok 2 f (wghO x N k) 0 0).cells kmm k hk4
      have f0 := blk_free kmm (7 + k * 6)
      have f1 := blk_free kmm (7 + k * 6 + 1)
      have f2 := blk_free kmm (7 + k * 6 + 2)
      have f3 := blk_free kmm (7 + k * 6 + 3)
      have f4 := blk_free kmm (7 + k * 6 + 4)
      have f5 := blk_free kmm (7 + k * 6 + 5)
      refine hK.out _ _ (HKS.out _ (hbm.mono hl3)) (fun hHeld1 => ?_)
      clear hK K hHeld
      (try simp only [Act.put, List.setIfInBounds_toArray, List.set_cons_zero, List.set_cons_succ])
      refine take_named (i := 11) (d := 72) (v := ?vm11) rfl (by kernel_rfl) (by kernel_rfl) (by kernel_rfl) (by kernel_rfl) (fun _ _ _ h => h) (Or.inl ⟨by kernel_rfl, ?ym11⟩) (by assumption) ?_
      case ym11 => intro wq hSw; (try dsimp only at hSw); go_simp; (try with_reducible rfl)
      (try simp only [Act.put, List.setIfInBounds_toArray, List.set_cons_zero, List.set_cons_succ])
      refine wpAnyH_ready (rs := [12]) (by kernel_rfl) (by simp) ?_
      refine AllReadyH.cons rfl (fun K hK => ?_) AllReadyH.nil
      go_simp
      refine hK.out _ _ (HKS.out _ (six_below (hbm.mono hl3) g3 (7 + k * 6) (Nat.le_refl _) ⟨q1, q2, q3, q4, q5, q6⟩)) (fun hHeld2 => ?_)
      clear hK K hHeld1
      (try simp only [Act.put, List.setIfInBounds_toArray, List.set_cons_zero, List.set_cons_succ])
      refine wpAnyH_done (by kernel_rfl) ?_ _
      have KX := six_set kmm k hk4 ⟨q1, q2, q3, q4, q5, q6⟩
      have hb5 : Below g3 wr (six wm g3 (7 + k * 6) ⟨q1, q2, q3, q4, q5, q6⟩) := six_below (hbm.mono hl3) g3 (7 + k * 6) (Nat.le_refl _) _
      obtain ⟨W5, hW5⟩ : ∃ W5, six wm g3 (7 + k * 6) ⟨q1, q2, q3, q4, q5, q6⟩ = W5 := ⟨_, rfl⟩
      rw [hW5] at KX hb5
      unfold six at hW5
      dsimp only at hW5
      go_upto_region 14 with fail
      (try rw [hW5])
      have HE := Lib.hid (fun h3 => HEV.out h3 W5 hb5)
      have b5 : W5.cell? ⟨g3, 7 + k * 6 + 5, none⟩ = some (.int .i64 q6) := ((enCells_ok 2 f (upd (wghO x N k) k ⟨q1, q2, q3, q4, q5, q6⟩) 0 0).cells KX k hk4).2.2.2.2.2.trans (by rw [show upd (wghO x N k) k ⟨q1, q2, q3, q4, q5, q6⟩ k = ⟨q1, q2, q3, q4, q5, q6⟩ from if_pos rfl])
      have b6 := blk_free KX (7 + k * 6 + 5)
      have KY := Lib.hid ((blk_set KX (7 + k * 6 + 5) (.int .i64 y)).trans (congrArg (fun c => some (Obj.cells c 32)) HWc.out))
      have hb6 := Lib.hid ((hbel.trans (hb5.mono (Nat.le_refl _))).setCell (p := ⟨g3, 7 + k * 6 + 5, none⟩) (Nat.le_refl _) (.int .i64 y))
      clear u0 u1 u2 u3 u4 u5 f0 f1 f2 f3 f4 f5 kmm KX kr eb et hW5
      by_cases hlast : k + 1 < N
      · have h3 : k < 3 := by omega
        have e11 := HE.out h3
        obtain ⟨D, hD⟩ : ∃ D, l - ((N : Int) - 1 - (k : Int)) = D := ⟨_, rfl⟩
        have hDb : 1 ≤ D ∧ D ≤ 100 := by omega
        have hy : 1 + vk % D = y := by rw [HWd.out, if_pos hlast, hD]
        have hz0 : (D == 0) = false := beq_eq_false_iff_ne.2 (by omega)
        have hz1 : ¬ D = 0 := by omega
        have t1 : (k : Int) < (N : Int) - 1 := by omega
        go_wp2
        go_roundw
        case rel => exact ⟨k + 1, by omega, by go_num, int_eq HLs.out.symm, KY.out, hb6.out⟩
        case measure => simp [intOf]; omega
      · have hy : l = y := by rw [HWd.out, if_neg hlast]
        have t1 : ¬ (k : Int) < (N : Int) - 1 := by omega
        have t2 : (N : Int) - 1 ≤ (k : Int) := by omega
        subst hy
        go_wp2
        go_roundw
        case rel => exact ⟨k + 1, by omega, by go_num, int_eq (by rw [HLs.out]; omega), KY.out, hb6.out⟩
        case measure => simp [intOf]; omega
    · have hkN : k = N := by omega
      subst hkN
      have t1 : decide ((k : Int) < (k : Int)) = false := decide_eq_false (by omega)
      have KRb := Lib.hid (blk_below KR.out hbel hgr)
      go_upto_region 23 with fail
      have KF := Lib.hid (hkr.out)
      have KR2 := Lib.hid (KRb.out)
      have hBf := Lib.hid (below_up hB1 hbel (by rw [HG.out]; omega))
      
      have hz : (Tryd.prog.info? 32).map (·.size) = some (enCells 2 f (wghO x k k) 0 0).size := enC_size _ _ _ _ _
      have HZF := Lib.hid hz
      clear hz
      go_wp2_with (first | (refine wpList_load_row rfl 32 (.tmp 3) rfl g3 rfl 32 (enCells 2 f (wghO x k k) 0 0) _ _ KF.out Tryd.underlying32 rfl HZF.out ?_) | (refine wpList_store_row rfl 32 _ _ rfl (g + 1) (enCells 2 f (wghO x k k) 0 0) rfl rfl 32 _ KR2.out HZF.out rfl (enCells_one _ _ _ _ _) ?_))
      exact bodyPost_ret (v := .agg (enCells 2 f (wghO x k k) 0 0)) (results_cell_row (by rfl) _ _ (g + 1) 32 (enCells 2 f (wghO x k k) 0 0) (0, 0) _ rfl (setRow_heap _ _ _ _ _ _ KR2.out) Tryd.underlying32 rfl HZF.out) rfl ⟨by rw [HMC.out], below_setRow hBf.out (by rw [HG.out]; exact Nat.le_succ _) _⟩
      


theorem made_any22 (x : SmE) (hx : x.Ok) (w : World) :
    Calls Tryd.prog 18 #[.agg (smA x)] w fun e w' => e = .returned (.agg (madeC x)) ∧ Below w.heap.size w w' := by
  have h0 := hx.1
  have h : x.k % 5 = 0 ∨ x.k % 5 = 1 ∨ x.k % 5 = 2 ∨ x.k % 5 = 3 ∨ x.k % 5 = 4 := by omega
  rcases h with h | h | h | h | h
  · exact made_k0 x hx h w
  · exact made_k1 x hx h w
  · exact made_k2 x hx h w
  · exact made_k3 x hx h w
  · exact made_k4 x hx h w

end Go.Proofs.YtchklobblkddhaaDoor
