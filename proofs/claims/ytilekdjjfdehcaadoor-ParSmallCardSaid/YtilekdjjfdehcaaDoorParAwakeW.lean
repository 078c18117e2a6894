/- The walks of the helpers of layer 18's statements: Example, ours, awake. -/
import Derived.Test.YtilekdjjfdehcaaDoorParParW
import Derived.Test.YtilekdjjfdehcaaDoorParEx
import Derived.Laws.CopyOwn
namespace Go.Proofs.YtilekdjjfdehcaaDoor
open Go.RowKit

/-- The cells of the example's table. -/
def exC : Array Value := #[.int .i64 0, .int .i64 0, .int .i64 0, .int .i64 0, .int .i64 0, .int .i64 0, .int .i64 0, .int .i64 0, .int .i64 4, .int .i64 9, .int .i64 4, .int .i64 9, .int .i64 10, .int .i64 2, .int .i64 10, .int .i64 2, .int .i64 0, .int .i64 0, .int .i64 0, .int .i64 0]
theorem exC_tab : TabC exC exT := by
  refine ⟨rfl, fun d s hd hs => ?_⟩
  have h5 : d = 0 ∨ d = 1 ∨ d = 2 ∨ d = 3 ∨ d = 4 := by omega
  have h4 : s = 0 ∨ s = 1 ∨ s = 2 ∨ s = 3 := by omega
  rcases h5 with rfl | rfl | rfl | rfl | rfl <;> rcases h4 with rfl | rfl | rfl | rfl <;> rfl
/-- A table of zeroes. -/
def tabZ : Array Value := Array.replicate 20 (.int .i64 0)
theorem tabZ_zero : (Tryd.prog.info? 25).map (·.zero) = some (some (.agg tabZ)) := by kernel_rfl
theorem tabZ_tab : TabC tabZ (fun _ _ => 0) := by
  refine ⟨by simp [tabZ], fun d s hd hs => ?_⟩
  unfold tabZ
  rw [Array.getElem?_replicate, if_pos (by omega)]
theorem exT_right : rightT exT = true := by decide

set_option maxRecDepth 100000 in
set_option maxHeartbeats 1000000 in
theorem example_any (w : World) : Calls Tryd.prog 18 #[] w fun e w' => e = .returned (.agg exC) ∧ Below w.heap.size w w' := by
  go_enter Tryd.func18, Tryd.ntmps18
  go_upto_region 2 with (refine plain_alloc_to rfl 25 rfl tabZ tabZ_zero ?_)
  simp only [World.size_alloc]
  obtain ⟨W1, hW1⟩ : ∃ W1, (w.alloc (.cells tabZ 25)).alloc (.cells tabZ 25) = W1 := ⟨_, rfl⟩
  obtain ⟨g, hg⟩ : ∃ g, w.heap.size = g := ⟨_, rfl⟩
  have K0 := Lib.hid (show W1.heap[g]? = some (.cells tabZ 25) by rw [← hW1]; exact blk_alloc (blk_new _ hg.symm) _)
  have K1 := Lib.hid (show W1.heap[g + 1]? = some (.cells tabZ 25) by rw [← hW1]; exact blk_new _ (by simp [hg]))
  have hB1 : Below w.heap.size w W1 := by rw [← hW1]; exact (by repeat (first | exact Below.refl _ _ | assumption | refine Below.drew ?_ | refine below_drewN ?_ _ | refine Below.alloc ?_ (by first | omega | (simp; done) | (simp; omega)) _ | refine Below.setCell ?_ (by first | omega | (simp; done) | (simp; omega)) _))
  have hgw : w.heap.size ≤ g + 1 := by omega
  have hgw0 : w.heap.size ≤ g := by omega
  rw [hW1, hg]
  have q12 : W1.cell? ⟨g + 1, 12, none⟩ = some (.int .i64 0) := blk_cell K1.out 12
  have f12 := blk_free K1.out 12
  have q13 : W1.cell? ⟨g + 1, 13, none⟩ = some (.int .i64 0) := blk_cell K1.out 13
  have f13 := blk_free K1.out 13
  have q14 : W1.cell? ⟨g + 1, 14, none⟩ = some (.int .i64 0) := blk_cell K1.out 14
  have f14 := blk_free K1.out 14
  have q15 : W1.cell? ⟨g + 1, 15, none⟩ = some (.int .i64 0) := blk_cell K1.out 15
  have f15 := blk_free K1.out 15
  have q8 : W1.cell? ⟨g + 1, 8, none⟩ = some (.int .i64 0) := blk_cell K1.out 8
  have f8 := blk_free K1.out 8
  have q9 : W1.cell? ⟨g + 1, 9, none⟩ = some (.int .i64 0) := blk_cell K1.out 9
  have f9 := blk_free K1.out 9
  have q10 : W1.cell? ⟨g + 1, 10, none⟩ = some (.int .i64 0) := blk_cell K1.out 10
  have f10 := blk_free K1.out 10
  have q11 : W1.cell? ⟨g + 1, 11, none⟩ = some (.int .i64 0) := blk_cell K1.out 11
  have f11 := blk_free K1.out 11
  clear hW1 hg
  go_upto_region 4 with fail
  obtain ⟨W2, hW2⟩ : ∃ W2, (((((((W1.setCell ⟨g + 1, 12, none⟩ (.int .i64 10)).setCell ⟨g + 1, 13, none⟩ (.int .i64 2)).setCell ⟨g + 1, 14, none⟩ (.int .i64 10)).setCell ⟨g + 1, 15, none⟩ (.int .i64 2)).setCell ⟨g + 1, 8, none⟩ (.int .i64 4)).setCell ⟨g + 1, 9, none⟩ (.int .i64 9)).setCell ⟨g + 1, 10, none⟩ (.int .i64 4)).setCell ⟨g + 1, 11, none⟩ (.int .i64 9) = W2 := ⟨_, rfl⟩
  have K2 := Lib.hid (show W2.heap[g + 1]? = some (.cells exC 25) by rw [← hW2]; exact blk_set (blk_set (blk_set (blk_set (blk_set (blk_set (blk_set (blk_set (K1.out) 12 _) 13 _) 14 _) 15 _) 8 _) 9 _) 10 _) 11 _)
  have J2 := Lib.hid (show W2.heap[g]? = some (.cells tabZ 25) by rw [← hW2]; exact blk_far (blk_far (blk_far (blk_far (blk_far (blk_far (blk_far (blk_far (K0.out) (by show g ≠ g + 1; omega) _) (by show g ≠ g + 1; omega) _) (by show g ≠ g + 1; omega) _) (by show g ≠ g + 1; omega) _) (by show g ≠ g + 1; omega) _) (by show g ≠ g + 1; omega) _) (by show g ≠ g + 1; omega) _) (by show g ≠ g + 1; omega) _)
  have hB2 : Below w.heap.size w W2 := by rw [← hW2]; exact ((((((((hB1.setCell (p := ⟨g + 1, 12, none⟩) hgw _).setCell (p := ⟨g + 1, 13, none⟩) hgw _).setCell (p := ⟨g + 1, 14, none⟩) hgw _).setCell (p := ⟨g + 1, 15, none⟩) hgw _).setCell (p := ⟨g + 1, 8, none⟩) hgw _).setCell (p := ⟨g + 1, 9, none⟩) hgw _).setCell (p := ⟨g + 1, 10, none⟩) hgw _).setCell (p := ⟨g + 1, 11, none⟩) hgw _)
  rw [hW2]
  clear hW2 hB1
  go_wp2_with (first | (refine wpList_load_row rfl 25 (.tmp 1) rfl (g + 1) rfl 25 exC _ _ K2.out Tryd.underlying25 rfl exC_tab.info ?_) | (refine wpList_store_row rfl 25 _ _ rfl g exC rfl rfl 25 tabZ J2.out exC_tab.info (by kernel_rfl) (by kernel_rfl) ?_))
  exact bodyPost_ret (v := .agg exC) (results_cell_row Tryd.results18 _ _ g _ exC _ _ rfl (setRow_heap W2 g tabZ exC _ _ J2.out) Tryd.underlying25 rfl exC_tab.info) rfl ⟨rfl, below_setRow hB2 hgw0 exC⟩

theorem ours_any (p : Int) (hp : -9223372036854775807 ≤ p ∧ p ≤ 9223372036854775807) (s : Nat) (hs : s ≤ 1) (w : World) : Calls Tryd.prog 15 #[.int .i64 p, .int .u8 (s : Int)] w fun e w' => e = .returned (.int .i64 (wo s p)) ∧ w = w' := by
  rcases (show s = 0 ∨ s = 1 by omega) with rfl | rfl
  · go_enter Tryd.func15, Tryd.ntmps15
    go_wp2
    go_ret
    exact ⟨rfl, rfl⟩
  · go_enter Tryd.func15, Tryd.ntmps15
    go_wp2
    go_ret
    exact ⟨rfl, rfl⟩

theorem ex_par0 (W : World) (hL : LaidS W) : Calls Tryd.prog 12 #[.agg exC, .int .u8 0, .int .u8 0] W fun e w' => e = .returned (.tuple #[.agg #[.int .u8 5, .int .u8 2, .int .u8 1, .int .u8 1, .int .i64 9, .int .i64 0], .int .i64 300, .int .i64 0]) ∧ Below W.heap.size W w' := by
  have e0 : bidsL (finG exT ((0 : Nat) : Int)) (0 % 2) = [21, 25] := ex_b0
  have e1 : sideAt (begS (finG exT ((0 : Nat) : Int)) (0 % 2)) 1 = 1 := by kernel_rfl
  have h := ppar_some exC exT exC_tab 0 0 (by decide) (by decide) exT_right 1 (by rw [e0]; rfl) 25 1 (by rw [e0]; rfl) e1 W hL
  unfold ocV at h
  rw [show lvl 25 = 5 by kernel_rfl, show rsk exT 25 1 = 1 by kernel_rfl, show bstN exT (dnm 25) 1 = 9 by kernel_rfl, show bstS exT (dnm 25) 1 = 1 by kernel_rfl, show dnm 25 = 2 by kernel_rfl, show finF exT ((0 : Nat) : Int) 25 1 = 300 by kernel_rfl] at h
  exact h
theorem ex_par2 (W : World) (hL : LaidS W) : Calls Tryd.prog 12 #[.agg exC, .int .u8 2, .int .u8 0] W fun e w' => e = .returned (.tuple #[.agg #[.int .u8 4, .int .u8 3, .int .u8 0, .int .u8 0, .int .i64 10, .int .i64 0], .int .i64 420, .int .i64 0]) ∧ Below W.heap.size W w' := by
  have e0 : bidsL (finG exT ((2 : Nat) : Int)) (0 % 2) = [21] := ex_b2
  have e1 : sideAt (begS (finG exT ((2 : Nat) : Int)) (0 % 2)) 0 = 0 := by kernel_rfl
  have h := ppar_some exC exT exC_tab 2 0 (by decide) (by decide) exT_right 0 (by rw [e0]; rfl) 21 0 (by rw [e0]; rfl) e1 W hL
  unfold ocV at h
  rw [show lvl 21 = 4 by kernel_rfl, show rsk exT 21 0 = 0 by kernel_rfl, show bstN exT (dnm 21) 0 = 10 by kernel_rfl, show bstS exT (dnm 21) 0 = 0 by kernel_rfl, show dnm 21 = 3 by kernel_rfl, show finF exT ((2 : Nat) : Int) 21 0 = 420 by kernel_rfl] at h
  exact h
def ExB (W : World) (e : Ending) (w' : World) : Prop := ∃ A c, e = .returned (.tuple #[.slice A 2 c, .int .i64 0]) ∧ Rd w' w'.heap.size 1 A 2 [.int .u8 21, .int .u8 25] ∧ Below W.heap.size W w'
theorem ex_bids (W : World) (hL : LaidS W) : Calls Tryd.prog 13 #[.agg exC, .int .u8 0, .int .u8 0] W (ExB W) := by
  have e0 : bidsL (finG exT ((0 : Nat) : Int)) (0 % 2) = [21, 25] := ex_b0
  refine (pbids_ok exC exT exC_tab 0 0 (by decide) (by decide) exT_right W hL).mono fun e w' h => ?_
  obtain ⟨sv, he, hown, hb⟩ := h
  rw [e0] at hown
  obtain ⟨A, c, rfl⟩ := own_form hown
  exact ⟨A, c, he, Rd.of_own hown, hb⟩
theorem ex_best (W : World) : Calls Tryd.prog 20 #[.agg exC, .int .u8 2, .int .u8 1] W fun e w' => e = .returned (.tuple #[.int .i64 9, .int .u8 1, .int .i64 0]) ∧ Below W.heap.size W w' := by
  have h := pbest_ok exC exT exC_tab 2 1 (by decide) (by decide) exT_right W
  rw [show bstN exT 2 1 = 9 by kernel_rfl, show bstS exT 2 1 = 1 by kernel_rfl] at h
  exact h

set_option maxRecDepth 100000 in
set_option maxHeartbeats 2000000 in
theorem awake18 (w : World) (hL : LaidS w) : Calls Tryd.prog 14 #[] w fun e w' => e = .returned (.bool true) ∧ Below w.heap.size w w' := by
  have HL := Lib.hid hL
  have HE := Lib.hid example_any
  have H0 := Lib.hid ex_par0
  have H2 := Lib.hid ex_par2
  have HB := Lib.hid ex_bids
  have HT := Lib.hid ex_best
  clear hL
  go_enter Tryd.func14, Tryd.ntmps14
  go_wp2_with fail
  refine (HE.out _).mono ?_
  rintro ee w1 ⟨rfl, hb1⟩
  go_wp2_with fail
  refine (H0.out _ (HL.out.go hb1)).mono ?_
  rintro ee w2 ⟨rfl, hb2⟩
  have hB2 := below_via hb1 hb2
  go_upto_region 2 with fail
  obtain ⟨W2, hW2⟩ : ∃ W2, w2.alloc (.cells #[.int .u8 5, .int .u8 2, .int .u8 1, .int .u8 1, .int .i64 9, .int .i64 0] 30) = W2 := ⟨_, rfl⟩
  obtain ⟨g1, hg1⟩ : ∃ g, w2.heap.size = g := ⟨_, rfl⟩
  have K1 := Lib.hid (show W2.heap[g1]? = some (.cells #[.int .u8 5, .int .u8 2, .int .u8 1, .int .u8 1, .int .i64 9, .int .i64 0] 30) by rw [← hW2]; exact blk_new _ hg1.symm)
  have hB3 : Below w.heap.size w W2 := by rw [← hW2]; exact hB2.alloc hB2.size _
  rw [hW2, hg1]
  clear hW2 hg1 hB2 hb1 hb2
  go_wp2_with fail
  refine (HE.out _).mono ?_
  rintro ee w3 ⟨rfl, hb3⟩
  have hB4 := below_via hB3 hb3
  go_wp2_with fail
  refine (H2.out _ (HL.out.go hB4)).mono ?_
  rintro ee w4 ⟨rfl, hb4⟩
  have hB5 := below_via hB4 hb4
  have hb24 := hb3.trans (hb4.mono hb3.size)
  go_upto_region 3 with fail
  obtain ⟨W4, hW4⟩ : ∃ W4, w4.alloc (.cells #[.int .u8 4, .int .u8 3, .int .u8 0, .int .u8 0, .int .i64 10, .int .i64 0] 30) = W4 := ⟨_, rfl⟩
  obtain ⟨g2, hg2⟩ : ∃ g, w4.heap.size = g := ⟨_, rfl⟩
  have K2 := Lib.hid (show W4.heap[g2]? = some (.cells #[.int .u8 4, .int .u8 3, .int .u8 0, .int .u8 0, .int .i64 10, .int .i64 0] 30) by rw [← hW4]; exact blk_new _ hg2.symm)
  have K1 := Lib.hid (show W4.heap[g1]? = some (.cells #[.int .u8 5, .int .u8 2, .int .u8 1, .int .u8 1, .int .i64 9, .int .i64 0] 30) by rw [← hW4]; exact blk_alloc (blk_below K1.out hb24 (blk_lt K1.out)) _)
  have hB6 : Below w.heap.size w W4 := by rw [← hW4]; exact hB5.alloc hB5.size _
  rw [hW4, hg2]
  clear hW4 hg2 hB3 hB4 hB5 hb3 hb4 hb24
  go_wp2_with fail
  refine (HE.out _).mono ?_
  rintro ee w5 ⟨rfl, hb5⟩
  have hB7 := below_via hB6 hb5
  go_wp2_with fail
  refine (HB.out _ (HL.out.go hB7)).mono ?_
  rintro ee w6 ⟨A, c, rfl, hrd, hb6⟩
  have hb46 := hb5.trans (hb6.mono hb5.size)
  have hB8 := below_via hB6 hb46
  have K1 := Lib.hid (blk_below K1.out hb46 (blk_lt K1.out))
  have K2 := Lib.hid (blk_below K2.out hb46 (blk_lt K2.out))
  have HR := Lib.hid hrd
  clear hb5 hb6 hb46 hB6 hB7 hrd
  go_wp2_with fail
  refine (HE.out _).mono ?_
  rintro ee w7 ⟨rfl, hb7⟩
  go_wp2_with fail
  refine (HT.out _).mono ?_
  rintro ee w8 ⟨rfl, hb8⟩
  have hb68 := hb7.trans (hb8.mono hb7.size)
  have hB9 := below_via hB8 hb68
  have K1 := Lib.hid (blk_below K1.out hb68 (blk_lt K1.out))
  have K2 := Lib.hid (blk_below K2.out hb68 (blk_lt K2.out))
  have HR := Lib.hid ((HR.out.below hb68).more hb68.size)
  clear hb7 hb8 hb68 hB8
  go_upto_region 7 with fail
  obtain ⟨b, off, rfl, hbw, hc⟩ := HR.out.pos (by decide)
  obtain ⟨W9, hW9⟩ : ∃ W9, (w8.alloc (.cells #[.int .u8 5, .int .u8 2, .int .u8 1, .int .u8 1] 28)).alloc (.cells #[.int .u8 4, .int .u8 3, .int .u8 0, .int .u8 0] 28) = W9 := ⟨_, rfl⟩
  obtain ⟨g3, hg3⟩ : ∃ g, w8.heap.size = g := ⟨_, rfl⟩
  have k3 : W9.heap[g3]? = some (.cells #[.int .u8 5, .int .u8 2, .int .u8 1, .int .u8 1] 28) := by rw [← hW9]; exact blk_alloc (blk_new _ hg3.symm) _
  have k4 : W9.heap[g3 + 1]? = some (.cells #[.int .u8 4, .int .u8 3, .int .u8 0, .int .u8 0] 28) := by rw [← hW9]; exact blk_new _ (by simp [hg3])
  have k1 : W9.heap[g1]? = some (.cells #[.int .u8 5, .int .u8 2, .int .u8 1, .int .u8 1, .int .i64 9, .int .i64 0] 30) := by rw [← hW9]; exact blk_alloc (blk_alloc K1.out _) _
  have k2 : W9.heap[g2]? = some (.cells #[.int .u8 4, .int .u8 3, .int .u8 0, .int .u8 0, .int .i64 10, .int .i64 0] 30) := by rw [← hW9]; exact blk_alloc (blk_alloc K2.out _) _
  have hb9 : Below w8.heap.size w8 W9 := by rw [← hW9]; exact ((Below.refl _ _).alloc (Nat.le_refl _) _).alloc (by simp) _
  have e0 : W9.cell? ⟨b, off, none⟩ = some (.int .u8 21) := by have := hc 0 (by decide); exact (bcell hb9 b off hbw).trans (by simpa using this)
  have e1 : W9.cell? ⟨b, off + 1, none⟩ = some (.int .u8 25) := by have := hc 1 (by decide); exact (bcell hb9 b (off + 1) hbw).trans (by simpa using this)
  have hBz := Lib.hid (below_via hB9 hb9)
  rw [hW9, hg3]
  have a0 := blk_cell k1 0
  have a1 := blk_cell k1 1
  have a2 := blk_cell k1 2
  have a3 := blk_cell k1 3
  have a4 := blk_cell k1 4
  have a5 := blk_cell k1 5
  have b0 := blk_cell k2 0
  have b1 := blk_cell k2 1
  have b2 := blk_cell k2 2
  have b3 := blk_cell k2 3
  have b4 := blk_cell k2 4
  have b5 := blk_cell k2 5
  have c0 := blk_cell k3 0
  have c1 := blk_cell k3 1
  have c2 := blk_cell k3 2
  have c3 := blk_cell k3 3
  have d0 := blk_cell k4 0
  have d1 := blk_cell k4 1
  have d2 := blk_cell k4 2
  have d3 := blk_cell k4 3
  clear hW9 hg3 k1 k2 k3 k4 hc hb9 hB9
  go_wp2
  go_ret
  exact ⟨rfl, hBz.out⟩

end Go.Proofs.YtilekdjjfdehcaaDoor
