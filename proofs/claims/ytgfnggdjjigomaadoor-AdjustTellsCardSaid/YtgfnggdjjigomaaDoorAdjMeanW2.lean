/- The walks of adjust.Mean. -/
import Derived.Test.YtgfnggdjjigomaaDoorAdjMeanW
import Derived.RegionTactic
import Derived.ChangeAlike
namespace Go.Proofs.YtgfnggdjjigomaaDoor
open Go.RowKit

/-- Sides fails at an entry. -/
def SidesErr (C : Array Value) (vul E : Int) : Prop := ∀ W : World, LaidS W → Calls Tryd.prog 10 #[.agg C, .int .u8 vul] W fun e w' => e = .returned (.tuple #[.slice none 0 0, .slice none 0 0, .int .i64 E]) ∧ Below W.heap.size W w'

set_option maxRecDepth 100000 in
set_option maxHeartbeats 4000000 in
theorem mean_err (C : Array Value) (vul E : Int) (hS : C.size = 33) (hE : E = 2 ∨ E = 6) (h : SidesErr C vul E) (w : World) (hL : LaidS w) :
    Calls Tryd.prog 12 #[.agg C, .int .u8 vul] w fun e w' => e = .returned (.tuple #[.agg #[.int .i64 0, .int .i64 0], .agg #[.int .i64 0, .int .i64 0], .int .i64 E]) ∧ Below w.heap.size w w' := by
  have HI := Lib.hid (show (Tryd.prog.info? 29).map (·.size) = some C.size by rw [info_entry, hS])
  have HQ := Lib.hid h
  have HL := Lib.hid hL
  clear h hL hS
  go_enter Tryd.func12, Tryd.ntmps12
  go_upto_region 1 with fail
  obtain ⟨W1, hW1⟩ : ∃ W1, ((w.alloc (.cells C 29)).alloc (.cells #[.int .i64 0, .int .i64 0] 40)).alloc (.cells #[.int .i64 0, .int .i64 0] 40) = W1 := ⟨_, rfl⟩
  obtain ⟨g, hg⟩ : ∃ g, w.heap.size = g := ⟨_, rfl⟩
  have k1 : W1.heap[g]? = some (.cells C 29) := by rw [← hW1]; exact blk_alloc (blk_alloc (blk_new _ hg.symm) _) _
  have k2 : W1.heap[g + 1]? = some (.cells #[.int .i64 0, .int .i64 0] 40) := by rw [← hW1]; exact blk_alloc (blk_new _ (by simp; omega)) _
  have k3 : W1.heap[g + 2]? = some (.cells #[.int .i64 0, .int .i64 0] 40) := by rw [← hW1]; exact blk_new _ (by simp; omega)
  have hB1 : Below w.heap.size w W1 := by rw [← hW1]; exact (by repeat (first | exact Below.refl _ _ | assumption | refine Below.drew ?_ | refine below_drewN ?_ _ | refine Below.alloc ?_ (by first | omega | (simp; done) | (simp; omega)) _ | refine Below.setCell ?_ (by first | omega | (simp; done) | (simp; omega)) _))
  rw [hW1, hg]
  have HG := Lib.hid hg
  have HK := Lib.hid k1
  have HK2 := Lib.hid k2
  have HK3 := Lib.hid k3
  clear hW1 k1 k2 k3 hg
  go_wp2_with (refine wpList_load_row_w (by rfl) 29 (.tmp 2) rfl g rfl 29 C _ _ HK.out Tryd.underlying29 rfl HI.out ?_)
  refine (HQ.out _ (HL.out.go hB1)).mono ?_
  rintro ee w2 ⟨rfl, hb2⟩
  have g3 := blk_lt HK3.out
  have k2 := blk_below HK2.out hb2 (by omega)
  have k3 := blk_below HK3.out hb2 (by omega)
  have q0 := blk_cell k2 0
  have q1 := blk_cell k2 1
  have q2 := blk_cell k3 0
  have q3 := blk_cell k3 1
  have f0 := blk_free k2 0
  have f1 := blk_free k2 1
  have f2 := blk_free k3 0
  have f3 := blk_free k3 1
  have hB2 := below_via hB1 hb2
  have p2 := blk_set (blk_set k2 0 (.int .i64 0)) 1 (.int .i64 0)
  have p2' := blk_far (blk_far p2 (p := ⟨g + 2, 0, none⟩) (by simp) (.int .i64 0)) (p := ⟨g + 2, 1, none⟩) (by simp) (.int .i64 0)
  have p3 := blk_set (blk_set (blk_far (blk_far k3 (p := ⟨g + 1, 0, none⟩) (by simp) (.int .i64 0)) (p := ⟨g + 1, 1, none⟩) (by simp) (.int .i64 0)) 0 (.int .i64 0)) 1 (.int .i64 0)
  have hgw : w.heap.size ≤ g := Nat.le_of_eq HG.out
  have hz := (((hB2.setCell (p := ⟨g + 1, 0, none⟩) (Nat.le_succ_of_le hgw) (.int .i64 0)).setCell (p := ⟨g + 1, 1, none⟩) (Nat.le_succ_of_le hgw) (.int .i64 0)).setCell (p := ⟨g + 2, 0, none⟩) (Nat.le_succ_of_le (Nat.le_succ_of_le hgw)) (.int .i64 0)).setCell (p := ⟨g + 2, 1, none⟩) (Nat.le_succ_of_le (Nat.le_succ_of_le hgw)) (.int .i64 0)
  have D := Lib.hid (And.intro (blk_cell p2' 0) (And.intro (blk_cell p2' 1) (And.intro (blk_cell p3 0) (And.intro (blk_cell p3 1) hz))))
  have tE : (E != 0) = true := by rcases hE with rfl | rfl <;> rfl
  have tE2 : (E == 0) = false := by rcases hE with rfl | rfl <;> rfl
  clear p2 p2' p3 hz hE k2 k3
  go_wp2
  exact bodyPost_ret (v := .tuple #[.agg #[.int .i64 0, .int .i64 0], .agg #[.int .i64 0, .int .i64 0], .int .i64 E]) (by simp [results, Tryd.results12, go_sem, D.out.1, D.out.2.1, D.out.2.2.1, D.out.2.2.2.1]) rfl ⟨rfl, D.out.2.2.2.2⟩

set_option maxRecDepth 100000 in
set_option maxHeartbeats 4000000 in
theorem mean_some (C : Array Value) (k f a0 a1 vul : Int) (o : Nat → Oc) (hC : EnC C k f o a0 a1) (ho : ∀ i, i < 4 → OcOk (o i)) (hf : 0 ≤ f ∧ f ≤ 255) (hk : 0 ≤ k ∧ k ≤ 255) (hv : 0 ≤ vul ∧ vul ≤ 3) (h : rightE k f o a0 a1 = true) (hkk : k = 1 ∨ k = 2 ∨ k = 3) (w : World) (hL : LaidS w) :
    Calls Tryd.prog 12 #[.agg C, .int .u8 vul] w fun e w' => e = .returned (.tuple #[fV (meanF (wPts (sideA k o) vul)), fV (meanF (negP (wPts (sideB k o) vul))), .int .i64 0]) ∧ Below w.heap.size w w' := by
  have HQ := Lib.hid (fun W hW => sides_some C k f a0 a1 vul o hC ho hf hk hv h hkk W hW)
  have hok := sides_okB k f o a0 a1 h ho hkk vul hv.2
  have r1 := ((wOk_iff _ _).1 hok.1).2.2.2
  have r2 := negP_right _ ((wOk_iff _ _).1 hok.2).2.2.2
  have l1 := wPts_len (sideA k o) vul
  have l2 : (negP (wPts (sideB k o) vul)).length = (sideB k o).length := by unfold negP; rw [List.length_map, wPts_len]
  have HI := Lib.hid hC.size
  have HL := Lib.hid hL
  unfold SRes at HQ
  obtain ⟨P, hP⟩ : ∃ P, wPts (sideA k o) vul = P := ⟨_, rfl⟩
  obtain ⟨R, hR⟩ : ∃ R, negP (wPts (sideB k o) vul) = R := ⟨_, rfl⟩
  rw [hP] at HQ r1 l1 ⊢
  rw [hR] at HQ r2 l2 ⊢
  rw [← l1, ← l2] at HQ
  have HM1 := Lib.hid (fun A c W hl => mean_any P A c W hl r1)
  have HM2 := Lib.hid (fun A c W hl => mean_any R A c W hl r2)
  generalize meanF P = mp at HM1 ⊢
  generalize meanF R = mr at HM2 ⊢
  obtain ⟨m1, m2⟩ := mp
  obtain ⟨m3, m4⟩ := mr
  unfold fV
  dsimp only at HM1 HM2 ⊢
  clear hC ho hL h hok r1 r2 l1 l2 hP hR hf hk hkk
  go_enter Tryd.func12, Tryd.ntmps12
  go_upto_region 1 with fail
  obtain ⟨W1, hW1⟩ : ∃ W1, ((w.alloc (.cells C 29)).alloc (.cells #[.int .i64 0, .int .i64 0] 40)).alloc (.cells #[.int .i64 0, .int .i64 0] 40) = W1 := ⟨_, rfl⟩
  obtain ⟨g, hg⟩ : ∃ g, w.heap.size = g := ⟨_, rfl⟩
  have k1 : W1.heap[g]? = some (.cells C 29) := by rw [← hW1]; exact blk_alloc (blk_alloc (blk_new _ hg.symm) _) _
  have k2 : W1.heap[g + 1]? = some (.cells #[.int .i64 0, .int .i64 0] 40) := by rw [← hW1]; exact blk_alloc (blk_new _ (by simp; omega)) _
  have k3 : W1.heap[g + 2]? = some (.cells #[.int .i64 0, .int .i64 0] 40) := by rw [← hW1]; exact blk_new _ (by simp; omega)
  have hB1 : Below w.heap.size w W1 := by rw [← hW1]; exact (by repeat (first | exact Below.refl _ _ | assumption | refine Below.drew ?_ | refine below_drewN ?_ _ | refine Below.alloc ?_ (by first | omega | (simp; done) | (simp; omega)) _ | refine Below.setCell ?_ (by first | omega | (simp; done) | (simp; omega)) _))
  rw [hW1, hg]
  have HG := Lib.hid hg
  have HK := Lib.hid k1
  have HK2 := Lib.hid k2
  have HK3 := Lib.hid k3
  have g3 := blk_lt k3
  clear hW1 k1 k2 k3 hg
  go_wp2_with (refine wpList_load_row_w (by rfl) 29 (.tmp 2) rfl g rfl 29 C _ _ HK.out Tryd.underlying29 rfl HI.out ?_)
  refine (HQ.out _ (HL.out.go hB1)).mono ?_
  rintro ee w2 ⟨v1, v2, rfl, o1, o2, -, hb2⟩
  obtain ⟨A1, c1, rfl⟩ := own_form o1
  obtain ⟨A2, c2, rfl⟩ := own_form o2
  have HR1 := Lib.hid (Rd.of_own o1)
  have HR2 := Lib.hid (Rd.of_own o2)
  have hB2 := below_via hB1 hb2
  have s2 := hb2.size
  clear o1 o2 HQ HK
  go_wp2_with fail
  refine (HM1.out _ _ _ HR1.out).mono ?_
  rintro ee w3 ⟨rfl, hb3⟩
  have hB3 := below_via hB2 hb3
  have hb13 := hb2.trans (hb3.mono s2)
  have HR3 := Lib.hid (HR2.out.go hb3)
  clear HR1 HR2 hb3 hB2
  go_upto_region 5 with fail
  obtain ⟨W4, hW4⟩ : ∃ W4, w3.alloc (.cells #[.int .i64 m1, .int .i64 m2] 40) = W4 := ⟨_, rfl⟩
  obtain ⟨G, hG⟩ : ∃ G, w3.heap.size = G := ⟨_, rfl⟩
  have n4 : W4.heap[G]? = some (.cells #[.int .i64 m1, .int .i64 m2] 40) := by rw [← hW4]; exact blk_new _ hG.symm
  have hB4 : Below w.heap.size w W4 := by rw [← hW4]; exact hB3.alloc hB3.size _
  have hb14 : Below W1.heap.size W1 W4 := by rw [← hW4]; exact hb13.alloc hb13.size _
  have HR4 := Lib.hid (show Rd W4 W4.heap.size 2 A2 R.length (pC R) by rw [← hW4]; exact HR3.out.go (by repeat (first | exact Below.refl _ _ | assumption | refine Below.drew ?_ | refine below_drewN ?_ _ | refine Below.alloc ?_ (by first | omega | (simp; done) | (simp; omega)) _ | refine Below.setCell ?_ (by first | omega | (simp; done) | (simp; omega)) _)))
  have lG : g + 2 < G := by rw [← hG]; have := hb13.size; omega
  rw [hW4, hG]
  have HN4 := Lib.hid n4
  clear hW4 hG n4 HR3 hB3 hb13
  go_wp2_with fail
  refine (HM2.out _ _ _ HR4.out).mono ?_
  rintro ee w5 ⟨rfl, hb5⟩
  have hB5 := below_via hB4 hb5
  have hb15 := hb14.trans (hb5.mono hb14.size)
  have HN5 := Lib.hid (blk_below HN4.out hb5 (blk_lt HN4.out))
  clear HR4 hb5 hB4 hb14 HN4
  go_upto_region 8 with fail
  obtain ⟨W6, hW6⟩ : ∃ W6, w5.alloc (.cells #[.int .i64 m3, .int .i64 m4] 40) = W6 := ⟨_, rfl⟩
  obtain ⟨H, hH⟩ : ∃ H, w5.heap.size = H := ⟨_, rfl⟩
  have n6 : W6.heap[H]? = some (.cells #[.int .i64 m3, .int .i64 m4] 40) := by rw [← hW6]; exact blk_new _ hH.symm
  have n5 : W6.heap[G]? = some (.cells #[.int .i64 m1, .int .i64 m2] 40) := by rw [← hW6]; exact blk_alloc HN5.out _
  have hB6 : Below w.heap.size w W6 := by rw [← hW6]; exact hB5.alloc hB5.size _
  have hb16 : Below W1.heap.size W1 W6 := by rw [← hW6]; exact hb15.alloc hb15.size _
  have lH : G < H := by rw [← hH]; exact blk_lt HN5.out
  rw [hW6, hH]
  have k2 := blk_below HK2.out hb16 (by omega)
  have k3 := blk_below HK3.out hb16 g3
  clear hW6 hH HN5 hB5 hb15
  have k3 : W6.heap[g + 1 + 1]? = some (.cells #[.int .i64 0, .int .i64 0] 40) := k3
  have p2 := blk_far (blk_far (blk_set (blk_set k2 0 (.int .i64 m1)) 1 (.int .i64 m2)) (p := ⟨g + 1 + 1, 0, none⟩) (by simp) (.int .i64 m3)) (p := ⟨g + 1 + 1, 1, none⟩) (by simp) (.int .i64 m4)
  have p3 := blk_set (blk_set (blk_far (blk_far k3 (p := ⟨g + 1, 0, none⟩) (by simp) (.int .i64 m1)) (p := ⟨g + 1, 1, none⟩) (by simp) (.int .i64 m2)) 0 (.int .i64 m3)) 1 (.int .i64 m4)
  have hgw : w.heap.size ≤ g := Nat.le_of_eq HG.out
  have hz := (((hB6.setCell (p := ⟨g + 1, 0, none⟩) (Nat.le_succ_of_le hgw) (.int .i64 m1)).setCell (p := ⟨g + 1, 1, none⟩) (Nat.le_succ_of_le hgw) (.int .i64 m2)).setCell (p := ⟨g + 1 + 1, 0, none⟩) (Nat.le_succ_of_le (Nat.le_succ_of_le hgw)) (.int .i64 m3)).setCell (p := ⟨g + 1 + 1, 1, none⟩) (Nat.le_succ_of_le (Nat.le_succ_of_le hgw)) (.int .i64 m4)
  have D := Lib.hid (And.intro (blk_cell p2 0) (And.intro (blk_cell p2 1) (And.intro (blk_cell p3 0) (And.intro (blk_cell p3 1) hz))))
  have q0 := blk_cell n5 0
  have q1 := blk_cell n5 1
  have q2 := blk_cell n6 0
  have q3 := blk_cell n6 1
  have u0 := blk_cell k2 0
  have u1 := blk_cell k2 1
  have u2 := blk_cell k3 0
  have u3 := blk_cell k3 1
  have f0 := blk_free k2 0
  have f1 := blk_free k2 1
  have f2 := blk_free k3 0
  have f3 := blk_free k3 1
  have n1' : ¬ G = g + 1 := by omega
  have n2' : ¬ H = g + 1 := by omega
  have n3' : ¬ G = g + 1 + 1 := by omega
  have n4' : ¬ H = g + 1 + 1 := by omega
  have m1' : ¬ g + 1 = G := by omega
  have m2' : ¬ g + 1 = H := by omega
  have m3' : ¬ g + 1 + 1 = G := by omega
  have m4' : ¬ g + 1 + 1 = H := by omega
  clear p2 p3 hz n5 n6 k2 k3
  go_upto_region 10 with fail
  go_region
  all_goals go_wp2

  all_goals exact bodyPost_ret (v := .tuple #[.agg #[.int .i64 m1, .int .i64 m2], .agg #[.int .i64 m3, .int .i64 m4], .int .i64 0]) (by simp [results, Tryd.results12, go_sem, D.out.1, D.out.2.1, D.out.2.2.1, D.out.2.2.2.1]) rfl ⟨rfl, D.out.2.2.2.2.drew⟩

end Go.Proofs.YtgfnggdjjigomaaDoor
