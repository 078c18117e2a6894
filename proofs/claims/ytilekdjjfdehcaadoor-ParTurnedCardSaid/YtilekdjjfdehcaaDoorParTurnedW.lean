/- The walk of the statement ParTurned. -/
import Derived.Test.YtilekdjjfdehcaaDoorParPts
import Derived.Deep.DeepCutAuto
namespace Go.Proofs.YtilekdjjfdehcaaDoor
open Go.RowKit

/-- All hands passed on by one seat. -/
def turT (t : Nat → Nat → Int) (d s : Nat) : Int := t d ((s + 3) % 4)
def turV (v : Nat) : Nat := if v = 1 ∨ v = 2 then 3 - v else v
/-- The table as far as it is passed on. -/
def turP (t : Nat → Nat → Int) (n d s : Nat) : Int := if d < n then turT t d s else 0
theorem turT_right (t : Nat → Nat → Int) (h : rightT t = true) : rightT (turT t) = true :=
  (rightT_iff _).2 fun d s h1 _ => (rightT_iff _).1 h d ((s + 3) % 4) h1 (Nat.mod_lt _ (by decide))
theorem turT_bst (t : Nat → Nat → Int) (d s : Nat) (hs : s ≤ 1) : bstN (turT t) d s = bstN t d (1 - s) := by
  by_cases h : s = 0
  · subst h
    show (if t d 3 < t d 1 then t d 1 else t d 3) = (if t d 1 < t d 3 then t d 3 else t d 1)
    split <;> split <;> omega
  · obtain rfl : s = 1 := by omega
    rfl
theorem turV_vul (v s : Nat) (hv : v ≤ 3) (hs : s ≤ 1) : vulB (turV v) s = vulB v (1 - s : Nat) := by
  have a : v = 0 ∨ v = 1 ∨ v = 2 ∨ v = 3 := by omega
  have b : s = 0 ∨ s = 1 := by omega
  rcases a with rfl | rfl | rfl | rfl <;> rcases b with rfl | rfl <;> rfl
theorem turn_law (t : Nat → Nat → Int) (v s : Nat) (hv : v ≤ 3) (hs : s ≤ 1) :
    parV (finG (turT t) (turV v)) (1 - s) = - parV (finG t v) s ∧ bidsL (finG (turT t) (turV v)) (1 - s) = bidsL (finG t v) s := by
  refine par_turn (finG t v) (finG (turT t) (turV v)) (fun b s h3 h37 hs => ?_) s hs
  rw [finG_B _ _ b s h3 h37 hs, finG_B t v b (1 - s) h3 h37 (by omega), turT_bst t _ s hs, wo_flip s hs]
  unfold ptB
  rw [turV_vul v s hv hs]
  omega
theorem TabC.turn {C : Array Value} {t : Nat → Nat → Int} {n : Nat} (hn : n < 5) (h : TabC C (turP t n)) :
    TabC ((((C.setIfInBounds (n * 4) (.int .i64 (t n 3))).setIfInBounds (n * 4 + 1) (.int .i64 (t n 0))).setIfInBounds (n * 4 + 2) (.int .i64 (t n 1))).setIfInBounds (n * 4 + 3) (.int .i64 (t n 2))) (turP t (n + 1)) := by
  refine ⟨by simp only [Array.size_setIfInBounds]; exact h.1, fun d s hd hs => ?_⟩
  have hz := h.1
  have hh := h.2 d s hd hs
  have a : s = 0 ∨ s = 1 ∨ s = 2 ∨ s = 3 := by omega
  simp only [Array.getElem?_setIfInBounds, Array.size_setIfInBounds, hz]
  by_cases hdn : d = n
  · subst hdn
    rcases a with rfl | rfl | rfl | rfl <;> simp [turP, turT] <;> omega
  · rw [if_neg (by omega), if_neg (by omega), if_neg (by omega), if_neg (by omega), hh]
    unfold turP
    by_cases h2 : d < n
    · rw [if_pos h2, if_pos (by omega)]
    · rw [if_neg h2, if_neg (by omega)]

set_option maxRecDepth 100000 in
set_option maxHeartbeats 4000000 in
theorem parTurned_walk (A : Array Value) (l : Nat → Int) (hA : BytC A l) (vul : Int) (hv : 0 ≤ vul ∧ vul ≤ 255) (dl : Int) (hd : 0 ≤ dl ∧ dl ≤ 255) (w : World) (hL : LaidS w) :
    Calls Tryd.prog 3 #[.agg A, .int .u8 vul, .int .u8 dl] w fun e w' => e = .returned (.bool true) ∧ Below w.heap.size w w' := by
  have HM := Lib.hid (fun W => made18 A l hA W)
  have HR := Lib.hid (mdT_right l (fun i hi => (hA.2 i hi).2))
  have HL := Lib.hid hL
  have HIA := Lib.hid (show (Tryd.prog.info? 22).map (·.size) = some A.size by rw [hA.1]; kernel_rfl)
  obtain ⟨v, hvv⟩ : ∃ v : Nat, vul % 4 = v := ⟨(vul % 4).toNat, by omega⟩
  obtain ⟨d, hdd⟩ : ∃ d : Nat, dl % 4 = d := ⟨(dl % 4).toNat, by omega⟩
  have hv3 : v ≤ 3 := by omega
  have hd3 : d ≤ 3 := by omega
  generalize mdT l = t at HM HR
  clear hA hL
  go_enter Tryd.func3, Tryd.ntmps3
  go_upto_region 1 with fail
  obtain ⟨W1, hW1⟩ : ∃ W1, w.alloc (.cells A 22) = W1 := ⟨_, rfl⟩
  obtain ⟨g, hg⟩ : ∃ g, w.heap.size = g := ⟨_, rfl⟩
  have HK := Lib.hid (show W1.heap[g]? = some (.cells A 22) by rw [← hW1]; exact blk_new _ hg.symm)
  have hB1 : Below w.heap.size w W1 := by rw [← hW1]; exact (by repeat (first | exact Below.refl _ _ | assumption | refine Below.drew ?_ | refine below_drewN ?_ _ | refine Below.alloc ?_ (by first | omega | (simp; done) | (simp; omega)) _ | refine Below.setCell ?_ (by first | omega | (simp; done) | (simp; omega)) _))
  rw [hW1, hg]
  clear hW1 hg
  go_wp2_with (refine wpList_load_row rfl 22 (.tmp 3) rfl g rfl 22 A _ _ HK.out Tryd.underlying22 rfl HIA.out ?_)
  refine (HM.out _).mono ?_
  rintro ee w2 ⟨C, rfl, hC, hb2⟩
  have hB2 := below_via hB1 hb2
  have HC := Lib.hid hC
  clear hB1 hb2 HK hC
  go_upto_region 2 with (first | (refine plain_alloc_to rfl 25 rfl tabZ tabZ_zero ?_) | (refine wpList_store_new rfl 25 _ _ rfl C _ _ rfl rfl HC.out.info (tabZ_tab.1.trans HC.out.1.symm) HC.out.one ?_))
  obtain ⟨W3, hW3⟩ : ∃ W3, w2.alloc (.cells C 25) = W3 := ⟨_, rfl⟩
  obtain ⟨g, hg⟩ : ∃ g, w2.heap.size = g := ⟨_, rfl⟩
  have HK := Lib.hid (show W3.heap[g]? = some (.cells C 25 (0, 0)) by rw [← hW3]; exact blk_new _ hg.symm)
  have hgs : W3.heap.size = g + 1 := by rw [← hW3, ← hg]; simp
  have hB3 : Below w.heap.size w W3 := by rw [← hW3]; exact hB2.alloc hB2.size _
  rw [hW3, hg]
  clear hW3 hg hB2
  go_upto_region 3 with (refine plain_alloc_to rfl 25 rfl tabZ tabZ_zero ?_)
  obtain ⟨W4, hW4⟩ : ∃ W4, W3.alloc (.cells tabZ 25) = W4 := ⟨_, rfl⟩
  have HK2 := Lib.hid (show W4.heap[g + 1]? = some (.cells tabZ 25 (0, 0)) by rw [← hW4]; exact blk_new _ hgs.symm)
  replace HK := Lib.hid (show W4.heap[g]? = some (.cells C 25 (0, 0)) by rw [← hW4]; exact blk_alloc HK.out _)
  have hB4 : Below w.heap.size w W4 := by rw [← hW4]; exact hB3.alloc hB3.size _
  rw [hW4, hgs]
  have hgg : w.heap.size ≤ g + 1 := by have := hB3.size; omega
  clear hW4 hB3 hgs
  have HZ0 : TabC tabZ (turP t 0) := ⟨tabZ_tab.1, fun d s hd hs => (tabZ_tab.2 d s hd hs).trans (by unfold turP; rw [if_neg (by omega)])⟩
  go_wp2
  go_loopw [29] (fun i wr => ∃ (n : Nat) (D : Array Value), n ≤ 5 ∧ i = .int .i64 (n : Int) ∧ Hid (TabC D (turP t n)) ∧ Hid (wr.heap[g]? = some (.cells C 25 (0, 0))) ∧ Hid (wr.heap[g + 1]? = some (.cells D 25 (0, 0))) ∧ Below w.heap.size w wr) (fun i _ => 5 - (intOf i).toNat)
  case atStart => exact ⟨0, tabZ, by omega, rfl, HZ0, HK.out, HK2.out, hB4⟩
  case round =>
    obtain ⟨n, D, hn, rfl, HD, J0, J1, hb⟩ := hrel
    rename World => wx
    by_cases hlt : n < 5
    · have c0 : (n : Int) < 5 := by omega
      have e0 : wx.cell? ⟨g, n * 4, none⟩ = _ := (blk_cell J0.out (n * 4)).trans (HC.out.2 n 0 hlt (by omega))
      have e1 := (blk_cell J0.out (n * 4 + 1)).trans (HC.out.2 n 1 hlt (by omega))
      have e2 := (blk_cell J0.out (n * 4 + 2)).trans (HC.out.2 n 2 hlt (by omega))
      have e3 := (blk_cell J0.out (n * 4 + 3)).trans (HC.out.2 n 3 hlt (by omega))
      have HD2 := Lib.hid (HD.out.turn hlt)
      have u0 : wx.cell? ⟨g + 1, n * 4, none⟩ = _ := (blk_cell J1.out (n * 4)).trans (HD.out.2 n 0 hlt (by omega))
      have u1 := (blk_cell J1.out (n * 4 + 1)).trans (HD.out.2 n 1 hlt (by omega))
      have u2 := (blk_cell J1.out (n * 4 + 2)).trans (HD.out.2 n 2 hlt (by omega))
      have u3 := (blk_cell J1.out (n * 4 + 3)).trans (HD.out.2 n 3 hlt (by omega))
      have f0 := blk_free J1.out (n * 4)
      have f1 := blk_free J1.out (n * 4 + 1)
      have f2 := blk_free J1.out (n * 4 + 2)
      have f3 := blk_free J1.out (n * 4 + 3)
      generalize t n 0 = x0 at e0 HD2
      generalize t n 1 = x1 at e1 HD2
      generalize t n 2 = x2 at e2 HD2
      generalize t n 3 = x3 at e3 HD2
      have n0 : (0 : Int) ≤ (n : Int) := by omega
      go_upto_region 6 with fail
      go_region
      obtain ⟨D', hD'⟩ : ∃ D', (((D.setIfInBounds (n * 4) (.int .i64 x3)).setIfInBounds (n * 4 + 1) (.int .i64 x0)).setIfInBounds (n * 4 + 2) (.int .i64 x1)).setIfInBounds (n * 4 + 3) (.int .i64 x2) = D' := ⟨_, rfl⟩
      obtain ⟨W5, hW5⟩ : ∃ W5, ((((wx.setCell ⟨g + 1, n * 4, none⟩ (.int .i64 x3)).setCell ⟨g + 1, n * 4 + 1, none⟩ (.int .i64 x0)).setCell ⟨g + 1, n * 4 + 2, none⟩ (.int .i64 x1)).setCell ⟨g + 1, n * 4 + 3, none⟩ (.int .i64 x2)).drew = W5 := ⟨_, rfl⟩
      have K1 := Lib.hid (show W5.heap[g + 1]? = some (.cells D' 25 (0, 0)) by rw [← hW5, ← hD']; exact blk_set (blk_set (blk_set (blk_set J1.out _ _) _ _) _ _) _ _)
      have hne : g ≠ g + 1 := by omega
      have K0 := Lib.hid (show W5.heap[g]? = some (.cells C 25 (0, 0)) by rw [← hW5]; exact blk_far (blk_far (blk_far (blk_far J0.out hne _) hne _) hne _) hne _)
      have hB5 : Below w.heap.size w W5 := by rw [← hW5]; exact ((((hb.setCell (p := ⟨g + 1, n * 4, none⟩) hgg _).setCell (p := ⟨g + 1, n * 4 + 1, none⟩) hgg _).setCell (p := ⟨g + 1, n * 4 + 2, none⟩) hgg _).setCell (p := ⟨g + 1, n * 4 + 3, none⟩) hgg _).drew
      rw [hD'] at HD2
      rw [hW5]
      clear hD' hW5 J0 J1 e0 e1 e2 e3 u0 u1 u2 u3 f0 f1 f2 f3 hb
      go_wp2
      go_roundw
      case rel => exact ⟨n + 1, D', by omega, by go_num, HD2, K0, K1, hB5⟩
      case measure => simp [intOf]; omega
    · obtain rfl : n = 5 := by omega
      have HD2 := Lib.hid (show TabC D (turT t) from ⟨HD.out.1, fun d s hd hs => (HD.out.2 d s hd hs).trans (by unfold turP; rw [if_pos hd])⟩)
      have HR' := Lib.hid (turT_right t HR.out)
      have hlw := turn_law t v (d % 2) hv3 (by omega)
      have hp1 := parV_bd _ (finG_bd t HR.out v) (d % 2) (by omega)
      have hdd2 : (d + 1) % 4 ≤ 3 := by omega
      have hd2 : (d + 1) % 4 % 2 = 1 - d % 2 := by omega
      have hc2 : ((d : Int) + 1) % 4 = (((d + 1) % 4 : Nat) : Int) := by omega
      have huv : turV v ≤ 3 := by unfold turV; split <;> omega
      have HP1 := Lib.hid (fun W hW => ppar_pts C t HC.out v d hv3 hd3 HR.out W hW)
      have HP2 := Lib.hid (fun W hW => ppar_pts D (turT t) HD2.out (turV v) ((d + 1) % 4) huv hdd2 HR'.out W hW)
      have HB1 := Lib.hid (fun W hW => pbids_ok C t HC.out v d hv3 hd3 HR.out W hW)
      have HB2 := Lib.hid (fun W hW => pbids_ok D (turT t) HD2.out (turV v) ((d + 1) % 4) huv hdd2 HR'.out W hW)
      rw [hd2] at HP2 HB2
      unfold ParR at HP1 HP2
      unfold BdsR at HB1 HB2
      rw [hlw.2] at HB2
      rw [hlw.1] at HP2
      obtain ⟨u, hu⟩ : ∃ u : Int, ((turV v : Nat) : Int) = u := ⟨_, rfl⟩
      have hu2 : u = if v = 1 ∨ v = 2 then 3 - (v : Int) else (v : Int) := by
        rw [← hu]; unfold turV; split <;> omega
      rw [hu] at HP2 HB2
      generalize (d + 1) % 4 = d2 at hdd2 hd2 hc2 HP2 HB2
      generalize parV (finG t v) (d % 2) = p at HP1 HP2 hp1
      generalize bidsL (finG t v) (d % 2) = B at HB1 HB2
      clear hlw hu hd2 huv HD HM hdd hvv HZ0 HK HK2 hv hd
      obtain ⟨vi, hvi⟩ : ∃ vi : Int, (v : Int) = vi := ⟨_, rfl⟩
      rw [hvi] at HP1 HB1 hu2 ⊢
      have hvb : vi = 1 ∨ vi = 2 ∨ (¬ vi = 1 ∧ ¬ vi = 2) := by omega
      have hu3 : (vi = 1 → u = 2) ∧ (vi = 2 → u = 1) ∧ (¬ vi = 1 ∧ ¬ vi = 2 → u = vi) := by
        rw [hu2]
        refine ⟨fun h => ?_, fun h => ?_, fun h => ?_⟩
        · rw [if_pos (by omega)]; omega
        · rw [if_pos (by omega)]; omega
        · rw [if_neg (by omega)]
      clear hu2
      go_upto_region 9 with fail
      go_cut [58] (fun x wz => x = .bool (vi == 1 || vi == 2) ∧ wz = wx)
      case first =>
        cases b1 : vi == 1
        · go_wp2_with fail
          go_meet
          exact ⟨by rw [b1]; rfl, rfl⟩
        · go_wp2_with fail
          go_meet
          exact ⟨by rw [b1]; rfl, rfl⟩
      case rest =>
      obtain ⟨rfl, rfl⟩ := hcut
      have hw1 : vi = 1 ∨ vi = 2 → IntKind.u8.wrap (3 - vi) = u := fun h => by
        rcases h with h | h
        · rw [hu3.1 h, h]; rfl
        · rw [hu3.2.1 h, h]; rfl
      have hw2 : ¬ (vi = 1 ∨ vi = 2) → vi = u := fun h => (hu3.2.2 (by omega)).symm
      have hor : (vi == 1 || vi == 2) = decide (vi = 1 ∨ vi = 2) := by by_cases h1 : vi = 1 <;> by_cases h2 : vi = 2 <;> simp [h1, h2]
      rw [hor]
      clear hu3 hor
      go_upto_if 58 with fail
      go_cut [12] (fun x wz => x = .int .u8 u ∧ wz = wc)
      case first =>
        clear hvb
        cases b : decide (vi = 1 ∨ vi = 2)
        · have hw := hw2 (of_decide_eq_false b)
          clear hw1 hw2 b
          go_wp2_with fail
          go_meet
          exact ⟨by rw [hw], rfl⟩
        · have hw := hw1 (of_decide_eq_true b)
          clear hw1 hw2 b
          go_wp2_with fail
          go_meet
          exact ⟨rfl, rfl⟩
      case rest =>
        obtain ⟨rfl, rfl⟩ := hcut
        clear hvi hlt hvb hw1 hw2
        go_wp2_with (refine wpList_load_row rfl 25 (.tmp 7) rfl g rfl 25 C _ _ J0.out Tryd.underlying25 rfl HC.out.info ?_)
        refine (HP1.out _ (HL.out.go hb)).mono ?_
        rintro ee w6 ⟨c1, c2, c3, c4, c5, c6, rfl, hb6⟩
        have hB6 := below_via hb hb6
        have J0 := Lib.hid (blk_below J0.out hb6 (blk_lt J0.out))
        have J1 := Lib.hid (blk_below J1.out hb6 (blk_lt J1.out))
        clear hb6
        go_upto_region 12 with fail
        obtain ⟨W7, hW7⟩ : ∃ W7, w6.alloc (.cells #[.int .u8 c1, .int .u8 c2, .int .u8 c3, .int .u8 c4, .int .i64 c5, .int .i64 c6] 30) = W7 := ⟨_, rfl⟩
        have J1 := Lib.hid (show W7.heap[g + 1]? = some (.cells D 25 (0, 0)) by rw [← hW7]; exact blk_alloc J1.out _)
        have J0 := Lib.hid (show W7.heap[g]? = some (.cells C 25 (0, 0)) by rw [← hW7]; exact blk_alloc J0.out _)
        have hB7 : Below w.heap.size w W7 := by rw [← hW7]; exact hB6.alloc hB6.size _
        rw [hW7]
        clear hW7 hB6
        go_wp2_with (refine wpList_load_row rfl 25 (.tmp 10) rfl (g + 1) rfl 25 D _ _ J1.out Tryd.underlying25 rfl HD2.out.info ?_)
        refine (HP2.out _ (HL.out.go hB7)).mono ?_
        rintro ee w8 ⟨k1, k2, k3, k4, k5, k6, rfl, hb8⟩
        have hB8 := below_via hB7 hb8
        have J0 := Lib.hid (blk_below J0.out hb8 (blk_lt J0.out))
        have J1 := Lib.hid (blk_below J1.out hb8 (blk_lt J1.out))
        clear hb8 hB7
        go_upto_region 13 with fail
        obtain ⟨W9, hW9⟩ : ∃ W9, w8.alloc (.cells #[.int .u8 k1, .int .u8 k2, .int .u8 k3, .int .u8 k4, .int .i64 k5, .int .i64 k6] 30) = W9 := ⟨_, rfl⟩
        have J1 := Lib.hid (show W9.heap[g + 1]? = some (.cells D 25 (0, 0)) by rw [← hW9]; exact blk_alloc J1.out _)
        have J0 := Lib.hid (show W9.heap[g]? = some (.cells C 25 (0, 0)) by rw [← hW9]; exact blk_alloc J0.out _)
        have hB9 : Below w.heap.size w W9 := by rw [← hW9]; exact hB8.alloc hB8.size _
        rw [hW9]
        clear hW9 hB8
        go_wp2_with (refine wpList_load_row rfl 25 (.tmp 7) rfl g rfl 25 C _ _ J0.out Tryd.underlying25 rfl HC.out.info ?_)
        refine (HB1.out _ (HL.out.go hB9)).mono ?_
        rintro ee wa ⟨sv1, rfl, ho1, hb10⟩
        obtain ⟨A1, k1, rfl⟩ := own_form ho1
        have R1 := Lib.hid (Rd.of_own ho1)
        have hB10 := below_via hB9 hb10
        have J1 := Lib.hid (blk_below J1.out hb10 (blk_lt J1.out))
        clear ho1 hb10 hB9 J0
        go_wp2_with (refine wpList_load_row rfl 25 (.tmp 10) rfl (g + 1) rfl 25 D _ _ J1.out Tryd.underlying25 rfl HD2.out.info ?_)
        refine (HB2.out _ (HL.out.go hB10)).mono ?_
        rintro ee wb ⟨sv2, rfl, ho2, hb11⟩
        obtain ⟨A2, k2, rfl⟩ := own_form ho2
        have s1 := conv_rd (P := Tryd.prog) (R1.out.below hb11) k1 34 9 5 Tryd.underlying34 Tryd.underlying5 Tryd.underlying9
        have s2 := conv_rd (P := Tryd.prog) (Rd.of_own ho2) k2 34 9 5 Tryd.underlying34 Tryd.underlying5 Tryd.underlying9
        have hB11 := below_via hB10 hb11
        have HAw := Lib.hid (awake18 wb (HL.out.go hB11))
        have hn1 : IntKind.i64.wrap (-(-p)) = p := (IntWalk.i64_in _ (by omega)).trans (by omega)
        generalize strB B = st at s1 s2
        clear ho2 hb11 J1 R1 hB10
        go_wp2_with fail
        refine HAw.out.mono ?_
        rintro ee wc ⟨rfl, hb12⟩
        have hBz := Lib.hid (below_via hB11 hb12)
        go_wp2
        go_ret
        exact ⟨rfl, hBz.out⟩

end Go.Proofs.YtilekdjjfdehcaaDoor
