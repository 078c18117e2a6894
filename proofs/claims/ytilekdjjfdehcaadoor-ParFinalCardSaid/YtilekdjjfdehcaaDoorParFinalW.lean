/- The walk of the statement ParFinal. -/
import Derived.Test.YtilekdjjfdehcaaDoorParMadeW
namespace Go.Proofs.YtilekdjjfdehcaaDoor
open Go.RowKit

/-- The plain law: a bid that is made is undoubled, one that is not is doubled; made bids bring points, others cost some. -/
theorem final_law (t : Nat → Nat → Int) (hr : rightT t = true) (v : Int) (b s : Nat) (h3 : 3 ≤ b) (h37 : b ≤ 37) (hs : s ≤ 1) :
    (6 + lvl b ≤ bstN t (dnm b) s → rsk t b s = 0 ∧ 0 < wo s (finF t v b s)) ∧ (bstN t (dnm b) s < 6 + lvl b → rsk t b s = 1 ∧ ¬ 0 < wo s (finF t v b s)) := by
  have h1 := lvl_bd b h3 h37
  have h5 := bstN_bd hr (dnm_bd b) hs
  rw [finF_wo t v b s hs, wo_wo]
  unfold ptF
  constructor
  · intro h
    have hr0 : rsk t b s = 0 := if_neg (by omega)
    rw [hr0]
    have := (ptsI_bd (lvl b) (dnm b) 0 (bstN t (dnm b) s) (vulB v (bstS t (dnm b) s)) h1 (by omega) h5).1 h
    exact ⟨rfl, by omega⟩
  · intro h
    have hr1 : rsk t b s = 1 := if_pos h
    rw [hr1]
    have := (ptsI_bd (lvl b) (dnm b) 1 (bstN t (dnm b) s) (vulB v (bstS t (dnm b) s)) h1 (by omega) h5).2 h
    exact ⟨rfl, by omega⟩
theorem value_ge (t : Nat → Nat → Int) (v : Int) (b s : Nat) (h3 : 3 ≤ b) (h37 : b ≤ 37) (hs : s ≤ 1) : wo (1 - s) (finF t v b s) ≤ wo (1 - s) (lC (finG t v) b (1 - s)).2 := by
  have h := (chO_spec (finG t v) b (1 - s) (by omega) (by omega) (finG t v b (1 - (1 - s)))).1
  rw [sub_sub1 s hs] at h
  have e : finG t v b s = finF t v b s := if_pos ⟨h3, h37, hs⟩
  have e2 : lC (finG t v) b (1 - s) = chO (finG t v) b (1 - s) (finG t v b s) := by unfold lC; rw [sub_sub1 s hs]
  rw [e2, ← e]; exact h
theorem bst_cells (t : Nat → Nat → Int) (d s : Nat) : t d s ≤ bstN t d s ∧ t d (s + 2) ≤ bstN t d s ∧ bstN t d s = t d (bstS t d s) := by
  unfold bstN bstS
  split <;> exact ⟨by omega, by omega, rfl⟩

set_option maxRecDepth 100000 in
set_option maxHeartbeats 4000000 in
theorem parFinal_walk (A : Array Value) (l : Nat → Int) (hA : BytC A l) (vul : Int) (hv : 0 ≤ vul ∧ vul ≤ 255) (sd : Int) (hs : 0 ≤ sd ∧ sd ≤ 255) (w : World) (hL : LaidS w) :
    Calls Tryd.prog 9 #[.agg A, .int .u8 vul, .int .u8 sd] w fun e w' => e = .returned (.bool true) ∧ Below w.heap.size w w' := by
  have HM := Lib.hid (fun W => made18 A l hA W)
  have HR := Lib.hid (mdT_right l (fun i hi => (hA.2 i hi).2))
  have HL := Lib.hid hL
  have HIA := Lib.hid (show (Tryd.prog.info? 22).map (·.size) = some A.size by rw [hA.1]; kernel_rfl)
  obtain ⟨v, hvv⟩ : ∃ v : Nat, vul % 4 = v := ⟨(vul % 4).toNat, by omega⟩
  obtain ⟨s, hss⟩ : ∃ s : Nat, sd % 2 = s := ⟨(sd % 2).toNat, by omega⟩
  have hv3 : v ≤ 3 := by omega
  have hs1 : s ≤ 1 := by omega
  generalize mdT l = t at HM HR
  clear hA hL
  go_enter Tryd.func9, Tryd.ntmps9
  go_upto_region 1 with fail
  obtain ⟨W1, hW1⟩ : ∃ W1, w.alloc (.cells A 22) = W1 := ⟨_, rfl⟩
  obtain ⟨g, hg⟩ : ∃ g, w.heap.size = g := ⟨_, rfl⟩
  have HK := Lib.hid (show W1.heap[g]? = some (.cells A 22) by rw [← hW1]; exact blk_new _ hg.symm)
  have hB1 : Below w.heap.size w W1 := by rw [← hW1]; exact (by repeat (first | exact Below.refl _ _ | assumption | refine Below.drew ?_ | refine below_drewN ?_ _ | refine Below.alloc ?_ (by first | omega | (simp; done) | (simp; omega)) _ | refine Below.setCell ?_ (by first | omega | (simp; done) | (simp; omega)) _))
  rw [hW1, hg]
  clear hW1 hg
  go_wp2_with (refine wpList_load_row rfl 22 (.tmp 3) rfl g rfl 22 A _ _ HK.out Tryd.underlying22 rfl HIA.out ?_)
  refine (HM.out _).mono ?_
  rintro ee w2 ⟨C, rfl, hC, hb2⟩
  have hB2 := below_via hB1 hb2
  have HC := Lib.hid hC
  clear hB1 hb2 HK hC
  go_upto_region 2 with (first | (refine plain_alloc_to rfl 25 rfl tabZ tabZ_zero ?_) | (refine wpList_store_new rfl 25 _ _ rfl C _ _ rfl rfl HC.out.info (tabZ_tab.1.trans HC.out.1.symm) HC.out.one ?_))
  obtain ⟨W3, hW3⟩ : ∃ W3, w2.alloc (.cells C 25) = W3 := ⟨_, rfl⟩
  obtain ⟨g, hg⟩ : ∃ g, w2.heap.size = g := ⟨_, rfl⟩
  have HK := Lib.hid (show W3.heap[g]? = some (.cells C 25 (0, 0)) by rw [← hW3]; exact blk_new _ hg.symm)
  have hB3 : Below w.heap.size w W3 := by rw [← hW3]; exact hB2.alloc hB2.size _
  rw [hW3, hg]
  clear hW3 hg hB2
  go_wp2
  go_loopw [10] (fun i wr => ∃ b : Nat, 3 ≤ b ∧ b ≤ 38 ∧ i = .int .u8 (b : Int) ∧ Below W3.heap.size W3 wr) (fun i _ => 38 - (intOf i).toNat)
  case atStart => exact ⟨3, by omega, by omega, rfl, Below.refl _ _⟩
  case round =>
    obtain ⟨b, h3, h38, rfl, hb⟩ := hrel
    rename World => wx
    have hBx := below_via hB3 hb
    by_cases hlt : b ≤ 37
    · have c0 : (b : Int) ≤ 37 := by omega
      have HKx := Lib.hid (blk_below HK.out hb (blk_lt HK.out))
      have HLx := Lib.hid (HL.out.go hBx)
      have HF := Lib.hid (fun W hW => pfinal_ok C t HC.out v b s hv3 h3 hlt hs1 HR.out W hW)
      have HBs := Lib.hid (fun W => pbest_ok C t HC.out (dnm b) s (dnm_bd b) hs1 HR.out W)
      have HVa := Lib.hid (fun W hW => pvalue_ok C t HC.out v b (1 - s) hv3 h3 hlt (by omega) HR.out W hW)
      have hfl := final_law t HR.out v b s h3 hlt hs1
      have hvg := value_ge t v b s h3 hlt hs1
      have hbc := bst_cells t (dnm b) s
      have hsb := bstS_bd t (dnm b) s hs1
      have hnb := bstN_bd HR.out (dnm_bd b) hs1
      have hlb := lvl_bd b h3 hlt
      have hrk : 0 ≤ rsk t b s ∧ rsk t b s ≤ 255 := by unfold rsk; split <;> omega
      have hpb := finF_bd t HR.out v b s h3 hlt hs1
      have hyb := (okQ_st (finG t v) (finG_bd t HR.out v) (dnN 35)) b (1 - s)
      rw [stQ_lC (finG t v) b (1 - s) h3 hlt (by omega)] at hyb
      have Hq0 := Lib.hid (HC.out.2 (dnm b) s (dnm_bd b) (by omega))
      have Hq2 := Lib.hid (HC.out.2 (dnm b) (s + 2) (dnm_bd b) (by omega))
      have Hqs := Lib.hid (HC.out.2 (dnm b) (bstS t (dnm b) s) (dnm_bd b) (by omega))
      rw [← hbc.2.2] at Hqs
      have hdb := dnm_bd b
      have hd : ((b : Int) - 3) % 5 = (dnm b : Int) := by unfold dnm; omega
      have hl : 1 + ((b : Int) - 3) / 5 = lvl b := by unfold lvl; omega
      generalize (lC (finG t v) b (1 - s)).2 = y at HVa hvg hyb
      generalize finF t v b s = p at HF hfl hvg hpb
      generalize rsk t b s = R at HF hfl hrk
      generalize bstN t (dnm b) s = N at HF HBs hfl hbc hnb Hqs
      generalize bstS t (dnm b) s = S at HF HBs hbc hsb Hqs
      generalize t (dnm b) s = n0 at hbc Hq0
      generalize t (dnm b) (s + 2) = n2 at hbc Hq2
      generalize lvl b = L at HF hfl hlb hl
      generalize dnm b = D at HF HBs Hq0 Hq2 Hqs hdb hd
      obtain ⟨r, hr⟩ : ∃ r, 1 - s = r := ⟨_, rfl⟩
      rw [hr] at HVa hvg
      have hr1 : (1 : Int) - (s : Int) = (r : Int) := by omega
      have hrb : r ≤ 1 := by omega
      have HO1 := Lib.hid (fun W => ours_any p (by omega) s hs1 W)
      have HO2 := Lib.hid (fun W => ours_any y (by omega) r hrb W)
      have HO3 := Lib.hid (fun W => ours_any p (by omega) r hrb W)
      unfold ocV at HF
      clear hr
      go_wp2_with (refine wpList_load_row rfl 25 (.tmp 7) rfl g rfl 25 C _ _ HKx.out Tryd.underlying25 rfl HC.out.info ?_)
      refine (HF.out _ HLx.out).mono ?_
      rintro ee w4 ⟨rfl, hb4⟩
      obtain ⟨hbc1, hbc2, -⟩ := hbc
      have hS2 : (S : Int) % 2 = (s : Int) := by omega
      have hS4 : (S : Int) < 4 := by omega
      have hs4 : (s : Int) + 2 < 4 := by omega
      have hs40 : (s : Int) < 4 := by omega
      have hD5 : (D : Int) < 5 := by omega
      go_upto_region 6 with fail
      obtain ⟨W4, hW4⟩ : ∃ W4, w4.alloc (.cells #[.int .u8 L, .int .u8 (D : Int), .int .u8 R, .int .u8 (S : Int), .int .i64 N, .int .i64 0] 30) = W4 := ⟨_, rfl⟩
      obtain ⟨g4, hg4⟩ : ∃ g4, w4.heap.size = g4 := ⟨_, rfl⟩
      have K4 := Lib.hid (show W4.heap[g4]? = some (.cells #[.int .u8 L, .int .u8 (D : Int), .int .u8 R, .int .u8 (S : Int), .int .i64 N, .int .i64 0] 30) by rw [← hW4]; exact blk_new _ hg4.symm)
      have hb5 : Below wx.heap.size wx W4 := by rw [← hW4]; exact hb4.alloc hb4.size _
      have HT4 := Lib.hid (blk_below HKx.out hb5 (blk_lt HKx.out))
      rw [hW4, hg4]
      clear hW4 hg4 hb4 HKx
      go_wp2_with (refine wpList_load_row rfl 25 (.tmp 7) rfl g rfl 25 C _ _ HT4.out Tryd.underlying25 rfl HC.out.info ?_)
      refine (HBs.out _).mono ?_
      rintro ee w6 ⟨rfl, hb6⟩
      have hb56 := hb5.trans (hb6.mono hb5.size)
      replace K4 := Lib.hid (blk_below K4.out hb6 (blk_lt K4.out))
      replace HT4 := Lib.hid (blk_below HT4.out hb6 (blk_lt HT4.out))
      have HL6 := Lib.hid (HLx.out.go hb56)
      clear hb5 hb6
      go_wp2_with (refine wpList_load_row rfl 25 (.tmp 7) rfl g rfl 25 C _ _ HT4.out Tryd.underlying25 rfl HC.out.info ?_)
      refine (HVa.out _ HL6.out).mono ?_
      rintro ee w7 ⟨rfl, hb7⟩
      have hb57 := hb56.trans (hb7.mono hb56.size)
      replace K4 := Lib.hid (blk_below K4.out hb7 (blk_lt K4.out))
      replace HT4 := Lib.hid (blk_below HT4.out hb7 (blk_lt HT4.out))
      have a0 := blk_cell K4.out 0
      have a1 := blk_cell K4.out 1
      have a2 := blk_cell K4.out 2
      have a3 := blk_cell K4.out 3
      clear hb56 hb7 HL6
      go_upto_region 9 with fail
      obtain ⟨W8, hW8⟩ : ∃ W8, w7.alloc (.cells #[.int .u8 L, .int .u8 (D : Int), .int .u8 R, .int .u8 (S : Int)] 28) = W8 := ⟨_, rfl⟩
      obtain ⟨g8, hg8⟩ : ∃ g8, w7.heap.size = g8 := ⟨_, rfl⟩
      have k8 : W8.heap[g8]? = some (.cells #[.int .u8 L, .int .u8 (D : Int), .int .u8 R, .int .u8 (S : Int)] 28) := by rw [← hW8]; exact blk_new _ hg8.symm
      have k4 : W8.heap[g4]? = some (.cells #[.int .u8 L, .int .u8 (D : Int), .int .u8 R, .int .u8 (S : Int), .int .i64 N, .int .i64 0] 30) := by rw [← hW8]; exact blk_alloc K4.out _
      have kt : W8.heap[g]? = some (.cells C 25) := by rw [← hW8]; exact blk_alloc HT4.out _
      have Hb8 := Lib.hid (show Below W3.heap.size W3 W8 by rw [← hW8]; exact below_via hb (hb57.alloc hb57.size _))
      rw [hW8, hg8]
      replace a0 := blk_cell k8 0
      replace a1 := blk_cell k8 1
      replace a2 := blk_cell k8 2
      replace a3 := blk_cell k8 3
      have b4 := blk_cell k4 4
      have b5 := blk_cell k4 5
      have q0 := (blk_cell kt (D * 4 + s)).trans Hq0.out
      have q2 := (blk_cell kt (D * 4 + (s + 2))).trans Hq2.out
      have qs := (blk_cell kt (D * 4 + S)).trans Hqs.out
      have nl0 : ¬ N < n0 := by omega
      have nl2 : ¬ N < n2 := by omega
      generalize wo s p = P1 at HO1 hfl
      generalize wo r y = P2 at HO2 hvg
      generalize wo r p = P3 at HO3 hvg
      have nv : ¬ P2 < P3 := by omega
      clear hW8 hg8 k8 k4 kt hb57 hv hs hvv hss hv3 hyb hpb hrk hnb hsb hbc1 hbc2 hb hBx K4 HT4 HF HBs HVa HM HLx HIA HK hB3 hdb
      by_cases hm : 6 + L ≤ N
      · obtain ⟨rfl, hpos⟩ := hfl.1 hm
        clear hfl
        go_wp2_with fail
        refine (HO1.out _).mono ?_
        rintro ee wa ⟨rfl, rfl⟩
        go_wp2_with fail
        refine (HO2.out _).mono ?_
        rintro ee wa ⟨rfl, rfl⟩
        go_wp2_with fail
        refine (HO3.out _).mono ?_
        rintro ee wa ⟨rfl, rfl⟩
        go_wp2
        go_roundw
        case rel => exact ⟨b + 1, by omega, by omega, by go_num, Hb8.out⟩
        case measure => simp [intOf]; omega
      · obtain ⟨rfl, hpos⟩ := hfl.2 (by omega)
        have hpos : ¬ 0 < P1 := by omega
        clear hfl
        go_wp2_with fail
        refine (HO1.out _).mono ?_
        rintro ee wa ⟨rfl, rfl⟩
        go_wp2_with fail
        refine (HO2.out _).mono ?_
        rintro ee wa ⟨rfl, rfl⟩
        go_wp2_with fail
        refine (HO3.out _).mono ?_
        rintro ee wa ⟨rfl, rfl⟩
        go_wp2
        go_roundw
        case rel => exact ⟨b + 1, by omega, by omega, by go_num, Hb8.out⟩
        case measure => simp [intOf]; omega
    · obtain rfl : b = 38 := by omega
      have HAw := Lib.hid (awake18 wx (HL.out.go hBx))
      go_wp2_with fail
      refine HAw.out.mono ?_
      rintro ee w9 ⟨rfl, hb9⟩
      have hBz := Lib.hid (below_via hBx hb9)
      go_wp2
      go_ret
      exact ⟨rfl, hBz.out⟩

end Go.Proofs.YtilekdjjfdehcaaDoor
