/- The walk of the statement ParStable. -/
import Derived.Test.YtilekdjjfdehcaaDoorParStableL
import Derived.Deep.DeepCutAuto
import Derived.Deep.RegionHeld3
namespace Go.Proofs.YtilekdjjfdehcaaDoor
open Go.RowKit

set_option maxRecDepth 100000 in
set_option maxHeartbeats 4000000 in
theorem parStable_walk (A : Array Value) (l : Nat → Int) (hA : BytC A l) (vul : Int) (hv : 0 ≤ vul ∧ vul ≤ 255) (dl : Int) (hd : 0 ≤ dl ∧ dl ≤ 255) (w : World) (hL : LaidS w) :
    Calls Tryd.prog 8 #[.agg A, .int .u8 vul, .int .u8 dl] w fun e w' => e = .returned (.bool true) ∧ Below w.heap.size w w' := by
  have HM := Lib.hid (fun W => made18 A l hA W)
  have HR := Lib.hid (mdT_right l (fun i hi => (hA.2 i hi).2))
  have HL := Lib.hid hL
  have HIA := Lib.hid (show (Tryd.prog.info? 22).map (·.size) = some A.size by rw [hA.1]; kernel_rfl)
  obtain ⟨v, hvv⟩ : ∃ v : Nat, vul % 4 = v := ⟨(vul % 4).toNat, by omega⟩
  obtain ⟨d, hdd⟩ : ∃ d : Nat, dl % 4 = d := ⟨(dl % 4).toNat, by omega⟩
  have hv3 : v ≤ 3 := by omega
  have hd3 : d ≤ 3 := by omega
  generalize mdT l = t at HM HR
  clear hA hL
  go_enter Tryd.func8, Tryd.ntmps8
  go_upto_region 1 with fail
  obtain ⟨W1, hW1⟩ : ∃ W1, w.alloc (.cells A 22) = W1 := ⟨_, rfl⟩
  obtain ⟨g, hg⟩ : ∃ g, w.heap.size = g := ⟨_, rfl⟩
  have HK := Lib.hid (show W1.heap[g]? = some (.cells A 22) by rw [← hW1]; exact blk_new _ hg.symm)
  have hB1 : Below w.heap.size w W1 := by rw [← hW1]; exact (by repeat (first | exact Below.refl _ _ | assumption | refine Below.drew ?_ | refine below_drewN ?_ _ | refine Below.alloc ?_ (by first | omega | (simp; done) | (simp; omega)) _ | refine Below.setCell ?_ (by first | omega | (simp; done) | (simp; omega)) _))
  rw [hW1, hg]
  clear hW1 hg
  go_wp2_with (refine wpList_load_row rfl 22 (.tmp 3) rfl g rfl 22 A _ _ HK.out Tryd.underlying22 rfl HIA.out ?_)
  refine (HM.out _).mono ?_
  rintro ee w2 ⟨C, rfl, hC, hb2⟩
  have hB2 := below_via hB1 hb2
  have HC := Lib.hid hC
  clear hB1 hb2 HK hC
  go_upto_region 2 with (first | (refine plain_alloc_to rfl 25 rfl tabZ tabZ_zero ?_) | (refine wpList_store_new rfl 25 _ _ rfl C _ _ rfl rfl HC.out.info (tabZ_tab.1.trans HC.out.1.symm) HC.out.one ?_))
  obtain ⟨W3, hW3⟩ : ∃ W3, w2.alloc (.cells C 25) = W3 := ⟨_, rfl⟩
  obtain ⟨g, hg⟩ : ∃ g, w2.heap.size = g := ⟨_, rfl⟩
  have HK := Lib.hid (show W3.heap[g]? = some (.cells C 25 (0, 0)) by rw [← hW3]; exact blk_new _ hg.symm)
  have hB3 : Below w.heap.size w W3 := by rw [← hW3]; exact hB2.alloc hB2.size _
  rw [hW3, hg]
  clear hW3 hg hB2 hvv hdd hv hd HM HIA
  have HB := Lib.hid (fun W hW => pbids_ok C t HC.out v d hv3 hd3 HR.out W hW)
  have HP := Lib.hid (fun W hW => ppar_out C t HC.out v d hv3 hd3 HR.out W hW)
  unfold BdsR at HB
  unfold OutR at HP
  go_wp2_with (refine wpList_load_row rfl 25 (.tmp 7) rfl g rfl 25 C _ _ HK.out Tryd.underlying25 rfl HC.out.info ?_)
  refine (HB.out _ (HL.out.go hB3)).mono ?_
  rintro ee w4 ⟨sv, rfl, ho, hb4⟩
  obtain ⟨A1, k1, rfl⟩ := own_form ho
  have HRd := Lib.hid (Rd.of_own ho)
  have hB4 := below_via hB3 hb4
  replace HK := Lib.hid (blk_below HK.out hb4 (blk_lt HK.out))
  clear ho hb4 hB3 HB
  go_wp2_with (refine wpList_load_row rfl 25 (.tmp 7) rfl g rfl 25 C _ _ HK.out Tryd.underlying25 rfl HC.out.info ?_)
  refine (HP.out _ (HL.out.go hB4)).mono ?_
  rintro ee w5 ⟨c1, c2, c3, c4, c5, c6, hoc, rfl, hb5⟩
  have hB5 := below_via hB4 hb5
  replace HK := Lib.hid (blk_below HK.out hb5 (blk_lt HK.out))
  replace HRd := Lib.hid ((HRd.out.below hb5).more hb5.size)
  clear hb5 hB4 HP
  go_upto_region 4 with fail
  obtain ⟨W6, hW6⟩ : ∃ W6, w5.alloc (.cells #[.int .u8 c1, .int .u8 c2, .int .u8 c3, .int .u8 c4, .int .i64 c5, .int .i64 c6] 30) = W6 := ⟨_, rfl⟩
  obtain ⟨g6, hg6⟩ : ∃ g6, w5.heap.size = g6 := ⟨_, rfl⟩
  have HO := Lib.hid (show W6.heap[g6]? = some (.cells #[.int .u8 c1, .int .u8 c2, .int .u8 c3, .int .u8 c4, .int .i64 c5, .int .i64 c6] 30 (0, 0)) by rw [← hW6]; exact blk_new _ hg6.symm)
  replace HK := Lib.hid (show W6.heap[g]? = some (.cells C 25 (0, 0)) by rw [← hW6]; exact blk_alloc HK.out _)
  replace HRd := Lib.hid (show Rd W6 W6.heap.size 1 A1 (bidsL (finG t v) (d % 2)).length (bC (bidsL (finG t v) (d % 2))) by rw [← hW6]; exact (HRd.out.alloc (Nat.le_refl _) _).more (by simp))
  have hB6 : Below w.heap.size w W6 := by rw [← hW6]; exact hB5.alloc hB5.size _
  rw [hW6, hg6]
  clear hW6 hg6 hB5
  -- the bidding
  have hq : d % 2 ≤ 1 := by omega
  have hdm : (d : Int) % 2 = ((d % 2 : Nat) : Int) := by omega
  have hnl := bids_len (finG t v) (d % 2)
  have hS := firstS_le (finG t v) (d % 2) hq
  have HSB := Lib.hid (fun i hi => stab_bid (finG t v) (d % 2) hq i hi)
  have HSL := Lib.hid (fun i hi => stab_last (finG t v) (d % 2) hq i hi)
  have HSO := Lib.hid (fun i hi => turn_opt (finG t v) (d % 2) hq i hi)
  have HF0 := Lib.hid (show (bidsL (finG t v) (d % 2)).length = 0 → firstS (finG t v) (d % 2) = d % 2 ∧ parV (finG t v) (d % 2) = 0 from fun h => ⟨if_pos h, (bids_nil (finG t v) (d % 2) hq (beg_nil_of _ _ (List.eq_nil_of_length_eq_zero h))).2.1⟩)
  have hp1 := parV_bd _ (finG_bd t HR.out v) (d % 2) hq
  unfold OutC at hoc
  generalize d % 2 = q at *
  generalize hP : parV (finG t v) q = P at *
  generalize hSS : firstS (finG t v) q = S at *
  generalize hLL : bidsL (finG t v) q = L at *
  generalize hn : L.length = n at *
  have hc4 : ∃ y : Nat, c4 = (y : Int) ∧ y ≤ 3 ∧ (0 < n → (y + q + n + 1) % 2 = (S + q) % 2) := by
    by_cases h0 : n = 0
    · exact ⟨0, (hoc.1 h0).2.2.2.1, by omega, fun h => by omega⟩
    · obtain ⟨j, rfl⟩ : ∃ j, n = j + 1 := ⟨n - 1, by omega⟩
      have h1 := (hoc.2 j _ _ rfl rfl rfl).2.2.2.1
      have h2 := bstS_bd t (dnm (L.getD j 0)) (sideAt S j) (sideAt_le S j hS)
      have h3 := sideAt_mod S j hS
      exact ⟨_, h1, h2.1, fun _ => by omega⟩
  obtain ⟨y, rfl, hy3, hyn⟩ := hc4
  have HOC := Lib.hid hoc
  clear hoc hP hSS hLL
  go_upto_region 7 with fail
  have a3 := blk_cell HO.out 3
  try rw [hdm]
  go_cut [69] (fun x wz => x = .bool (decide (¬ S = q)) ∧ wz = W6)
  case first =>
    by_cases h0 : n = 0
    · have hSq := (HF0.out h0).1
      have c0 : ¬ (0 : Int) < (n : Int) := by omega
      clear h0
      go_wp2_with fail
      go_meet
      exact ⟨by rw [hSq]; simp, rfl⟩
    · have hy := hyn (by omega)
      have c0 : (0 : Int) < (n : Int) := by omega
      go_wp2_with fail
      go_meet
      refine ⟨congrArg Value.bool ?_, rfl⟩
      rw [Bool.eq_iff_iff]
      simp only [bne_iff_ne, ne_eq, decide_eq_true_eq]
      omega
  case rest =>
  obtain ⟨rfl, rfl⟩ := hcut
  rename World => W6
  go_upto_if 69 with fail
  go_cut [15] (fun x wz => x = .int .u8 (S : Int) ∧ wz = W6)
  case first =>
    cases b : decide (¬ S = q)
    · have e := Decidable.not_not.1 (of_decide_eq_false b)
      clear b
      go_wp2_with fail
      go_meet
      exact ⟨by rw [e], rfl⟩
    · have e := of_decide_eq_true b
      have hw : IntKind.u8.wrap (1 - (q : Int)) = (S : Int) := (IntWalk.u8_in _ (by omega)).trans (by omega)
      clear b
      go_wp2_with fail
      go_meet
      exact ⟨by rfl, rfl⟩
  case rest =>
  obtain ⟨rfl, rfl⟩ := hcut
  rename World => W6
  clear hdm a3 hyn
  have HLA : ∀ i, ∃ la : Nat, ∃ pa : Int, la = (if i = 0 then 0 else L.getD (i - 1) 0) ∧ pa = (if i = 0 then 0 else finG t v (L.getD (i - 1) 0) (sideAt S (i - 1))) := fun i => ⟨_, _, rfl, rfl⟩
  have hw6 : Below W6.heap.size W6 W6 := Below.refl _ _
  go_upto_region 11 with fail
  go_loopw [18, 16, 17, 15] (fun i la pa sd wr => ∃ k : Nat, k ≤ n ∧ i = .int .i64 (k : Int) ∧ la = .int .u8 ((if k = 0 then 0 else L.getD (k - 1) 0 : Nat) : Int) ∧ pa = .int .i64 (if k = 0 then 0 else finG t v (L.getD (k - 1) 0) (sideAt S (k - 1))) ∧ sd = .int .u8 (sideAt S k : Int) ∧ Below W6.heap.size W6 wr) (fun i _ _ _ _ => n + 1 - (intOf i).toNat)
  case atStart => exact ⟨0, by omega, rfl, rfl, rfl, rfl, hw6⟩
  case round =>
    obtain ⟨k, hk, rfl, rfl, rfl, rfl, hb⟩ := hrel
    rename World => wx
    clear HLA hw6
    have HT := Lib.hid (HSO.out k hk)
    have hsk := sideAt_le S k hS
    have hsk1 : (sideAt S (k + 1) : Int) = 1 - (sideAt S k : Int) := by rw [sideAt_succ S k hS]; omega
    have HLa := Lib.hid (show ∀ la : Nat, (if k = 0 then 0 else L.getD (k - 1) 0) = la → la ≤ 37 ∧ (∀ b, la < b → 0 < k → L.getD (k - 1) 0 < b) from fun la h => by
      by_cases h0 : k = 0
      · rw [if_pos h0] at h; exact ⟨by omega, fun _ _ _ => by omega⟩
      · rw [if_neg h0] at h; have := HSB.out (k - 1) (by omega); exact ⟨by omega, fun b hb _ => by omega⟩)
    have HPa := Lib.hid (show ∀ pa : Int, (if k = 0 then 0 else finG t v (L.getD (k - 1) 0) (sideAt S (k - 1))) = pa → (-10000 ≤ pa ∧ pa ≤ 10000) ∧ (0 < k → wo (sideAt S k) pa ≤ wo (sideAt S k) P) from fun pa h => by
      by_cases h0 : k = 0
      · rw [if_pos h0] at h; exact ⟨by omega, fun _ => by omega⟩
      · rw [if_neg h0] at h
        subst h
        refine ⟨finG_bd t HR.out v _ _, fun h1 => ?_⟩
        have h2 := (HT.out).2 h1
        obtain ⟨j, rfl⟩ : ∃ j, k = j + 1 := ⟨k - 1, by omega⟩
        rw [sideAt_succ S j hS, sub_sub1 _ (sideAt_le S j hS)] at h2
        rw [sideAt_succ S j hS]
        exact h2)
    have hBk := HSB.out k
    have hLk := HSL.out k
    have hOk := HOC.out.2 k
    obtain ⟨x, hx⟩ : ∃ x, L.getD k 0 = x := ⟨_, rfl⟩
    have hcx : k < n → (bC L)[k]? = some (.int .u8 (x : Int)) := fun h => by
      unfold bC
      rw [List.getElem?_map, List.getElem?_eq_getElem (by omega), ← hx, List.getD_eq_getElem?_getD, List.getElem?_eq_getElem (by omega)]; rfl
    have hT1 := (HT.out).1
    rw [hx] at hBk hLk hOk
    have hxl : k < n → (if k = 0 then 0 else L.getD (k - 1) 0) < x := fun h => by
      have := hBk h
      split <;> omega
    have hnx : (if k + 1 = 0 then 0 else L.getD (k + 1 - 1) 0) = x := by rw [if_neg (by omega)]; exact hx
    have hnp : (if k + 1 = 0 then (0 : Int) else finG t v (L.getD (k + 1 - 1) 0) (sideAt S (k + 1 - 1))) = finG t v x (sideAt S k) := by rw [if_neg (by omega)]; show finG t v (L.getD k 0) (sideAt S k) = _; rw [hx]
    generalize hsd : sideAt S k = sd at *
    generalize hla : (if k = 0 then 0 else L.getD (k - 1) 0) = la at *
    generalize hpa : (if k = 0 then (0 : Int) else finG t v (L.getD (k - 1) 0) (sideAt S (k - 1))) = pa at *
    have hlb := HLa.out la rfl
    have hpb := HPa.out pa rfl
    have hwl : IntKind.u8.wrap ((la : Int) + 1) = (la : Int) + 1 := IntWalk.u8_in _ (by omega)
    have hkn : ¬ (n : Int) < (k : Int) := by omega
    clear HLa HPa HT
    obtain ⟨m, hm⟩ : ∃ m : Nat, m = (if la + 1 < 3 then 3 else la + 1) := ⟨_, rfl⟩
    have hm3 : 3 ≤ m ∧ la < m ∧ m ≤ 38 ∧ (la + 1 < 3 → m = 3) ∧ (¬ la + 1 < 3 → m = la + 1) := by rw [hm]; split <;> omega
    clear hm
    go_upto_region 13 with fail
    go_cut [19] (fun x wz => x = .int .u8 (m : Int) ∧ wz = wx)
    case first =>
      by_cases h3 : la + 1 < 3
      · have e := hm3.2.2.2.1 h3
        have e1 : (la : Int) + 1 < 3 := by omega
        go_wp2_with fail
        go_meet
        exact ⟨by rw [e]; rfl, rfl⟩
      · have e := hm3.2.2.2.2 h3
        have e1 : ¬ (la : Int) + 1 < 3 := by omega
        go_wp2_with fail
        go_meet
        exact ⟨by rw [e]; rfl, rfl⟩
    case rest =>
    obtain ⟨rfl, rfl⟩ := hcut
    rename World => wx
    go_upto_region 14 with fail
    go_loopw [19] (fun i wr => ∃ b : Nat, m ≤ b ∧ b ≤ 38 ∧ i = .int .u8 (b : Int) ∧ Below wx.heap.size wx wr) (fun i _ => 38 - (intOf i).toNat)
    case atStart => exact ⟨m, by omega, by omega, rfl, Below.refl _ _⟩
    case round =>
      obtain ⟨b, hmb, hb38, rfl, hbb⟩ := hrel
      rename World => wy
      have hbx := hb.trans (hbb.mono hb.size)
      by_cases hb37 : b ≤ 37
      · as_aux_lemma =>
          have c37 : (b : Int) ≤ 37 := by omega
          obtain ⟨r, hr⟩ : ∃ r, 1 - sd = r := ⟨_, rfl⟩
          have hr1 : (1 : Int) - (sd : Int) = (r : Int) := by omega
          have hrb : r ≤ 1 := by omega
          have hY := hT1 b (by omega) hb37 (hlb.2 b (by omega))
          rw [hr] at hY hBk
          have HVa := Lib.hid (fun W hW => pvalue_ok C t HC.out v b r hv3 (by omega) hb37 hrb HR.out W hW)
          have hyb := (okQ_st (finG t v) (finG_bd t HR.out v) (dnN 35)) b r
          rw [stQ_lC (finG t v) b r (by omega) hb37 hrb] at hyb
          have hYP : k < n → b = x → (lC (finG t v) b r).2 = P := fun h1 h2 => by rw [h2]; exact (hBk h1).2.2.1
          generalize (lC (finG t v) b r).2 = Y at HVa hY hyb hYP
          have HO1 := Lib.hid (fun W => ours_any Y (by omega) sd hsk W)
          have HO2 := Lib.hid (fun W => ours_any P (by omega) sd hsk W)
          have hge : ¬ wo sd P < wo sd Y := by omega
          have hKy := blk_below HK.out hbx (blk_lt HK.out)
          have HKy := Lib.hid hKy
          generalize wo sd P = P1 at HO2 hY hge
          generalize wo sd Y = P2 at HO1 hY hge
          clear hKy hr
          go_wp2_with (refine wpList_load_row rfl 25 (.tmp 7) rfl g rfl 25 C _ _ HKy.out Tryd.underlying25 rfl HC.out.info ?_)
          refine (HVa.out _ (HL.out.go (below_via hB6 hbx))).mono ?_
          rintro ee wv ⟨rfl, hbv⟩
          have hbz := hbx.trans (hbv.mono hbx.size)
          have hbw := hbb.trans (hbv.mono hbb.size)
          go_wp2_with fail
          refine (HO1.out _).mono ?_
          rintro ee wa ⟨rfl, rfl⟩
          go_wp2_with fail
          refine (HO2.out _).mono ?_
          rintro ee wa ⟨rfl, rfl⟩
          by_cases hkl : k < n
          · have ckl : (k : Int) < (n : Int) := by omega
            obtain ⟨bb, off, rfl, hbw6, hcell⟩ := HRd.out.pos (show 0 < n by omega)
            have e0 : wv.cell? ⟨bb, off + k, none⟩ = _ := (hbz.cell (p := ⟨bb, off + k, none⟩) hbw6).trans ((hcell k (by have := HRd.out.len; omega)).trans (hcx hkl))
            by_cases hbxx : b = x
            · have hyp := hYP hkl hbxx
              subst hyp
              have cbx : (b : Int) = (x : Int) := by omega
              go_wp2
              go_roundw
              case rel => exact ⟨b + 1, by omega, by omega, by go_num, hbw⟩
              case measure => simp [intOf]; omega
            · have cbx : ¬ (b : Int) = (x : Int) := by omega
              go_wp2
              go_roundw
              case rel => exact ⟨b + 1, by omega, by omega, by go_num, hbw⟩
              case measure => simp [intOf]; omega
          · have ckl : ¬ (k : Int) < (n : Int) := by omega
            go_wp2
            go_roundw
            case rel => exact ⟨b + 1, by omega, by omega, by go_num, hbw⟩
            case measure => simp [intOf]; omega
      · obtain rfl : b = 38 := by omega
        by_cases hkl : k < n
        · have ckl : ¬ (k : Int) = (n : Int) := by omega
          have ckl2 : (k : Int) < (n : Int) := by omega
          have hB := hBk hkl
          obtain ⟨bb, off, rfl, hbw6, hcell⟩ := HRd.out.pos (show 0 < n by omega)
          have e0 : wy.cell? ⟨bb, off + k, none⟩ = _ := (hbx.cell (p := ⟨bb, off + k, none⟩) hbw6).trans ((hcell k (by have := HRd.out.len; omega)).trans (hcx hkl))
          have hxla := hxl hkl
          go_upto_region 20 with fail
          go_cut [153] (fun z wz => z = .bool false ∧ wz = wy)
          case first =>
            have cxl : ¬ (x : Int) ≤ (la : Int) := by omega
            have cx37 : ¬ (37 : Int) < (x : Int) := by omega
            by_cases h0 : k = 0
            · have c0 : ¬ (0 : Int) < (k : Int) := by omega
              clear h0
              go_wp2_with fail
              go_meet
              exact ⟨rfl, rfl⟩
            · have c0 : (0 : Int) < (k : Int) := by omega
              have hpp := hpb.2 (by omega)
              have HO1 := Lib.hid (fun W => ours_any pa (by omega) sd hsk W)
              have HO2 := Lib.hid (fun W => ours_any P (by omega) sd hsk W)
              have hge : ¬ wo sd P < wo sd pa := by omega
              generalize wo sd P = P1 at HO2 hpp hge
              generalize wo sd pa = P2 at HO1 hpp hge
              clear h0
              go_wp2_with fail
              refine (HO1.out _).mono ?_
              rintro ee wa ⟨rfl, rfl⟩
              go_wp2_with fail
              refine (HO2.out _).mono ?_
              rintro ee wa ⟨rfl, rfl⟩
              go_wp2_with fail
              go_meet
              exact ⟨congrArg Value.bool (by simp only [Bool.or_eq_false_iff, decide_eq_false_iff_not]; omega), rfl⟩
          case rest =>
          obtain ⟨rfl, rfl⟩ := hcut
          rename World => wy
          go_upto_region 22 with fail
          have HFi := Lib.hid (fun W hW => pfinal_ok C t HC.out v x sd hv3 hB.1 hB.2.1 hsk HR.out W hW)
          have hO1 := fun h => hOk x sd h rfl rfl
          have hfin : finG t v x sd = finF t v x sd := if_pos ⟨hB.1, hB.2.1, hsk⟩
          have hLk2 : n = k + 1 → finF t v x sd = P := fun h => by rw [← hfin]; exact hLk h
          rw [hfin] at hnp
          have hfb := finF_bd t HR.out v x sd hB.1 hB.2.1 hsk
          unfold ocV at HFi
          generalize finF t v x sd = F at HFi hnp hLk2 hfb
          generalize lvl x = z1 at HFi hO1
          generalize rsk t x sd = z3 at HFi hO1
          generalize bstN t (dnm x) sd = z5 at HFi hO1
          generalize bstS t (dnm x) sd = z4 at HFi hO1
          generalize dnm x = z2 at HFi hO1
          have HKy := Lib.hid (blk_below HK.out hbx (blk_lt HK.out))
          have hbby : bb < wy.heap.size := Nat.lt_of_lt_of_le hbw6 hbx.size
          go_cut [22, 23, 24] (fun p q z wz => ∃ g2, p = .pointer (some ⟨g2, 0, none⟩) ∧ q = .int .i64 F ∧ z = .int .i64 0 ∧ wz.heap[g2]? = some (.cells #[.int .u8 z1, .int .u8 (z2 : Int), .int .u8 z3, .int .u8 (z4 : Int), .int .i64 z5, .int .i64 0] 30 (0, 0)) ∧ Below wy.heap.size wy wz)
          case first =>
            have ckl0 : (0 : Int) ≤ (k : Int) := by omega
            have HLy := Lib.hid (HL.out.go (below_via hB6 hbx))
            have HTK := Lib.hid (blk_lt HKy.out)
            clear HSB HSL HSO HF0 HOC hBk hLk hOk hcx hT1 hxl hnx hnp hfin hO1 hLk2 hcell hpb hlb hmb hm3
            refine wp_region_held_drew (S := (fun w1 => w1.heap[g]? = some (.cells C 25 (0, 0)) ∧ w1.cell? ⟨bb, off + k, none⟩ = some (.int .u8 (x : Int)))) (by kernel_rfl) ⟨HKy.out, e0⟩ (fun hHeld => ?_)
            refine take_named (i := 0) (d := 155) (v := .agg C) rfl (by kernel_rfl) (by kernel_rfl) (by kernel_rfl) (by kernel_rfl) (fun _ _ _ h => h) (yieldsIf_load_row (by kernel_rfl) 25 (.tmp 7) rfl g rfl 25 C (0, 0) _ (fun w h => h.1) Tryd.underlying25 rfl HC.out.info) (by assumption) ?_
            (try simp only [Act.put, List.setIfInBounds_toArray, List.set_cons_zero, List.set_cons_succ])
            refine take_named (i := 1) (d := 156) (v := ?v1) rfl (by kernel_rfl) (by kernel_rfl) (by kernel_rfl) (by kernel_rfl) (fun _ _ _ h => h) (Or.inl ⟨by kernel_rfl, ?vy1⟩) (by assumption) ?_
            case vy1 => intro wq hSw; (try dsimp only at hSw); go_simp; (try with_reducible rfl)
            (try simp only [Act.put, List.setIfInBounds_toArray, List.set_cons_zero, List.set_cons_succ])
            refine take_named (i := 2) (d := 157) (v := ?v2) rfl (by kernel_rfl) (by kernel_rfl) (by kernel_rfl) (by kernel_rfl) (fun _ _ _ h => h) (Or.inl ⟨by kernel_rfl, ?vy2⟩) (by assumption) ?_
            case vy2 => intro wq hSw; (try dsimp only at hSw); go_simp; (try with_reducible rfl)
            (try simp only [Act.put, List.setIfInBounds_toArray, List.set_cons_zero, List.set_cons_succ])
            refine take_named (i := 3) (d := 158) (v := ?v3) rfl (by kernel_rfl) (by kernel_rfl) (by kernel_rfl) (by kernel_rfl) (fun _ _ _ h => h) (Or.inl ⟨by kernel_rfl, ?vy3⟩) (by assumption) ?_
            case vy3 => intro wq hSw; (try dsimp only at hSw); go_simp; (try with_reducible rfl)
            (try simp only [Act.put, List.setIfInBounds_toArray, List.set_cons_zero, List.set_cons_succ])
            refine take_named (i := 4) (d := 159) (v := ?v4) rfl (by kernel_rfl) (by kernel_rfl) (by kernel_rfl) (by kernel_rfl) (fun _ _ _ h => h) (Or.inl ⟨by kernel_rfl, ?vy4⟩) (by assumption) ?_
            case vy4 => intro wq hSw; (try dsimp only at hSw); go_simp; (try with_reducible rfl)
            (try simp only [Act.put, List.setIfInBounds_toArray, List.set_cons_zero, List.set_cons_succ])
            refine take_named (i := 5) (d := 160) (v := ?v5) rfl (by kernel_rfl) (by kernel_rfl) (by kernel_rfl) (by kernel_rfl) (fun _ _ _ h => h) (Or.inl ⟨by kernel_rfl, ?vy5⟩) (by assumption) ?_
            case vy5 => intro wq hSw; (try dsimp only at hSw); go_simp; (try with_reducible rfl)
            (try simp only [Act.put, List.setIfInBounds_toArray, List.set_cons_zero, List.set_cons_succ])
            refine take_named (i := 6) (d := 161) (v := ?v6) rfl (by kernel_rfl) (by kernel_rfl) (by kernel_rfl) (by kernel_rfl) (fun _ _ _ h => h) (Or.inl ⟨by kernel_rfl, ?vy6⟩) (by assumption) ?_
            case vy6 => intro wq hSw; (try dsimp only at hSw); go_simp; (try with_reducible rfl)
            (try simp only [Act.put, List.setIfInBounds_toArray, List.set_cons_zero, List.set_cons_succ])
            have hdr : Below wy.heap.size wy wy.drew := (Below.refl _ _).drew
            refine wpAnyH_ready (rs := [7, 12]) (by kernel_rfl) (by simp) ?_
            refine AllReadyH.cons rfl (fun K hK => ?_) (AllReadyH.cons rfl (fun K hK => ?_) AllReadyH.nil)
            · as_aux_lemma =>
                go_simp
                refine (HFi.out _ (HLy.out.go hdr)).mono ?_
                rintro ee w5 ⟨rfl, hb5⟩
                have hbq : Below wy.heap.size wy w5 := hdr.trans (hb5.mono hdr.size)
                refine hK.out _ _ ⟨blk_below HKy.out hbq HTK.out, keepB0 hbq hbby e0⟩ (fun hHeld1 => ?_)
                clear hK K hHeld
                (try simp only [Act.put, List.setIfInBounds_toArray, List.set_cons_zero, List.set_cons_succ])
                refine take_named (i := 8) (d := 154) (v := ?a8) rfl (by kernel_rfl) (by kernel_rfl) (by kernel_rfl) (by kernel_rfl) (fun _ _ _ h => h) (Or.inl ⟨by kernel_rfl, ?ay8⟩) (by assumption) ?_
                case ay8 => intro wq hSw; (try dsimp only at hSw); go_simp; (try with_reducible rfl)
                (try simp only [Act.put, List.setIfInBounds_toArray, List.set_cons_zero, List.set_cons_succ])
                refine take_named (i := 9) (d := 163) (v := ?a9) rfl (by kernel_rfl) (by kernel_rfl) (by kernel_rfl) (by kernel_rfl) (fun _ _ _ h => h) (Or.inl ⟨by kernel_rfl, ?ay9⟩) (by assumption) ?_
                case ay9 => intro wq hSw; (try dsimp only at hSw); go_simp; (try with_reducible rfl)
                (try simp only [Act.put, List.setIfInBounds_toArray, List.set_cons_zero, List.set_cons_succ])
                refine take_named (i := 10) (d := 164) (v := ?a10) rfl (by kernel_rfl) (by kernel_rfl) (by kernel_rfl) (by kernel_rfl) (fun _ _ _ h => h) (Or.inl ⟨by kernel_rfl, ?ay10⟩) (by assumption) ?_
                case ay10 => intro wq hSw; (try dsimp only at hSw); go_simp; (try with_reducible rfl)
                (try simp only [Act.put, List.setIfInBounds_toArray, List.set_cons_zero, List.set_cons_succ])
                refine take_named (i := 11) (d := 165) (v := ?a11) rfl (by kernel_rfl) (by kernel_rfl) (by kernel_rfl) (by kernel_rfl) (fun _ _ _ h => h) (Or.inl ⟨by kernel_rfl, ?ay11⟩) (by assumption) ?_
                case ay11 => intro wq hSw; (try dsimp only at hSw); go_simp; (try with_reducible rfl)
                (try simp only [Act.put, List.setIfInBounds_toArray, List.set_cons_zero, List.set_cons_succ])
                obtain ⟨W5a, hW5a⟩ : ∃ W5a, w5.alloc (.cells #[.int .u8 0, .int .u8 0, .int .u8 0, .int .u8 0, .int .i64 0, .int .i64 0] 30) = W5a := ⟨_, rfl⟩
                have hbq2 : Below wy.heap.size wy W5a := by rw [← hW5a]; exact hbq.alloc hbq.size _
                have KN := Lib.hid (show W5a.heap[w5.heap.size]? = some (.cells #[.int .u8 0, .int .u8 0, .int .u8 0, .int .u8 0, .int .i64 0, .int .i64 0] 30 (0, 0)) by rw [← hW5a]; exact blk_new _ rfl)
                have hszq := hbq.size
                have HWa := Lib.hid hW5a
                clear hW5a
                refine wpAnyH_ready (rs := [12]) (by kernel_rfl) (by simp) ?_
                refine AllReadyH.cons rfl (fun K hK => ?_) AllReadyH.nil
                go_simp
                rw [HWa.out]
                refine hK.out _ _ ⟨blk_below HKy.out hbq2 HTK.out, keepB0 hbq2 hbby e0⟩ (fun hHeld2 => ?_)
                clear hK K hHeld1
                (try simp only [Act.put, List.setIfInBounds_toArray, List.set_cons_zero, List.set_cons_succ])
                generalize w5.heap.size = gn at *
                have K2 := KN.out
                have r0 := blk_cell K2 0
                have f0 := blk_free K2 0
                have r1 := blk_cell K2 1
                have f1 := blk_free K2 1
                have r2 := blk_cell K2 2
                have f2 := blk_free K2 2
                have r3 := blk_cell K2 3
                have f3 := blk_free K2 3
                have r4 := blk_cell K2 4
                have f4 := blk_free K2 4
                have r5 := blk_cell K2 5
                have f5 := blk_free K2 5
                obtain ⟨W6z, hW6z⟩ : ∃ W6z, (((((W5a.setCell ⟨gn, 0, none⟩ (.int .u8 z1)).setCell ⟨gn, 1, none⟩ (.int .u8 (z2 : Int))).setCell ⟨gn, 2, none⟩ (.int .u8 z3)).setCell ⟨gn, 3, none⟩ (.int .u8 (z4 : Int))).setCell ⟨gn, 4, none⟩ (.int .i64 z5)).setCell ⟨gn, 5, none⟩ (.int .i64 0) = W6z := ⟨_, rfl⟩
                have HK6 := Lib.hid (show W6z.heap[gn]? = some (.cells #[.int .u8 z1, .int .u8 (z2 : Int), .int .u8 z3, .int .u8 (z4 : Int), .int .i64 z5, .int .i64 0] 30 (0, 0)) by rw [← hW6z]; exact blk_set (blk_set (blk_set (blk_set (blk_set (blk_set K2 0 _) 1 _) 2 _) 3 _) 4 _) 5 _)
                have hBz2 : Below wy.heap.size wy W6z := by rw [← hW6z]; exact six_set hbq2 (by omega)
                have HS6 := Lib.hid (show W6z.heap[g]? = some (.cells C 25 (0, 0)) ∧ W6z.cell? ⟨bb, off + k, none⟩ = some (.int .u8 (x : Int)) from ⟨blk_below HKy.out hBz2 (blk_lt HKy.out), keepB0 hBz2 hbby e0⟩)
                have HBz2 := Lib.hid hBz2
                have HW6 := Lib.hid hW6z
                clear hW6z K2 hBz2
                refine wpAnyH_ready (rs := [13]) (by kernel_rfl) (by simp) ?_
                refine AllReadyH.cons rfl (fun K hK => ?_) AllReadyH.nil
                go_simp
                rw [HW6.out]
                refine hK.out _ _ HS6.out (fun hHeld9 => ?_)
                clear hK K
                (try simp only [Act.put, List.setIfInBounds_toArray, List.set_cons_zero, List.set_cons_succ])
                refine take_named (i := 14) (d := 23) (v := ?aq14) rfl (by kernel_rfl) (by kernel_rfl) (by kernel_rfl) (by kernel_rfl) (fun _ _ _ h => h) (Or.inl ⟨by kernel_rfl, ?aqy14⟩) (by assumption) ?_
                case aqy14 => intro wq hSw; (try dsimp only at hSw); go_simp; (try with_reducible rfl)
                (try simp only [Act.put, List.setIfInBounds_toArray, List.set_cons_zero, List.set_cons_succ])
                refine take_named (i := 15) (d := 24) (v := ?aq15) rfl (by kernel_rfl) (by kernel_rfl) (by kernel_rfl) (by kernel_rfl) (fun _ _ _ h => h) (Or.inl ⟨by kernel_rfl, ?aqy15⟩) (by assumption) ?_
                case aqy15 => intro wq hSw; (try dsimp only at hSw); go_simp; (try with_reducible rfl)
                (try simp only [Act.put, List.setIfInBounds_toArray, List.set_cons_zero, List.set_cons_succ])
                refine wpAnyH_done (by kernel_rfl) ?_ _
                go_wp2_with fail
                go_meet
                exact ⟨gn, rfl, rfl, rfl, HK6.out, HBz2.out⟩
            · as_aux_lemma =>
                obtain ⟨W5a, hW5a⟩ : ∃ W5a, (wy.alloc (.cells #[.int .u8 0, .int .u8 0, .int .u8 0, .int .u8 0, .int .i64 0, .int .i64 0] 30)).drew = W5a := ⟨_, rfl⟩
                have hbq : Below wy.heap.size wy W5a := by rw [← hW5a]; exact ((Below.refl _ _).alloc (Nat.le_refl _) _).drew
                have KN := Lib.hid (show W5a.heap[wy.heap.size]? = some (.cells #[.int .u8 0, .int .u8 0, .int .u8 0, .int .u8 0, .int .i64 0, .int .i64 0] 30 (0, 0)) by rw [← hW5a]; exact (blk_new (w := wy) _ rfl))
                have HWa := Lib.hid hW5a
                clear hW5a
                go_simp
                rw [HWa.out]
                refine hK.out _ _ ⟨blk_below HKy.out hbq HTK.out, keepB0 hbq hbby e0⟩ (fun hHeld1 => ?_)
                clear hK K hHeld
                (try simp only [Act.put, List.setIfInBounds_toArray, List.set_cons_zero, List.set_cons_succ])
                refine wpAnyH_ready (rs := [7]) (by kernel_rfl) (by simp) ?_
                refine AllReadyH.cons rfl (fun K hK => ?_) AllReadyH.nil
                go_simp
                refine (HFi.out _ (HLy.out.go hbq)).mono ?_
                rintro ee w5 ⟨rfl, hb5⟩
                have hbq2 : Below wy.heap.size wy w5 := hbq.trans (hb5.mono hbq.size)
                have KN2 := Lib.hid (blk_below KN.out hb5 (blk_lt KN.out))
                refine hK.out _ _ ⟨blk_below HKy.out hbq2 HTK.out, keepB0 hbq2 hbby e0⟩ (fun hHeld2 => ?_)
                clear hK K hHeld1
                (try simp only [Act.put, List.setIfInBounds_toArray, List.set_cons_zero, List.set_cons_succ])
                refine take_named (i := 8) (d := 154) (v := ?b8) rfl (by kernel_rfl) (by kernel_rfl) (by kernel_rfl) (by kernel_rfl) (fun _ _ _ h => h) (Or.inl ⟨by kernel_rfl, ?by8⟩) (by assumption) ?_
                case by8 => intro wq hSw; (try dsimp only at hSw); go_simp; (try with_reducible rfl)
                (try simp only [Act.put, List.setIfInBounds_toArray, List.set_cons_zero, List.set_cons_succ])
                refine take_named (i := 9) (d := 163) (v := ?b9) rfl (by kernel_rfl) (by kernel_rfl) (by kernel_rfl) (by kernel_rfl) (fun _ _ _ h => h) (Or.inl ⟨by kernel_rfl, ?by9⟩) (by assumption) ?_
                case by9 => intro wq hSw; (try dsimp only at hSw); go_simp; (try with_reducible rfl)
                (try simp only [Act.put, List.setIfInBounds_toArray, List.set_cons_zero, List.set_cons_succ])
                refine take_named (i := 10) (d := 164) (v := ?b10) rfl (by kernel_rfl) (by kernel_rfl) (by kernel_rfl) (by kernel_rfl) (fun _ _ _ h => h) (Or.inl ⟨by kernel_rfl, ?by10⟩) (by assumption) ?_
                case by10 => intro wq hSw; (try dsimp only at hSw); go_simp; (try with_reducible rfl)
                (try simp only [Act.put, List.setIfInBounds_toArray, List.set_cons_zero, List.set_cons_succ])
                refine take_named (i := 11) (d := 165) (v := ?b11) rfl (by kernel_rfl) (by kernel_rfl) (by kernel_rfl) (by kernel_rfl) (fun _ _ _ h => h) (Or.inl ⟨by kernel_rfl, ?by11⟩) (by assumption) ?_
                case by11 => intro wq hSw; (try dsimp only at hSw); go_simp; (try with_reducible rfl)
                (try simp only [Act.put, List.setIfInBounds_toArray, List.set_cons_zero, List.set_cons_succ])
                have K2 := KN2.out
                have r0 := blk_cell K2 0
                have f0 := blk_free K2 0
                have r1 := blk_cell K2 1
                have f1 := blk_free K2 1
                have r2 := blk_cell K2 2
                have f2 := blk_free K2 2
                have r3 := blk_cell K2 3
                have f3 := blk_free K2 3
                have r4 := blk_cell K2 4
                have f4 := blk_free K2 4
                have r5 := blk_cell K2 5
                have f5 := blk_free K2 5
                obtain ⟨W6z, hW6z⟩ : ∃ W6z, (((((w5.setCell ⟨wy.heap.size, 0, none⟩ (.int .u8 z1)).setCell ⟨wy.heap.size, 1, none⟩ (.int .u8 (z2 : Int))).setCell ⟨wy.heap.size, 2, none⟩ (.int .u8 z3)).setCell ⟨wy.heap.size, 3, none⟩ (.int .u8 (z4 : Int))).setCell ⟨wy.heap.size, 4, none⟩ (.int .i64 z5)).setCell ⟨wy.heap.size, 5, none⟩ (.int .i64 0) = W6z := ⟨_, rfl⟩
                have HK6 := Lib.hid (show W6z.heap[wy.heap.size]? = some (.cells #[.int .u8 z1, .int .u8 (z2 : Int), .int .u8 z3, .int .u8 (z4 : Int), .int .i64 z5, .int .i64 0] 30 (0, 0)) by rw [← hW6z]; exact blk_set (blk_set (blk_set (blk_set (blk_set (blk_set K2 0 _) 1 _) 2 _) 3 _) 4 _) 5 _)
                have hBz2 : Below wy.heap.size wy W6z := by rw [← hW6z]; exact six_set hbq2 (by omega)
                have HS6 := Lib.hid (show W6z.heap[g]? = some (.cells C 25 (0, 0)) ∧ W6z.cell? ⟨bb, off + k, none⟩ = some (.int .u8 (x : Int)) from ⟨blk_below HKy.out hBz2 (blk_lt HKy.out), keepB0 hBz2 hbby e0⟩)
                have HBz2 := Lib.hid hBz2
                have HW6 := Lib.hid hW6z
                clear hW6z K2 hBz2
                refine wpAnyH_ready (rs := [13]) (by kernel_rfl) (by simp) ?_
                refine AllReadyH.cons rfl (fun K hK => ?_) AllReadyH.nil
                go_simp
                rw [HW6.out]
                refine hK.out _ _ HS6.out (fun hHeld9 => ?_)
                clear hK K
                (try simp only [Act.put, List.setIfInBounds_toArray, List.set_cons_zero, List.set_cons_succ])
                refine take_named (i := 14) (d := 23) (v := ?bq14) rfl (by kernel_rfl) (by kernel_rfl) (by kernel_rfl) (by kernel_rfl) (fun _ _ _ h => h) (Or.inl ⟨by kernel_rfl, ?bqy14⟩) (by assumption) ?_
                case bqy14 => intro wq hSw; (try dsimp only at hSw); go_simp; (try with_reducible rfl)
                (try simp only [Act.put, List.setIfInBounds_toArray, List.set_cons_zero, List.set_cons_succ])
                refine take_named (i := 15) (d := 24) (v := ?bq15) rfl (by kernel_rfl) (by kernel_rfl) (by kernel_rfl) (by kernel_rfl) (fun _ _ _ h => h) (Or.inl ⟨by kernel_rfl, ?bqy15⟩) (by assumption) ?_
                case bqy15 => intro wq hSw; (try dsimp only at hSw); go_simp; (try with_reducible rfl)
                (try simp only [Act.put, List.setIfInBounds_toArray, List.set_cons_zero, List.set_cons_succ])
                refine wpAnyH_done (by kernel_rfl) ?_ _
                go_wp2_with fail
                go_meet
                exact ⟨wy.heap.size, rfl, rfl, rfl, HK6.out, HBz2.out⟩
          case rest =>
          obtain ⟨g2, rfl, rfl, rfl, K2, hbz⟩ := hcut
          rename World => wz
          have hbxz := hbx.trans (hbz.mono hbx.size)
          have K6 := blk_below HO.out hbxz (blk_lt HO.out)
          have a0 := blk_cell K6 0
          have a1 := blk_cell K6 1
          have a2 := blk_cell K6 2
          have a3 := blk_cell K6 3
          have a4 := blk_cell K6 4
          have a5 := blk_cell K6 5
          have b0 := blk_cell K2 0
          have b1 := blk_cell K2 1
          have b2 := blk_cell K2 2
          have b3 := blk_cell K2 3
          have b4 := blk_cell K2 4
          have b5 := blk_cell K2 5
          have e0z : wz.cell? ⟨bb, off + k, none⟩ = some (.int .u8 (x : Int)) := keepB0 hbz hbby e0
          obtain ⟨sr, hsr⟩ : ∃ sr : Nat, 1 - sd = sr := ⟨_, rfl⟩
          have hsr1 : (1 : Int) - (sd : Int) = (sr : Int) := by omega
          have hsk2 : sideAt S (k + 1) = sr := by omega
          have hnB : Below W6.heap.size W6 wz := hbxz
          by_cases hke : n = k + 1
          · as_aux_lemma =>
              have hn1 : IntKind.i64.wrap ((n : Int) - 1) = (k : Int) := (IntWalk.i64_in _ (by omega)).trans (by omega)
              obtain ⟨rfl, rfl, rfl, hyz, rfl, rfl⟩ := hO1 hke
              have hFP := hLk2 hke
              subst hFP
              rw [hyz] at a3
              clear HSB HSL HSO HF0 HOC hBk hLk hOk hcx hT1 hxl hO1 hLk2 hcell hpb hlb hmb hm3 K6 K2
              go_upto_region 25 with fail
              go_wp2
              go_roundw
              case rel => exact ⟨k + 1, by omega, by go_num, by rw [hnx], by rw [hnp], by rw [hsk2], hnB⟩
              case measure => simp [intOf]; omega
          · as_aux_lemma =>
              have hn1 : IntKind.i64.wrap ((n : Int) - 1) = (n : Int) - 1 := IntWalk.i64_in _ (by omega)
              have ckn : ¬ (k : Int) = (n : Int) - 1 := by omega
              clear HSB HSL HSO HF0 HOC hBk hLk hOk hcx hT1 hxl hO1 hLk2 hcell hpb hlb hmb hm3 K6 K2
              go_upto_region 25 with fail
              go_wp2
              go_roundw
              case rel => exact ⟨k + 1, by omega, by go_num, by rw [hnx], by rw [hnp], by rw [hsk2], hnB⟩
              case measure => simp [intOf]; omega
        · as_aux_lemma =>
            have hkn2 : k = n := by omega
            have ckn : (k : Int) = (n : Int) := by omega
            have K6 := blk_below HO.out hbx (blk_lt HO.out)
            have a0 := blk_cell K6 0
            have a1 := blk_cell K6 1
            have a2 := blk_cell K6 2
            have a3 := blk_cell K6 3
            have a4 := blk_cell K6 4
            have a5 := blk_cell K6 5
            have hBx := below_via hB6 hbx
            have HAw := Lib.hid (awake18 wy (HL.out.go hBx))
            by_cases h0 : n = 0
            · obtain ⟨rfl, rfl, rfl, hy0, rfl, rfl⟩ := HOC.out.1 h0
              have hP0 := (HF0.out h0).2
              rw [hy0] at a3
              subst hP0
              have c0 : ¬ (0 : Int) < (n : Int) := by omega
              clear h0 K6
              go_wp2_with fail
              refine HAw.out.mono ?_
              rintro ee wc ⟨rfl, hb12⟩
              have hBz := Lib.hid (below_via hBx hb12)
              go_wp2
              go_ret
              exact ⟨rfl, hBz.out⟩
            · have c0 : (0 : Int) < (n : Int) := by omega
              clear h0 K6
              go_wp2_with fail
              refine HAw.out.mono ?_
              rintro ee wc ⟨rfl, hb12⟩
              have hBz := Lib.hid (below_via hBx hb12)
              go_wp2
              go_ret
              exact ⟨rfl, hBz.out⟩

end Go.Proofs.YtilekdjjfdehcaaDoor
