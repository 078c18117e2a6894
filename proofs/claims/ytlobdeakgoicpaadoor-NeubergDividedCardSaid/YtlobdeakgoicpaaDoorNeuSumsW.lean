/- The walk of the statement NeubergSums. (Written by gennsums.py out of MatSumsW.) -/
import Derived.Test.YtlobdeakgoicpaaDoorNeuAwakeW
import Derived.Test.YtlobdeakgoicpaaDoorMatMadeW
namespace Go.Proofs.YtlobdeakgoicpaaDoor
open Go.RowKit

theorem adjL_sm (L : List (List Pt)) (hL : ∀ o ∈ L, rightM o = true) (all : Int) (hn : L.length ≤ 24) (ha : (L.length : Int) ≤ all ∧ all ≤ 24) : ∀ f ∈ adjL L all, smF f := by
  intro f hf
  obtain ⟨k, hk, rfl⟩ := List.getElem_of_mem hf
  rw [adjL_len] at hk
  rw [adjL_pt L all k hk]
  exact (adj_rng L hL all hn ha k hk).2.2.2.1
theorem lt_alloc {W : World} {n : Nat} (h : n < W.heap.size) (o : Obj) : n < (W.alloc o).heap.size := by simp; omega
theorem ne_new {W : World} {n : Nat} (h : n < W.heap.size) : W.heap.size ≠ n := by omega
theorem turn_snoc (L : List (List Pt)) (k : Nat) (h : k < L.length) : turnL (L.take (k + 1)) = turnL (L.take k) ++ [negP L[k]] := by
  unfold turnL; rw [List.take_succ_eq_append_getElem h, List.map_append]; rfl

set_option maxHeartbeats 4000000 in
set_option maxRecDepth 100000 in
theorem nsums_walk (S : List Sm) (more : Int) (hmo : 0 ≤ more ∧ more ≤ 255) (A : Option Addr) (c : Nat) (w : World) (hL : Laid w) (hS : RdS w w.heap.size A S) (hok : ∀ s ∈ S, SmOk s) (hc : S.length ≤ c) (hm : c ≤ 9223372036854775807) :
    Calls Tryd.prog 10 #[.slice A S.length c, .int .u8 more] w fun e w' => e = .returned (.bool true) ∧ Below w.heap.size w w' := by
  obtain ⟨i0, hi, hz0, hz1, hz2⟩ := info_parts info_res
  have h0 := hL.lt
  have HL := Lib.hid hL
  have HM : Calls Tryd.prog 27 #[.slice A S.length c, .int .i64 24] w _ := all_any S 24 A c w hS hok hc hm (by decide)
  have HM := Lib.hid HM
  have hr := allL_right S 24
  have hn := allL_len S 24
  have hn24 : (allL S 24).length ≤ 24 := by rw [hn]; omega
  generalize allL S 24 = L at HM hr hn24
  have Hr := Lib.hid hr
  clear hL hS hok hc hm hn hr
  go_enter Tryd.func10, Tryd.ntmps10
  go_wp2_with fail
  refine HM.out.mono ?_
  rintro e w1 ⟨v, xs, rfl, ho1, hl1, hb1⟩
  obtain ⟨B, cb, rfl⟩ := own_form ho1
  have HA := Lib.hid (rdl_of_own ho1 hl1)
  have HL1 := Lib.hid (HL.out.below hb1 h0)
  have h1 := hb1.size
  have h01 := HL1.out.lt
  clear ho1 hl1 HM HL
  obtain ⟨M, hM⟩ : ∃ M : Int, max (L.length : Int) 1 = M := ⟨_, rfl⟩
  obtain ⟨q, hq⟩ : ∃ q : Int, M + more % 24 = q := ⟨_, rfl⟩
  obtain ⟨all, hall⟩ : ∃ a : Int, min q 24 = a := ⟨_, rfl⟩
  have halb : (1 ≤ all ∧ all ≤ 24) ∧ (L.length : Int) ≤ all := by omega
  have w1' : IntKind.i64.wrap (M + more % 24) = q := by rw [hq]; exact IntWalk.i64_in _ (by omega)
  go_upto_region 3 with fail
  clear w1' hM hq hall
  go_wp2_with fail
  go_loopw [7, 40] (fun v i wr => ∃ (k : Nat) (xs : List Value), k ≤ L.length ∧ i = .int .i64 (k : Int) ∧ wr.ownsRow w1.heap.size 35 1 v k xs ∧ Hid (OwnL wr w1.heap.size 80 v xs (turnL (L.take k))) ∧ Below w1.heap.size w1 wr) (fun _ i _ => L.length - (intOf i).toNat)
  case atStart => exact ⟨0, [], by omega, rfl, own_nil, OwnL.nil_, Below.refl _ _⟩
  case round =>
    obtain ⟨k, xs, hk, rfl, hown, hol, hbel⟩ := hrel
    have hsr := hbel.size
    by_cases hlt : k < L.length
    · obtain ⟨b, off, Ak, ck, rfl, hbw, hc1, hc2, hc3⟩ := HA.out k hlt
      have hd1 := (bcell hbel b (off + k) hbw).trans hc1
      have HQ := Lib.hid (turn_any L[k] Ak ck wr ((hc3.below hbel).more hsr) (Hr.out _ (List.getElem_mem hlt)))
      have Hs := Lib.hid (turn_snoc L k hlt)
      have hlen : (negP L[k]).length = (L[k]).length := by unfold negP; rw [List.length_map]
      obtain ⟨r, hr⟩ : ∃ r, negP L[k] = r := ⟨_, rfl⟩
      rw [hr] at HQ Hs hlen
      rw [← hlen] at HQ hd1
      clear hc1 hc2 hc3 hr hlen
      go_wp2_with fail
      refine HQ.out.mono ?_
      rintro e wa ⟨v1, rfl, ho1, hb1'⟩
      have s1 := hb1'.size
      have hown1 := own_below hown hb1' (Nat.le_refl _)
      have hol1 := Lib.hid (hol.out.below hb1')
      have hbel1 := hbel.trans (hb1'.mono hsr)
      have sw1 := hbel1.size
      have hap := Lib.hid (apart_new hown ho1 (Nat.le_refl _))
      obtain ⟨A1, c1, rfl⟩ := own_form ho1
      have ho1' := own_mono ho1 hsr
      have hsrc := Lib.hid (own_src ho1)
      clear hown hol hbel ho1 hb1'
      go_wp2_with (at_builtin; refine wpList_append_own_at _ rfl _ _ 33 rfl w1.heap.size 35 i0 (.slice none 0 0) 1 24 Tryd.underlying33 hi hz0 hz1 hz2 rfl (by decide) _ _ _ rfl (hown1.alloc _) _ 1 1 [.slice A1 r.length c1] rfl rfl ?c1 ?c2 ?c3 ?c4 ?c5 ?_)
      case c1 => exact cell_one_at _ _ _ _ (by simp)
      case c2 => simp [Value.oneCell']
      case c3 => unfold maxLen; omega
      case c4 => omega
      case c5 => simp; omega
      intro v2 w2 hown2 hgrow _ hat
      have hol2 := ((hol1.out.below ((Below.refl _ _).alloc (Nat.le_refl _) _)).snoc hsrc.out (ho1'.alloc _) hap.out).kept hgrow hat (by simp)
      have Hol2 := Lib.hid hol2
      have hb2 := (hbel1.alloc sw1 _).grown hgrow (by simp; omega) (fun g hg => (hown1.lt g hg).1)
      clear hol2
      go_wp2
      go_roundw
      case rel => exact ⟨k + 1, _, by omega, by go_num, hown2, by show OwnL _ _ _ _ _ (turnL (L.take (k + 1))); rw [Hs.out]; exact Hol2.out, hb2⟩
      case measure => simp [intOf]; omega
    · have t0 : decide ((k : Int) < (L.length : Int)) = false := decide_eq_false (by omega)
      obtain rfl : k = L.length := by omega
      rw [List.take_length] at hol
      obtain ⟨C, cc, rfl⟩ := own_form hown
      obtain ⟨w2, hw2⟩ : ∃ w2 : World, w2 = wr := ⟨_, rfl⟩
      rw [← hw2] at hown hol hbel hsr ⊢
      clear hw2
      have htl := turnL_len L
      have HT : RdL w2 w2.heap.size C (turnL L) := by
        refine rdl_of_own (c := cc) (xs := xs) (base := w1.heap.size) (e := 80) (base' := w1.heap.size) (e' := 35) ?_ ?_
        · rw [htl]; exact hown
        · rw [htl]; exact hol.out
      have HT := Lib.hid HT
      have HA2 := Lib.hid (HA.out.go hbel)
      have HL2 := Lib.hid (HL1.out.below hbel h01)
      have hB2 : Below w.heap.size w w2 := hb1.trans (hbel.mono h1)
      have h2 := hB2.size
      have Hrt := Lib.hid (turnL_right L Hr.out)
      clear hown hol hbel HA HL1 hb1 hsr
      have HP := Lib.hid (nfield L B cb all w2 HL2.out HA2.out halb.2 halb.1 Hr.out)
      go_wp2_with fail
      refine HP.out.mono ?_
      rintro e w3 ⟨v, rfl, ho3, hb3⟩
      obtain ⟨P, cp, rfl⟩ := own_form ho3
      have HP2 := Lib.hid (nfield (turnL L) C cc all w3 (HL2.out.below hb3 HL2.out.lt) (HT.out.go hb3) (by rw [htl]; exact halb.2) halb.1 Hrt.out)
      rw [htl] at HP2
      have s3 := hb3.size
      clear HP
      go_wp2_with fail
      refine HP2.out.mono ?_
      rintro e w4 ⟨v, rfl, ho4, hb4⟩
      obtain ⟨P2, cp2, rfl⟩ := own_form ho4
      have hpl := adjL_len L all
      have hpl2 : (adjL (turnL L) all).length = L.length := by rw [adjL_len, htl]
      have HR1 := Lib.hid ((show Rd w3 w3.heap.size 2 P (adjL L all).length (pC (adjL L all)) by rw [hpl]; exact Rd.of_own ho3).go hb4)
      have HR2 := Lib.hid (show Rd w4 w4.heap.size 2 P2 (adjL (turnL L) all).length (pC (adjL (turnL L) all)) by rw [hpl2]; exact Rd.of_own ho4)
      have hB4 : Below w.heap.size w w4 := (hB2.trans (hb3.mono h2)).trans (hb4.mono (by omega))
      have hb24 := hb3.trans (hb4.mono s3)
      have HL4 := Lib.hid (HL2.out.below hb24 HL2.out.lt)
      have HS := Lib.hid (fun (W : World) (hW : Below w4.heap.size w4 W) => sum_sm (adjL L all) P cp W (HR1.out.go hW) (by omega) (adjL_sm L Hr.out all (by omega) ⟨halb.2, halb.1.2⟩) (sumK_adj_sm L Hr.out all (by omega) ⟨halb.2, halb.1.2⟩))
      rw [sumK_adj_total L Hr.out all, hpl] at HS
      clear HP2 ho3 ho4 hb3 hb4 hB2 hb24 HT HA2 HL2
      have Hpl := Lib.hid hpl
      have Hpl2 := Lib.hid hpl2
      have Htl := Lib.hid htl
      have Hh2 := Lib.hid h2
      clear hpl hpl2 htl s3 h1 h2
      obtain ⟨s, hs⟩ : ∃ s : Int, (L.length : Int) * (all - 1) = s := ⟨_, rfl⟩
      rw [hs] at HS
      unfold fV at HS
      dsimp only at HS
      have HN := Lib.hid (fun W => nsum (L.length : Int) all W ⟨by omega, halb.2⟩ halb.1)
      rw [hs] at HN
      have HW := Lib.hid (fun W => q_any s 1 W)
      have hsb : 0 ≤ s ∧ s ≤ 24 * 24 := by rw [← hs]; exact ⟨Int.mul_nonneg (by omega) (by omega), Int.mul_le_mul (by omega) (by omega) (by omega) (by omega)⟩
      have a1 : IntKind.i64.wrap (all - 1) = all - 1 := IntWalk.i64_in _ (by omega)
      have a2 : IntKind.i64.wrap ((L.length : Int) * (all - 1)) = s := by rw [hs]; exact IntWalk.i64_in _ (by omega)
      have A1 := Lib.hid a1
      have A2 := Lib.hid a2
      have Hsv := Lib.hid hs
      clear hs a1 a2 hsb
      go_wp2_with fail
      refine (HS.out _ (Below.refl _ _)).mono ?_
      rintro e w5 ⟨rfl, hb5⟩
      go_upto_region 15 with fail
      obtain ⟨W6, hW6⟩ : ∃ W6, w5.alloc (.cells #[.int .i64 s, .int .i64 1] 23) = W6 := ⟨_, rfl⟩
      obtain ⟨G, hG⟩ : ∃ G, w5.heap.size = G := ⟨_, rfl⟩
      have hb6 : Below w4.heap.size w4 W6 := by rw [← hW6]; exact hb5.alloc hb5.size _
      have n6 : W6.heap[G]? = some (.cells #[.int .i64 s, .int .i64 1] 23) := by rw [← hW6]; exact blk_new _ hG.symm
      have s6 : W6.heap.size = G + 1 := by rw [← hW6]; simp; omega
      rw [hW6, hG]
      clear hW6 hG hb5
      go_wp2_with fail
      refine (HN.out _).mono ?_
      rintro ee we ⟨rfl, rfl⟩
      go_upto_region 16 with fail
      have q0 := blk_cell n6 0
      have q1 := blk_cell n6 1
      have lG : G < W6.heap.size := by omega
      have hd : Below W6.heap.size W6 W6.drew := (Below.refl _ _).drew
      have hnn : ((L.length : Int) != (L.length : Int)) = false := by simp
      have a1 := A1.out
      have a2 := A2.out
      go_region_held3 (fun w' => w'.cell? ⟨G, 0, none⟩ = some (.int .i64 s) ∧ w'.cell? ⟨G, 1, none⟩ = some (.int .i64 1)) ((first | exact ⟨q0, q1⟩ | exact ⟨keepB hbm lG q0, keepB hbm lG q1⟩))
        ((go_at_call 24; (with_reducible refine (HW.out _).mono ?_); rintro ee wm ⟨rfl, hbm0⟩; have hbm := hd.trans (hbm0.mono hd.size)))
      clear a1 a2
      have n6 := blk_below n6 hbm lG
      have hb7 := hb6.trans (hbm.mono (by have := hb6.size; omega))
      clear q0 q1 hb6 hbm hbm0 hd HN HW HS n6
      obtain ⟨t, ht⟩ : ∃ t : Int, 2 * (all - 1) = t := ⟨_, rfl⟩
      have htb : 0 ≤ t ∧ t ≤ 100 := by omega
      have Ht := Lib.hid ht
      have HWt := Lib.hid (fun W => q_any t 1 W)
      have a3 : IntKind.i64.wrap (2 * (all - 1)) = t := by rw [ht]; exact IntWalk.i64_in _ (by omega)
      have a1 := A1.out
      clear ht
      go_wp2_with fail
      refine (HWt.out _).mono ?_
      rintro ee wt ⟨rfl, hbt⟩
      have hb8 := hb7.trans (hbt.mono hb7.size)
      clear hb7 hbt a1 a3
      go_upto_region 19 with fail
      obtain ⟨W7, hW7⟩ : ∃ W7, wt.alloc (.cells #[.int .i64 t, .int .i64 1] 23) = W7 := ⟨_, rfl⟩
      obtain ⟨H, hH⟩ : ∃ H, wt.heap.size = H := ⟨_, rfl⟩
      have hb47 : Below w4.heap.size w4 W7 := by rw [← hW7]; exact hb8.alloc hb8.size _
      have n7 : W7.heap[H]? = some (.cells #[.int .i64 t, .int .i64 1] 23) := by rw [← hW7]; exact blk_new _ hH.symm
      have s7 : W7.heap.size = H + 1 := by rw [← hW7]; simp; omega
      (try rw [hW7]); (try rw [hH])
      clear hW7 hH hb8
      have s47 := hb47.size
      go_wp2_with fail
      go_loopw [123] (fun i wr => ∃ j : Nat, j ≤ L.length ∧ i = .int .i64 (j : Int) ∧ Below W7.heap.size W7 wr) (fun i _ => L.length - (intOf i).toNat)
      case atStart => exact ⟨0, by omega, rfl, Below.refl _ _⟩
      case round =>
        obtain ⟨j, hj, rfl, hbel⟩ := hrel
        have hsr := hbel.size
        by_cases hlt : j < L.length
        · have hVr := hb47.trans (hbel.mono s47)
          obtain ⟨pb, po, rfl, hpw, e0, e1⟩ := rd_p HR1.out j (by rw [Hpl.out]; exact hlt)
          obtain ⟨pb2, po2, rfl, hpw2, e2, e3⟩ := rd_p HR2.out j (by rw [Hpl2.out]; exact hlt)
          have d0 := (bcell hVr pb (po + j * 2) hpw).trans e0
          have d1 := (bcell hVr pb (po + j * 2 + 1) hpw).trans e1
          have d2 := (bcell hVr pb2 (po2 + j * 2) hpw2).trans e2
          have d3 := (bcell hVr pb2 (po2 + j * 2 + 1) hpw2).trans e3
          have htt : t = 2 * (all - 1) := Ht.out.symm
          have hf := adjL_sm L Hr.out all (by omega) ⟨halb.2, halb.1.2⟩ _ (List.getElem_mem (by rw [Hpl.out]; exact hlt : j < (adjL L all).length))
          have hg := adjL_sm (turnL L) Hrt.out all (by rw [Htl.out]; omega) ⟨by rw [Htl.out]; exact halb.2, halb.1.2⟩ _ (List.getElem_mem (by rw [Hpl2.out]; exact hlt : j < (adjL (turnL L) all).length))
          have HAd := Lib.hid (fun W => fadd_sm _ _ hf hg W)
          rw [adj_both L Hr.out all j hlt, ← htt] at HAd
          have HC1 := Lib.hid (fun W => fcmp_sm _ _ hf (sm_whole 0 (by omega)) W)
          have HC2 := Lib.hid (fun W => fcmp_sm _ _ hf (sm_whole t (by omega)) W)
          have hu := adj_low L Hr.out all (by omega) ⟨halb.2, halb.1.2⟩ j hlt
          have hv := adj_high L Hr.out all (by omega) ⟨halb.2, halb.1.2⟩ j hlt
          rw [← htt] at hv
          clear hf hg htt e0 e1 e2 e3
          generalize cmpF _ (0, 1) = u at HC1 hu
          generalize cmpF _ (t, 1) = v at HC2 hv
          generalize (adjL L all)[j]'_ = f at d0 d1 HAd HC1 HC2
          generalize (adjL (turnL L) all)[j]'_ = g at d2 d3 HAd
          obtain ⟨f1, f2⟩ := f
          obtain ⟨g1, g2⟩ := g
          unfold fV at HAd HC1 HC2
          dsimp only at HAd HC1 HC2 d0 d1 d2 d3
          have i0' : (0 : Int) ≤ (j : Int) := by omega
          have i1' : (j : Int) < (L.length : Int) := by omega
          have HW0 := Lib.hid (fun W => q_any 0 1 W)
          have svr := hVr.size
          have l1 : pb < wr.heap.size := by omega
          have l2 : pb2 < wr.heap.size := by omega
          have m7 := blk_below n7 hbel (by omega)
          have lH : H < wr.heap.size := by omega
          have Hbr := Lib.hid hbel
          clear hbel hVr
          go_upto_region 22 with fail
          go_cut [22, 23] (fun v ev wx => ev = .int .i64 0 ∧ ∃ g : Nat, v = .pointer (some ⟨g, 0, none⟩) ∧ wx.cell? ⟨g, 0, none⟩ = some (.int .i64 t) ∧ wx.cell? ⟨g, 1, none⟩ = some (.int .i64 1) ∧ g < wx.heap.size ∧ Below wr.heap.size wr wx)
          case first =>
            have HK := Lib.hid (fun (w' : World) (h : ∀ (p : Addr) (v : Value), p.block < wr.heap.size → wr.cell? p = some v → w'.cell? p = some v) => (show w'.cell? ⟨pb, po + j * 2, none⟩ = some (.int .i64 f1) ∧ w'.cell? ⟨pb, po + j * 2 + 1, none⟩ = some (.int .i64 f2) ∧ w'.cell? ⟨pb2, po2 + j * 2, none⟩ = some (.int .i64 g1) ∧ w'.cell? ⟨pb2, po2 + j * 2 + 1, none⟩ = some (.int .i64 g2) from ⟨h _ _ l1 d0, h _ _ l1 d1, h _ _ l2 d2, h _ _ l2 d3⟩))
            have HF := Lib.hid ((HAd.out (wr.alloc (.cells #[.int .i64 0, .int .i64 0] 23)).drew).mono fun ee wa (h : ee = .returned (.tuple #[.agg #[.int .i64 t, .int .i64 1], .int .i64 0]) ∧ Below (wr.alloc (.cells #[.int .i64 0, .int .i64 0] 23)).drew.heap.size (wr.alloc (.cells #[.int .i64 0, .int .i64 0] 23)).drew wa) =>
              (show (ee = .returned (.tuple #[.agg #[.int .i64 t, .int .i64 1], .int .i64 0]) ∧ Below (wr.alloc (.cells #[.int .i64 0, .int .i64 0] 23)).drew.heap.size (wr.alloc (.cells #[.int .i64 0, .int .i64 0] 23)).drew wa ∧ _) from ⟨h.1, h.2, frame2 (W := wr.alloc (.cells #[.int .i64 0, .int .i64 0] 23)) (t := 23) (g := wr.heap.size) (x := .int .i64 0) (y := .int .i64 0) (blk_new _ rfl) h.2 (by simp)⟩))
            clear HC1 HC2 HW0 m7 n7 HR1 HR2
            go_region_held3 (fun w' => w'.cell? ⟨pb, po + j * 2, none⟩ = some (.int .i64 f1) ∧ w'.cell? ⟨pb, po + j * 2 + 1, none⟩ = some (.int .i64 f2) ∧ w'.cell? ⟨pb2, po2 + j * 2, none⟩ = some (.int .i64 g1) ∧ w'.cell? ⟨pb2, po2 + j * 2 + 1, none⟩ = some (.int .i64 g2)) ((first | exact HK.out _ (fun p v l h => h) | exact HK.out _ (fun p v l h => keepC h _) | exact HK.out _ (fun p v l h => keepB hba l h) | exact HK.out _ (fun p v l h => keepB hba (lt_alloc l _) (keepC h _)) | exact HK.out _ (fun p v l h => keepA hba l h _) | exact HK.out _ (fun p v l h => keepS (keepS (keepB hba (lt_alloc l _) (keepC h _)) (ne_new l) _) (ne_new l) _) | go_keep))
              ((first | (go_at_call 25; (refine HF.out.mono ?_); rintro ee wa ⟨rfl, hba, hblk2, hc0, hc1, hf0, hf1⟩) | (go_at_call 25; (with_reducible refine (HAd.out _).mono ?_); rintro ee wa ⟨rfl, hba⟩)))
            all_goals (go_wp2_with fail)
            all_goals go_meet
            all_goals (first
              | exact ⟨rfl, wa.heap.size, rfl, blk_cell (blk_new _ rfl) 0, blk_cell (blk_new _ rfl) 1, by simp, ((Below.refl _ _).drew.trans (hba.mono (Nat.le_refl _))).alloc hba.size _⟩
              | exact ⟨rfl, wr.heap.size, rfl, blk_cell (blk_set (blk_set hblk2 0 _) 1 _) 0, blk_cell (blk_set (blk_set hblk2 0 _) 1 _) 1, blk_lt (blk_set (blk_set hblk2 0 _) 1 _), ((((Below.refl _ _).alloc (Nat.le_refl _) _).drew.trans (hba.mono (by simp))).setCell (Nat.le_refl _) _).setCell (Nat.le_refl _) _⟩)
          case rest =>
            obtain ⟨rfl, g7, rfl, x0, x1, hl7, hbx⟩ := hcut
            rename World => W8
            have d0 := keepB hbx l1 d0
            have d1 := keepB hbx l1 d1
            have m7 := blk_below m7 hbx lH
            have sx := hbx.size
            have l1 : pb < W8.heap.size := by omega
            have lH : H < W8.heap.size := by omega
            have hb8 := Hbr.out.trans (hbx.mono hsr)
            have hd : Below W8.heap.size W8 W8.drew := (Below.refl _ _).drew
            have HK := Lib.hid (fun (w' : World) (h : Below W8.heap.size W8 w') => (show w'.cell? ⟨pb, po + j * 2, none⟩ = some (.int .i64 f1) ∧ w'.cell? ⟨pb, po + j * 2 + 1, none⟩ = some (.int .i64 f2) from ⟨keepB h l1 d0, keepB h l1 d1⟩))
            clear hbx HAd d2 d3 HR1 HR2 n7 Hbr
            go_upto_region 23 with fail
            go_region_held3 (fun w' => w'.cell? ⟨pb, po + j * 2, none⟩ = some (.int .i64 f1) ∧ w'.cell? ⟨pb, po + j * 2 + 1, none⟩ = some (.int .i64 f2)) ((first | exact ⟨d0, d1⟩ | exact HK.out _ hbn | exact HK.out _ hbm))
              ((first | (go_at_call 24; (with_reducible refine (HW0.out _).mono ?_); rintro ee wm ⟨rfl, hbm0⟩; have hbm := hd.trans (hbm0.mono hd.size)) | (go_at_call 29; (with_reducible refine (HC1.out _).mono ?_); rintro ee wn ⟨rfl, hbn0⟩; have hbn := hbm.trans (hbn0.mono hbm.size))))
            have d0 := keepB hbn l1 d0
            have d1 := keepB hbn l1 d1
            have x0 := keepB hbn hl7 x0
            have x1 := keepB hbn hl7 x1
            have m7 := blk_below m7 hbn lH
            have sn := hbn.size
            have l1 : pb < wn.heap.size := by omega
            have lH : H < wn.heap.size := by omega
            have hl7 : g7 < wn.heap.size := by omega
            have hb9 := hb8.trans (hbn.mono (by have := hb8.size; omega))
            have hd2 : Below wn.heap.size wn wn.drew := (Below.refl _ _).drew
            have y0 := blk_cell m7 0
            have y1 := blk_cell m7 1
            have HK2 := Lib.hid (fun (w' : World) (h : Below wn.heap.size wn w') => (show w'.cell? ⟨pb, po + j * 2, none⟩ = some (.int .i64 f1) ∧ w'.cell? ⟨pb, po + j * 2 + 1, none⟩ = some (.int .i64 f2) ∧ w'.cell? ⟨H, 0, none⟩ = some (.int .i64 t) ∧ w'.cell? ⟨H, 1, none⟩ = some (.int .i64 1) from ⟨keepB h l1 d0, keepB h l1 d1, keepB h lH y0, keepB h lH y1⟩))
            clear hbn HK hbm hbm0 hbn0 HC1 hd
            go_upto_region 24 with fail
            go_region_held3 (fun w' => w'.cell? ⟨pb, po + j * 2, none⟩ = some (.int .i64 f1) ∧ w'.cell? ⟨pb, po + j * 2 + 1, none⟩ = some (.int .i64 f2) ∧ w'.cell? ⟨H, 0, none⟩ = some (.int .i64 t) ∧ w'.cell? ⟨H, 1, none⟩ = some (.int .i64 1)) ((first | exact ⟨d0, d1, y0, y1⟩ | exact HK2.out _ hbo))
              ((go_at_call 29; (with_reducible refine (HC2.out _).mono ?_); rintro ee wo ⟨rfl, hbo0⟩; have hbo := hd2.trans (hbo0.mono hd2.size)))
            have x0 := keepB hbo hl7 x0
            have x1 := keepB hbo hl7 x1
            have m7 := blk_below m7 hbo lH
            have y0 := blk_cell m7 0
            have y1 := blk_cell m7 1
            have hbz := hb9.trans (hbo.mono (by have := hb9.size; omega))
            have c1 : decide (u < 0) = false := decide_eq_false (by omega)
            have c2 : decide (v > 0) = false := decide_eq_false (by omega)
            have c3 : decide (0 < v) = false := decide_eq_false (by omega)
            clear hd2 HK2 HC2 hbo0 d0 d1
            go_wp2
            go_roundw
            case rel => exact ⟨j + 1, by omega, by go_num, hbz⟩
            case measure => simp [intOf]; omega
        · have t0 : decide ((j : Int) < (L.length : Int)) = false := decide_eq_false (by omega)
          have hVr := hb47.trans (hbel.mono s47)
          have svr := hVr.size
          go_wp2_with fail
          refine (nawake _ (HL4.out.below hVr HL4.out.lt)).mono ?_
          rintro ee wz ⟨rfl, hbz⟩
          go_wp2
          go_ret
          exact ⟨rfl, (hB4.trans (hVr.mono hB4.size)).trans (hbz.mono (by have := hB4.size; omega))⟩

end Go.Proofs.YtlobdeakgoicpaaDoor
