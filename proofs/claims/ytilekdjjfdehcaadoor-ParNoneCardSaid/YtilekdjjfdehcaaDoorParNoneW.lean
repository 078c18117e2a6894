/- The walk of the statement ParNone. -/
import Derived.Test.YtilekdjjfdehcaaDoorParPts
namespace Go.Proofs.YtilekdjjfdehcaaDoor
open Go.RowKit

/-- The table with at most 6 tricks a cell, as far as it is made. -/
def modP (t : Nat → Nat → Int) (n d s : Nat) : Int := if d * 4 + s < n then t d s % 7 else t d s
def modT (t : Nat → Nat → Int) (d s : Nat) : Int := t d s % 7
theorem modT_right (t : Nat → Nat → Int) : rightT (modT t) = true := (rightT_iff _).2 fun d s _ _ => decide_eq_true (by unfold modT; omega)
theorem modP_next (t : Nat → Nat → Int) (d s : Nat) (hs : s < 4) (d' s' : Nat) (hs' : s' < 4) : modP t (d * 4 + s + 1) d' s' = if d' = d ∧ s' = s then t d s % 7 else modP t (d * 4 + s) d' s' := by
  unfold modP
  by_cases h : d' = d ∧ s' = s
  · obtain ⟨rfl, rfl⟩ := h
    rw [if_pos (by omega), if_pos ⟨rfl, rfl⟩]
  · rw [if_neg h]
    by_cases h2 : d' * 4 + s' < d * 4 + s
    · rw [if_pos h2, if_pos (by omega)]
    · rw [if_neg h2, if_neg (by omega)]
/-- One seat makes a grand slam without trumps. -/
def slamT (t : Nat → Nat → Int) (s0 d s : Nat) : Int := if d = 4 ∧ s = s0 then 13 else t d s
theorem slamT_right (t : Nat → Nat → Int) (h : rightT t = true) (s0 : Nat) : rightT (slamT t s0) = true := by
  refine (rightT_iff _).2 fun d s h1 h2 => decide_eq_true ?_
  have := rightT_bd h h1 h2
  unfold slamT; split <;> omega
theorem none_law (t : Nat → Nat → Int) (v : Nat) (s : Nat) (hs : s ≤ 1) : parV (finG (modT t) v) s = 0 ∧ bidsL (finG (modT t) v) s = [] := by
  refine par_none (finG (modT t) v) (fun b s h3 h37 hs => ?_) s hs
  rw [finG_B _ v b s h3 h37 hs, wo_wo]
  have hl := lvl_bd b h3 h37
  have hb : 0 ≤ bstN (modT t) (dnm b) s ∧ bstN (modT t) (dnm b) s ≤ 6 := by unfold bstN modT; split <;> omega
  unfold ptB
  rw [if_pos (by omega)]
  have := (ptsI_bd (lvl b) (dnm b) 1 (bstN (modT t) (dnm b) s) (vulB v s) hl (by omega) (by omega)).2 (by omega)
  omega
theorem grand_top (k : Fin 7) (v : Bool) : ptsI ((k.1 : Nat) + 1 : Nat) 4 0 13 v ≤ ptsI 7 4 0 13 v ∧ 0 ≤ ptsI 7 4 0 13 v := by
  revert k v; decide
theorem slam_law (t : Nat → Nat → Int) (s0 : Nat) (hs0 : s0 < 4) (v : Nat) (s : Nat) (hs : s ≤ 1) :
    wo (s0 % 2) (parV (finG (slamT (modT t) s0) v) s) ≤ wo (s0 % 2) (finF (slamT (modT t) s0) v 37 (s0 % 2)) ∧ (s = s0 % 2 → parV (finG (slamT (modT t) s0) v) s = finF (slamT (modT t) s0) v 37 (s0 % 2)) := by
  have hq : s0 % 2 ≤ 1 := by omega
  have e0 : finG (slamT (modT t) s0) v 37 (s0 % 2) = finF (slamT (modT t) s0) v 37 (s0 % 2) := if_pos ⟨by omega, by omega, hq⟩
  have e1 : bstN (slamT (modT t) s0) 4 (s0 % 2) = 13 := by
    have a : s0 = s0 % 2 ∨ s0 = s0 % 2 + 2 := by omega
    have b1 : slamT (modT t) s0 4 (s0 % 2) = if s0 % 2 = s0 then 13 else modT t 4 (s0 % 2) := by unfold slamT; simp
    have b2 : slamT (modT t) s0 4 (s0 % 2 + 2) = if s0 % 2 + 2 = s0 then 13 else modT t 4 (s0 % 2 + 2) := by unfold slamT; simp
    unfold bstN
    rw [b1, b2]
    unfold modT
    split <;> split <;> (try split) <;> omega
  have e2 : wo (s0 % 2) (finG (slamT (modT t) s0) v 37 (s0 % 2)) = ptsI 7 4 0 13 (vulB v (s0 % 2 : Nat)) := by
    rw [finG_B _ v 37 _ (by omega) (by omega) hq, wo_wo]
    show ptB v 37 (s0 % 2) (bstN (slamT (modT t) s0) 4 (s0 % 2)) = _
    rw [e1]; rfl
  rw [← e0]
  refine par_grand (finG (slamT (modT t) s0) v) (s0 % 2) hq ?_ (fun b h3 h37 => ?_) s hs
  · rw [e2]; exact (grand_top 0 _).2
  · rw [e2, finG_B _ v b _ h3 h37 hq, wo_wo]
    have hl := lvl_bd b h3 h37
    by_cases h4 : dnm b = 4
    · have hk : (b - 3) / 5 < 7 := by omega
      have := (grand_top ⟨(b - 3) / 5, hk⟩ (vulB v (s0 % 2 : Nat))).1
      unfold ptB
      rw [h4, e1, if_neg (by omega)]
      exact this
    · have hd := dnm_bd b
      have c0 : ∀ s, slamT (modT t) s0 (dnm b) s = modT t (dnm b) s := fun s => if_neg (by omega)
      have hb : 0 ≤ bstN (slamT (modT t) s0) (dnm b) (s0 % 2) ∧ bstN (slamT (modT t) s0) (dnm b) (s0 % 2) ≤ 6 := by
        unfold bstN; rw [c0, c0]; unfold modT; split <;> omega
      unfold ptB
      rw [if_pos (by omega)]
      have a := (ptsI_bd (lvl b) (dnm b) 1 (bstN (slamT (modT t) s0) (dnm b) (s0 % 2)) (vulB v (s0 % 2 : Nat)) hl (by omega) (by omega)).2 (by omega)
      have c := (grand_top 0 (vulB v (s0 % 2 : Nat))).2
      omega

set_option maxRecDepth 100000 in
set_option maxHeartbeats 4000000 in
theorem parNone_walk (A : Array Value) (l : Nat → Int) (hA : BytC A l) (vul : Int) (hv : 0 ≤ vul ∧ vul ≤ 255) (dl : Int) (hd : 0 ≤ dl ∧ dl ≤ 255) (st : Int) (hs : 0 ≤ st ∧ st ≤ 255) (w : World) (hL : LaidS w) :
    Calls Tryd.prog 5 #[.agg A, .int .u8 vul, .int .u8 dl, .int .u8 st] w fun e w' => e = .returned (.bool true) ∧ Below w.heap.size w w' := by
  have HM := Lib.hid (fun W => made18 A l hA W)
  have HR := Lib.hid (mdT_right l (fun i hi => (hA.2 i hi).2))
  have HL := Lib.hid hL
  have HIA := Lib.hid (show (Tryd.prog.info? 22).map (·.size) = some A.size by rw [hA.1]; kernel_rfl)
  obtain ⟨v, hvv⟩ : ∃ v : Nat, vul % 4 = v := ⟨(vul % 4).toNat, by omega⟩
  obtain ⟨d, hdd⟩ : ∃ d : Nat, dl % 4 = d := ⟨(dl % 4).toNat, by omega⟩
  obtain ⟨s, hss⟩ : ∃ s : Nat, st % 4 = s := ⟨(st % 4).toNat, by omega⟩
  have hv3 : v ≤ 3 := by omega
  have hd3 : d ≤ 3 := by omega
  have hs4 : s < 4 := by omega
  generalize mdT l = t at HM HR
  clear hA hL
  go_enter Tryd.func5, Tryd.ntmps5
  go_upto_region 1 with fail
  obtain ⟨W1, hW1⟩ : ∃ W1, w.alloc (.cells A 22) = W1 := ⟨_, rfl⟩
  obtain ⟨g, hg⟩ : ∃ g, w.heap.size = g := ⟨_, rfl⟩
  have HK := Lib.hid (show W1.heap[g]? = some (.cells A 22) by rw [← hW1]; exact blk_new _ hg.symm)
  have hB1 : Below w.heap.size w W1 := by rw [← hW1]; exact (by repeat (first | exact Below.refl _ _ | assumption | refine Below.drew ?_ | refine below_drewN ?_ _ | refine Below.alloc ?_ (by first | omega | (simp; done) | (simp; omega)) _ | refine Below.setCell ?_ (by first | omega | (simp; done) | (simp; omega)) _))
  rw [hW1, hg]
  clear hW1 hg
  go_wp2_with (refine wpList_load_row rfl 22 (.tmp 4) rfl g rfl 22 A _ _ HK.out Tryd.underlying22 rfl HIA.out ?_)
  refine (HM.out _).mono ?_
  rintro ee w2 ⟨C, rfl, hC, hb2⟩
  have hB2 := below_via hB1 hb2
  have HC := Lib.hid hC
  clear hB1 hb2 HK hC
  go_upto_region 2 with (first | (refine plain_alloc_to rfl 25 rfl tabZ tabZ_zero ?_) | (refine wpList_store_new rfl 25 _ _ rfl C _ _ rfl rfl HC.out.info (tabZ_tab.1.trans HC.out.1.symm) HC.out.one ?_))
  obtain ⟨W3, hW3⟩ : ∃ W3, w2.alloc (.cells C 25) = W3 := ⟨_, rfl⟩
  obtain ⟨g, hg⟩ : ∃ g, w2.heap.size = g := ⟨_, rfl⟩
  have HK := Lib.hid (show W3.heap[g]? = some (.cells C 25 (0, 0)) by rw [← hW3]; exact blk_new _ hg.symm)
  have hB3 : Below w.heap.size w W3 := by rw [← hW3]; exact hB2.alloc hB2.size _
  have hgg : w.heap.size ≤ g := by have := hB2.size; omega
  rw [hW3, hg]
  clear hW3 hg hB2 hvv hdd hss hv hd hs HM HIA
  have HZ0 : TabC C (modP t 0) := ⟨HC.out.1, fun d s hd hs => (HC.out.2 d s hd hs).trans (by unfold modP; rw [if_neg (by omega)])⟩
  go_wp2
  go_loopw [34] (fun i wr => ∃ (n : Nat) (D : Array Value), n ≤ 5 ∧ i = .int .i64 (n : Int) ∧ Hid (TabC D (modP t (n * 4))) ∧ Hid (wr.heap[g]? = some (.cells D 25 (0, 0))) ∧ Below w.heap.size w wr) (fun i _ => 5 - (intOf i).toNat)
  case atStart => exact ⟨0, C, by omega, rfl, HZ0, HK.out, hB3⟩
  case round =>
    obtain ⟨n, D, hn, rfl, HD, J0, hb⟩ := hrel
    rename World => wx
    by_cases hlt : n < 5
    · have c0 : (n : Int) < 5 := by omega
      go_wp2
      go_loopw [37] (fun i wr => ∃ (k : Nat) (D : Array Value), k ≤ 4 ∧ i = .int .i64 (k : Int) ∧ Hid (TabC D (modP t (n * 4 + k))) ∧ Hid (wr.heap[g]? = some (.cells D 25 (0, 0))) ∧ Below w.heap.size w wr) (fun i _ => 4 - (intOf i).toNat)
      case atStart => exact ⟨0, D, by omega, rfl, HD, J0, hb⟩
      case round =>
        obtain ⟨k, E, hk, rfl, HE, J0, hb⟩ := hrel
        rename World => wy
        by_cases hls : k < 4
        · have c1 : (k : Int) < 4 := by omega
          have q0 := (blk_cell J0.out (n * 4 + k)).trans (HE.out.2 n k hlt hls)
          have f0 := blk_free J0.out (n * 4 + k)
          have hq : modP t (n * 4 + k) n k = t n k := by unfold modP; rw [if_neg (by omega)]
          rw [hq] at q0
          have htb := rightT_bd HR.out hlt hls
          have HE2 := Lib.hid (HE.out.set n k hlt hls (t n k % 7) (fun d' s' _ h2 => modP_next t n k hls d' s' h2))
          generalize t n k = y at q0 htb HE2
          have hy1 : y.tmod 7 = y % 7 := Int.tmod_eq_emod_of_nonneg htb.1
          have n0 : (0 : Int) ≤ (n : Int) := by omega
          have k0 : (0 : Int) ≤ (k : Int) := by omega
          clear hq htb
          go_upto_region 8 with fail
          go_region
          go_wp2
          go_roundw
          case rel => exact ⟨k + 1, _, by omega, by go_num, HE2, blk_set J0.out _ _, (hb.setCell (p := ⟨g, n * 4 + k, none⟩) hgg _).drew⟩
          case measure => simp [intOf]; omega
        · obtain rfl : k = 4 := by omega
          have HE2 : Hid (TabC E (modP t ((n + 1) * 4))) := by rw [show (n + 1) * 4 = n * 4 + 4 by omega]; exact HE
          go_wp2
          go_roundw
          case rel => exact ⟨n + 1, E, by omega, by go_num, HE2, J0, hb⟩
          case measure => simp [intOf]; omega
    · obtain rfl : n = 5 := by omega
      have HD2 := Lib.hid (show TabC D (modT t) from ⟨HD.out.1, fun d s hd hs => (HD.out.2 d s hd hs).trans (by unfold modP; rw [if_pos (by omega)]; rfl)⟩)
      have HR1 := Lib.hid (modT_right t)
      have HR2 := Lib.hid (slamT_right (modT t) (modT_right t) s)
      have hnl := none_law t v (d % 2) (by omega)
      have hsl := slam_law t s hs4 v (d % 2) (by omega)
      have HD3 := Lib.hid (HD2.out.set (t' := slamT (modT t) s) 4 s (by omega) hs4 13 (fun _ _ _ _ => rfl))
      have HP1 := Lib.hid (fun W hW => ppar_none D (modT t) HD2.out v d hv3 hd3 HR1.out hnl.2 W hW)
      have HB1 := Lib.hid (fun W hW => pbids_ok D (modT t) HD2.out v d hv3 hd3 HR1.out W hW)
      unfold BdsR at HB1
      rw [hnl.2] at HB1
      unfold zOut at HP1
      generalize hT : slamT (modT t) s = T at HR2 hsl HD3
      have hsm : (s : Int) % 2 = ((s % 2 : Nat) : Int) := by omega
      have hdm : (d : Int) % 2 = ((d % 2 : Nat) : Int) := by omega
      have hsq : s % 2 ≤ 1 := by omega
      have HP2 := Lib.hid (fun W hW => pfinal_ok _ T HD3.out v 37 (s % 2) hv3 (by omega) (by omega) hsq HR2.out W hW)
      have HP3 := Lib.hid (fun W hW => ppar_pts _ T HD3.out v d hv3 hd3 HR2.out W hW)
      have hp1 := parV_bd _ (finG_bd T HR2.out v) (d % 2) (by omega)
      have hp2 := finF_bd T HR2.out v 37 (s % 2) (by omega) (by omega) hsq
      obtain ⟨D', hD'⟩ : ∃ D', D.setIfInBounds (4 * 4 + s) (.int .i64 13) = D' := ⟨_, rfl⟩
      rw [hD'] at HD3 HP2 HP3
      unfold ParR at HP3
      unfold ocV at HP2
      have hlv : lvl 37 = 7 := rfl
      have hdn : dnm 37 = 4 := rfl
      rw [hlv, hdn] at HP2
      generalize finF T v 37 (s % 2) = G at HP2 hsl hp2
      generalize parV (finG T v) (d % 2) = m at HP3 hsl hp1
      generalize rsk T 37 (s % 2) = r1 at HP2
      generalize ((bstS T 4 (s % 2) : Nat) : Int) = r2 at HP2
      generalize bstN T 4 (s % 2) = r3 at HP2
      have q0 := HD2.out.2 4 s (by omega) hs4
      have cs : (s : Int) < 4 := by omega
      generalize modT t 4 s = y at q0
      clear hnl hT HR1 HR2 HD HZ0 HK HR
      generalize d % 2 = q2 at hdm hsl
      generalize s % 2 = q at hsm hsq hsl HP2
      go_wp2_with (refine wpList_load_row rfl 25 (.tmp 9) rfl g rfl 25 D _ _ J0.out Tryd.underlying25 rfl HD2.out.info ?_)
      refine (HP1.out _ (HL.out.go hb)).mono ?_
      rintro ee w6 ⟨rfl, hb6⟩
      have hB6 := below_via hb hb6
      replace J0 := Lib.hid (blk_below J0.out hb6 (blk_lt J0.out))
      clear hb6
      go_upto_region 12 with fail
      obtain ⟨W7, hW7⟩ : ∃ W7, w6.alloc (.cells #[.int .u8 0, .int .u8 0, .int .u8 0, .int .u8 0, .int .i64 0, .int .i64 0] 30) = W7 := ⟨_, rfl⟩
      obtain ⟨g7, hg7⟩ : ∃ g7, w6.heap.size = g7 := ⟨_, rfl⟩
      have K7 := Lib.hid (show W7.heap[g7]? = some (.cells #[.int .u8 0, .int .u8 0, .int .u8 0, .int .u8 0, .int .i64 0, .int .i64 0] 30) by rw [← hW7]; exact blk_new _ hg7.symm)
      replace J0 := Lib.hid (show W7.heap[g]? = some (.cells D 25 (0, 0)) by rw [← hW7]; exact blk_alloc J0.out _)
      have hB7 : Below w.heap.size w W7 := by rw [← hW7]; exact hB6.alloc hB6.size _
      rw [hW7, hg7]
      clear hW7 hg7 hB6
      go_wp2_with (refine wpList_load_row rfl 25 (.tmp 9) rfl g rfl 25 D _ _ J0.out Tryd.underlying25 rfl HD2.out.info ?_)
      refine (HB1.out _ (HL.out.go hB7)).mono ?_
      rintro ee wa ⟨sv1, rfl, ho1, hb10⟩
      obtain ⟨A1, k1, rfl⟩ := own_form ho1
      have hB10 := below_via hB7 hb10
      replace J0 := Lib.hid (blk_below J0.out hb10 (blk_lt J0.out))
      replace K7 := blk_below K7.out hb10 (blk_lt K7.out)
      have a0 := blk_cell K7 0
      have a1 := blk_cell K7 1
      have a2 := blk_cell K7 2
      have a3 := blk_cell K7 3
      have a4 := blk_cell K7 4
      have a5 := blk_cell K7 5
      have j0 : wa.cell? ⟨g, 16 + s, none⟩ = _ := (blk_cell J0.out (4 * 4 + s)).trans q0
      have f0 : wa.frozen? ⟨g, 16 + s, none⟩ = _ := blk_free J0.out (4 * 4 + s)
      clear ho1 hb10 hB7 K7 q0
      have hll : (([] : List Nat).length : Int) = 0 := rfl
      go_upto_region 16 with fail
      obtain ⟨Wb, hWb⟩ : ∃ Wb, wa.setCell ⟨g, 16 + s, none⟩ (.int .i64 13) = Wb := ⟨_, rfl⟩
      replace J0 := Lib.hid (show Wb.heap[g]? = some (.cells D' 25 (0, 0)) by rw [← hWb, ← hD']; exact blk_set J0.out (4 * 4 + s) _)
      have hB11 : Below w.heap.size w Wb := by rw [← hWb]; exact hB10.setCell (p := ⟨g, 16 + s, none⟩) hgg _
      rw [hWb]
      clear hD' hWb hB10 j0 f0 a0 a1 a2 a3 a4 a5
      go_wp2_with (refine wpList_load_row rfl 25 (.tmp 9) rfl g rfl 25 D' _ _ J0.out Tryd.underlying25 rfl HD3.out.info ?_)
      refine (HP2.out _ (HL.out.go hB11)).mono ?_
      rintro ee wc ⟨rfl, hb12⟩
      have hB12 := below_via hB11 hb12
      replace J0 := Lib.hid (blk_below J0.out hb12 (blk_lt J0.out))
      clear hb12 hB11
      go_upto_region 17 with fail
      obtain ⟨Wd, hWd⟩ : ∃ Wd, wc.alloc (.cells #[.int .u8 7, .int .u8 4, .int .u8 r1, .int .u8 r2, .int .i64 r3, .int .i64 0] 30) = Wd := ⟨_, rfl⟩
      replace J0 := Lib.hid (show Wd.heap[g]? = some (.cells D' 25 (0, 0)) by rw [← hWd]; exact blk_alloc J0.out _)
      have hB13 : Below w.heap.size w Wd := by rw [← hWd]; exact hB12.alloc hB12.size _
      rw [hWd]
      clear hWd hB12
      go_wp2_with (refine wpList_load_row rfl 25 (.tmp 9) rfl g rfl 25 D' _ _ J0.out Tryd.underlying25 rfl HD3.out.info ?_)
      refine (HP3.out _ (HL.out.go hB13)).mono ?_
      rintro ee we ⟨c1, c2, c3, c4, c5, c6, rfl, hb14⟩
      have hB14 := below_via hB13 hb14
      clear hb14 hB13 J0
      have HO1 := Lib.hid (fun W => ours_any m (by omega) q hsq W)
      have HO2 := Lib.hid (fun W => ours_any G (by omega) q hsq W)
      have hge : ¬ wo q G < wo q m := by omega
      have hcs : (¬ (q2 : Int) = (q : Int)) ∨ ((q2 : Int) = (q : Int) ∧ m = G) := by
        by_cases h : q2 = q
        · exact .inr ⟨by omega, hsl.2 h⟩
        · exact .inl (by omega)
      generalize wo q m = P1 at HO1 hsl hge
      generalize wo q G = P2 at HO2 hsl hge
      go_upto_region 18 with fail
      obtain ⟨W9, hW9⟩ : ∃ W9, we.alloc (.cells #[.int .u8 c1, .int .u8 c2, .int .u8 c3, .int .u8 c4, .int .i64 c5, .int .i64 c6] 30) = W9 := ⟨_, rfl⟩
      have hB9 : Below w.heap.size w W9 := by rw [← hW9]; exact hB14.alloc hB14.size _
      rw [hW9]
      clear hW9 hB14
      have HAw := Lib.hid (awake18 W9 (HL.out.go hB9))
      have hP : P1 ≤ P2 := by omega
      clear hsl hp1 hp2 hlt
      go_wp2_with fail
      refine (HO1.out _).mono ?_
      rintro ee wf ⟨rfl, rfl⟩
      go_wp2_with fail
      refine (HO2.out _).mono ?_
      rintro ee wf ⟨rfl, rfl⟩
      rcases hcs with hq | ⟨hq, rfl⟩
      · go_wp2_with fail
        refine HAw.out.mono ?_
        rintro ee wb ⟨rfl, hb10⟩
        have hBz := Lib.hid (below_via hB9 hb10)
        go_wp2
        go_ret
        exact ⟨rfl, hBz.out⟩
      · go_wp2_with fail
        refine HAw.out.mono ?_
        rintro ee wb ⟨rfl, hb10⟩
        have hBz := Lib.hid (below_via hB9 hb10)
        go_wp2
        go_ret
        exact ⟨rfl, hBz.out⟩

end Go.Proofs.YtilekdjjfdehcaaDoor
