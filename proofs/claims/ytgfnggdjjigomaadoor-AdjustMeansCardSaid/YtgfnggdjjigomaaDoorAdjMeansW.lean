/- The walk of the statement AdjustMeans. (Written by genmeans.py.) -/
import Derived.Test.YtgfnggdjjigomaaDoorAdjMeansLaw
import Derived.Test.YtgfnggdjjigomaaDoorAdjMadeW3
namespace Go.Proofs.YtgfnggdjjigomaaDoor
open Go.RowKit

theorem small_info2 : (Tryd.prog.info? 59).map (·.size) = some 14 := by kernel_rfl

set_option maxRecDepth 100000 in
set_option maxHeartbeats 4000000 in
theorem means_none (x : SmE) (hx : x.Ok) (hkind : x.k % 5 = 0 ∨ x.k % 5 = 4) (vul : Int) (hv : 0 ≤ vul ∧ vul ≤ 255) (w : World) (hL : LaidS w) :
    Calls Tryd.prog 7 #[.agg (smA x), .int .u8 vul] w fun e w' => e = .returned (.bool true) ∧ Below w.heap.size w w' := by
  have hx0 := hx.1
  have hx1 := hx.2.1
  have HM := Lib.hid (fun W => made_any22 x hx W)
  have hr := made_right22 x hx
  have hok := madeO_ok x hx
  unfold madeC at HM
  have hk : 0 ≤ x.k % 5 ∧ x.k % 5 ≤ 255 := by omega
  have hf : 0 ≤ x.f % 4 ∧ x.f % 4 ≤ 255 := by omega
  generalize x.k % 5 = k at HM hr hk hkind
  generalize x.f % 4 = f at HM hr hf
  generalize madeO x = o at HM hr hok
  generalize madeA0 x = b0 at HM hr
  generalize madeA1 x = b1 at HM hr
  obtain ⟨v, hvv⟩ : ∃ v, vul % 4 = v := ⟨_, rfl⟩
  have hvb : 0 ≤ v ∧ v ≤ 3 := by omega
  have hS : ∀ W, LaidS W → Calls Tryd.prog 10 #[.agg (enCells k f o b0 b1), .int .u8 v] W _ := fun W hW => sides_none _ k f b0 b1 v _ (enCells_ok _ _ _ _ _) hok hf hk hvb hr hkind W hW
  have HSn := Lib.hid hS
  have HMn := Lib.hid (fun W hW => mean_err _ v 6 (enCells_ok k f o b0 b1).1 (Or.inr rfl) hS W hW)
  have HZ := Lib.hid enC_size
  have HL := Lib.hid hL
  go_enter Tryd.func7, Tryd.ntmps7
  go_upto_region 1 with fail
  obtain ⟨W0, hW0⟩ : ∃ W0, w.alloc (.cells (smA x) 59) = W0 := ⟨_, rfl⟩
  obtain ⟨g0, hg0⟩ : ∃ g, w.heap.size = g := ⟨_, rfl⟩
  have K0 := Lib.hid (show W0.heap[g0]? = some (.cells (smA x) 59) by rw [← hW0]; exact blk_new _ hg0.symm)
  have hB0 : Below w.heap.size w W0 := by rw [← hW0]; exact (by repeat (first | exact Below.refl _ _ | assumption | refine Below.drew ?_ | refine below_drewN ?_ _ | refine Below.alloc ?_ (by first | omega | (simp; done) | (simp; omega)) _ | refine Below.setCell ?_ (by first | omega | (simp; done) | (simp; omega)) _))
  rw [hW0, hg0]
  clear hW0 hg0
  go_wp2_with (refine wpList_load_row rfl 59 (.tmp 2) rfl g0 rfl 59 (smA x) _ _ K0.out Tryd.underlying59 rfl small_info2 ?_)
  refine (HM.out _).mono ?_
  rintro ee w1 ⟨rfl, hb1⟩
  have hB1 := below_via hB0 hb1
  clear hb1 hB0 HM K0
  go_upto_region 2 with (refine wpList_store_new rfl 29 _ _ rfl (enCells k f o b0 b1) _ _ rfl rfl (HZ.out _ _ _ _ _) rfl (enCells_one _ _ _ _ _) ?_)
  obtain ⟨W1, hW1⟩ : ∃ W0, w1.alloc (.cells (enCells k f o b0 b1) 29) = W0 := ⟨_, rfl⟩
  obtain ⟨g5, hg5⟩ : ∃ g, w1.heap.size = g := ⟨_, rfl⟩
  have K5 := Lib.hid (show W1.heap[g5]? = some (.cells (enCells k f o b0 b1) 29) by rw [← hW1]; exact blk_new _ hg5.symm)
  have hB2 : Below w.heap.size w W1 := by rw [← hW1]; exact hB1.alloc hB1.size _
  rw [hW1, hg5]
  clear hW1 hg5 hB1
  go_wp2_with (refine wpList_load_row rfl 29 (.tmp 5) rfl g5 rfl 29 (enCells k f o b0 b1) _ _ K5.out Tryd.underlying29 rfl (HZ.out _ _ _ _ _) ?_)
  refine (HSn.out _ (HL.out.go hB2)).mono ?_
  rintro ee w3 ⟨rfl, hb3⟩
  have hB3 := below_via hB2 hb3
  have K5 := Lib.hid (blk_below K5.out hb3 (blk_lt K5.out))
  clear hb3 hB2
  go_wp2_with (refine wpList_load_row rfl 29 (.tmp 5) rfl g5 rfl 29 (enCells k f o b0 b1) _ _ K5.out Tryd.underlying29 rfl (HZ.out _ _ _ _ _) ?_)
  refine (HMn.out _ (HL.out.go hB3)).mono ?_
  rintro ee w4 ⟨rfl, hb4⟩
  have hB4 := below_via hB3 hb4
  have HB5 := Lib.hid (show Below w.heap.size w ((w4.alloc (.cells #[.int .i64 0, .int .i64 0] 40)).alloc (.cells #[.int .i64 0, .int .i64 0] 40)) from (hB4.alloc hB4.size _).alloc (by have := hB4.size; simp; omega) _)
  clear hb4 hB3
  go_wp2_with fail
  refine (awake22 _ (HL.out.go HB5.out)).mono ?_
  rintro ee wz ⟨rfl, hbz⟩
  go_wp2
  go_ret
  exact ⟨rfl, below_via HB5.out hbz⟩

set_option maxRecDepth 100000 in
set_option maxHeartbeats 4000000 in
theorem means_some (x : SmE) (hx : x.Ok) (hkind : x.k % 5 = 1 ∨ x.k % 5 = 2 ∨ x.k % 5 = 3) (vul : Int) (hv : 0 ≤ vul ∧ vul ≤ 255) (w : World) (hL : LaidS w) :
    Calls Tryd.prog 7 #[.agg (smA x), .int .u8 vul] w fun e w' => e = .returned (.bool true) ∧ Below w.heap.size w w' := by
  have hx0 := hx.1
  have hx1 := hx.2.1
  have HM := Lib.hid (fun W => made_any22 x hx W)
  have hr := made_right22 x hx
  have hok := madeO_ok x hx
  unfold madeC at HM
  have hk : 0 ≤ x.k % 5 ∧ x.k % 5 ≤ 255 := by omega
  have hf : 0 ≤ x.f % 4 ∧ x.f % 4 ≤ 255 := by omega
  generalize x.k % 5 = k at HM hr hk hkind
  generalize x.f % 4 = f at HM hr hf
  generalize madeO x = o at HM hr hok
  generalize madeA0 x = b0 at HM hr
  generalize madeA1 x = b1 at HM hr
  obtain ⟨v, hvv⟩ : ∃ v, vul % 4 = v := ⟨_, rfl⟩
  have hvb : 0 ≤ v ∧ v ≤ 3 := by omega
  have HSs := Lib.hid (fun W hW => sides_some _ k f b0 b1 v _ (enCells_ok _ _ _ _ _) hok hf hk hvb hr hkind W hW)
  have HMs := Lib.hid (fun W hW => mean_some _ k f b0 b1 v _ (enCells_ok _ _ _ _ _) hok hf hk hvb hr hkind W hW)
  have hrP := ((wOk_iff _ _).1 (sides_okB k f o b0 b1 hr hok hkind v hvb.2).1).2.2.2
  have hlP := wPts_len (sideA k o) v
  unfold SRes at HSs
  rw [← hlP] at HSs
  generalize wPts (sideA k o) v = P at HSs HMs hrP
  generalize negP (wPts (sideB k o) v) = R at HSs HMs
  generalize (sideB k o).length = nr at HSs
  generalize meanF R = mr at HMs
  obtain ⟨m3, m4⟩ := mr
  have hri := (rightM_iff P).1 hrP
  have hPn : 1 ≤ P.length ∧ P.length ≤ 4 := ⟨hri.1, hri.2.1⟩
  have hlaw := means_law P hrP
  have hbd := fun j (hj : j ≤ P.length) => lohi_bd P hri.2.2.1 hri.1 j hj
  have HBd := Lib.hid hbd
  have hbl := hbd P.length (Nat.le_refl _)
  have HC0 := Lib.hid (fun W => fcmp_sm _ _ (meanF_sm P hrP) (sm_whole4 (loTo P P.length) ⟨hbl.1, hbl.2.1⟩) W)
  have HC1 := Lib.hid (fun W => fcmp_sm _ _ (meanF_sm P hrP) (sm_whole4 (hiTo P P.length) ⟨hbl.2.2.1, hbl.2.2.2⟩) W)
  have HLaw := Lib.hid hlaw
  generalize cmpF (meanF P) (loTo P P.length, 1) = u0 at HC0 HLaw
  generalize cmpF (meanF P) (hiTo P P.length, 1) = u1 at HC1 HLaw
  generalize meanF P = mp at HMs HC0 HC1 HLaw
  obtain ⟨m1, m2⟩ := mp
  unfold fV at HMs HC0 HC1
  dsimp only at HMs HC0 HC1
  clear hlaw hbd hbl hri hrP hlP
  have HZ := Lib.hid enC_size
  have HL := Lib.hid hL
  go_enter Tryd.func7, Tryd.ntmps7
  go_upto_region 1 with fail
  obtain ⟨W0, hW0⟩ : ∃ W0, w.alloc (.cells (smA x) 59) = W0 := ⟨_, rfl⟩
  obtain ⟨g0, hg0⟩ : ∃ g, w.heap.size = g := ⟨_, rfl⟩
  have K0 := Lib.hid (show W0.heap[g0]? = some (.cells (smA x) 59) by rw [← hW0]; exact blk_new _ hg0.symm)
  have hB0 : Below w.heap.size w W0 := by rw [← hW0]; exact (by repeat (first | exact Below.refl _ _ | assumption | refine Below.drew ?_ | refine below_drewN ?_ _ | refine Below.alloc ?_ (by first | omega | (simp; done) | (simp; omega)) _ | refine Below.setCell ?_ (by first | omega | (simp; done) | (simp; omega)) _))
  rw [hW0, hg0]
  clear hW0 hg0
  go_wp2_with (refine wpList_load_row rfl 59 (.tmp 2) rfl g0 rfl 59 (smA x) _ _ K0.out Tryd.underlying59 rfl small_info2 ?_)
  refine (HM.out _).mono ?_
  rintro ee w1 ⟨rfl, hb1⟩
  have hB1 := below_via hB0 hb1
  clear hb1 hB0 HM K0
  go_upto_region 2 with (refine wpList_store_new rfl 29 _ _ rfl (enCells k f o b0 b1) _ _ rfl rfl (HZ.out _ _ _ _ _) rfl (enCells_one _ _ _ _ _) ?_)
  obtain ⟨W1, hW1⟩ : ∃ W0, w1.alloc (.cells (enCells k f o b0 b1) 29) = W0 := ⟨_, rfl⟩
  obtain ⟨g5, hg5⟩ : ∃ g, w1.heap.size = g := ⟨_, rfl⟩
  have K5 := Lib.hid (show W1.heap[g5]? = some (.cells (enCells k f o b0 b1) 29) by rw [← hW1]; exact blk_new _ hg5.symm)
  have hB2 : Below w.heap.size w W1 := by rw [← hW1]; exact hB1.alloc hB1.size _
  rw [hW1, hg5]
  clear hW1 hg5 hB1
  go_wp2_with (refine wpList_load_row rfl 29 (.tmp 5) rfl g5 rfl 29 (enCells k f o b0 b1) _ _ K5.out Tryd.underlying29 rfl (HZ.out _ _ _ _ _) ?_)
  refine (HSs.out _ (HL.out.go hB2)).mono ?_
  rintro ee w3 ⟨v1, v2, rfl, o1, o2, -, hb3⟩
  obtain ⟨A1, c1, rfl⟩ := own_form o1
  have R1 := Lib.hid (Rd.of_own o1)
  have hB3 := below_via hB2 hb3
  have K5 := Lib.hid (blk_below K5.out hb3 (blk_lt K5.out))
  clear hb3 hB2 o1 o2
  go_wp2_with (refine wpList_load_row rfl 29 (.tmp 5) rfl g5 rfl 29 (enCells k f o b0 b1) _ _ K5.out Tryd.underlying29 rfl (HZ.out _ _ _ _ _) ?_)
  refine (HMs.out _ (HL.out.go hB3)).mono ?_
  rintro ee w4 ⟨rfl, hb4⟩
  go_upto_region 4 with fail
  obtain ⟨W4, hW4⟩ : ∃ V, (w4.alloc (.cells #[.int .i64 m1, .int .i64 m2] 40)).alloc (.cells #[.int .i64 m3, .int .i64 m4] 40) = V := ⟨_, rfl⟩
  obtain ⟨g9, hg9⟩ : ∃ g, w4.heap.size = g := ⟨_, rfl⟩
  have hb5 : Below w3.heap.size w3 W4 := by rw [← hW4]; exact (hb4.alloc hb4.size _).alloc (by have := hb4.size; simp; omega) _
  have N9 := Lib.hid (show W4.heap[g9]? = some (.cells #[.int .i64 m1, .int .i64 m2] 40) by rw [← hW4]; exact blk_alloc (blk_new _ hg9.symm) _)
  rw [hW4, hg9]
  have hB4 := below_via hB3 hb5
  have R1 := Lib.hid (R1.out.go hb5)
  clear hW4 hg9 hb4 hb5 hB3 K5
  obtain ⟨b, off, hA, hbw, e0, e1⟩ := rd_p R1.out 0 (by omega)
  subst hA
  obtain ⟨z, hz⟩ : ∃ z, (P.getD 0 (0, 0)).1 = z := ⟨_, rfl⟩
  have hP0 : P[0].1 = z := by rw [← hz, List.getD_eq_getElem?_getD, List.getElem?_eq_getElem (by omega)]; rfl
  have e0 : W4.cell? ⟨b, off, none⟩ = some (.int .i64 z) := by rw [← hP0]; simpa using e0
  have nz : ((P.length : Int) == 0) = false := beq_eq_false_iff_ne.2 (by omega)
  have j0 : (0 : Int) < (P.length : Int) := by omega
  have j1 : 0 < P.length := by omega
  have Hz := Lib.hid hz
  clear e1 hP0 hz
  go_upto_region 8 with fail
  go_quiet (fail)
  go_wp2
  have hB5 : Below w.heap.size w (W4.drewN nq) := below_drewN hB4 nq
  have R5 := Lib.hid (show Rd (W4.drewN nq) (W4.drewN nq).heap.size 2 (some ⟨b, off, none⟩) P.length (pC P) from R1.out.drewN nq)
  have N5 := Lib.hid (show (W4.drewN nq).heap[g9]? = some (.cells #[.int .i64 m1, .int .i64 m2] 40) from N9.out)
  have E5 := Lib.hid (show (W4.drewN nq).cell? ⟨b, off, none⟩ = some (.int .i64 z) from e0)
  have hbw5 : b < (W4.drewN nq).heap.size := hbw
  clear R1 N9 e0 hB4 hbw
  generalize W4.drewN nq = W5 at hB5 R5 N5 E5 hbw5 ⊢
  have Hlo0 := Lib.hid (show loTo P 0 = z from Hz.out)
  have Hhi0 := Lib.hid (show hiTo P 0 = z from Hz.out)
  go_loopw [12, 13, 59] (fun lo hi i wx => ∃ j : Nat, j ≤ P.length ∧ i = .int .i64 (j : Int) ∧ lo = .int .i64 (loTo P j) ∧ hi = .int .i64 (hiTo P j) ∧ Below W5.heap.size W5 wx) (fun _ _ i _ => P.length - (intOf i).toNat)
  case atStart => exact ⟨0, by omega, rfl, int_eq Hlo0.out.symm, int_eq Hhi0.out.symm, Below.refl _ _⟩
  case round =>
    obtain ⟨j, hj, rfl, rfl, rfl, hbel⟩ := hrel
    rename World => wx
    have sx := hbel.size
    have hbj := HBd.out j hj
    by_cases hlt : j < P.length
    · obtain ⟨b', off', hA, hbw, q0, q1⟩ := rd_p R5.out j hlt
      obtain ⟨rfl, rfl⟩ : b = b' ∧ off = off' := by injection hA with hA; injection hA with h1 h2; exact ⟨h1, h2⟩
      have d0 := (bcell hbel b (off + j * 2) hbw).trans q0
      have d1 := (bcell hbel b (off + j * 2 + 1) hbw).trans q1
      have HLo := Lib.hid (show loTo P (j + 1) = min (loTo P j) P[j].1 by
        show min (loTo P j) (P.getD j (0, 0)).1 = _
        rw [List.getD_eq_getElem?_getD, List.getElem?_eq_getElem hlt]; rfl)
      have HHi := Lib.hid (show hiTo P (j + 1) = max (hiTo P j) P[j].1 by
        show max (hiTo P j) (P.getD j (0, 0)).1 = _
        rw [List.getD_eq_getElem?_getD, List.getElem?_eq_getElem hlt]; rfl)
      generalize P[j].1 = y at d0 HLo HHi
      generalize P[j].2 = y2 at d1
      generalize loTo P j = lo at HLo hbj ⊢
      generalize hiTo P j = hi at HHi hbj ⊢
      have c1 : (0 : Int) ≤ (j : Int) := by omega
      have c2 : (j : Int) < (P.length : Int) := by omega
      clear q0 q1 hA
      go_upto_region 12 with fail
      obtain ⟨W6, hW6⟩ : ∃ V, wx.alloc (.cells #[.int .i64 y, .int .i64 y2] 47) = V := ⟨_, rfl⟩
      obtain ⟨gp, hgp⟩ : ∃ g, wx.heap.size = g := ⟨_, rfl⟩
      have n6 : W6.heap[gp]? = some (.cells #[.int .i64 y, .int .i64 y2] 47) := by rw [← hW6]; exact blk_new _ hgp.symm
      have hb6 : Below W5.heap.size W5 W6 := by rw [← hW6]; exact hbel.alloc sx _
      rw [hW6, hgp]
      have p0 := blk_cell n6 0
      clear hW6 hgp n6 d0 d1 hbel
      go_quiet (fail)
      go_wp2
      go_roundw
      case rel => exact ⟨j + 1, by omega, by go_num, int_eq HLo.out.symm, int_eq HHi.out.symm, below_drewN hb6 _⟩
      case measure => simp [intOf]; omega
    · obtain rfl : j = P.length := by omega
      obtain ⟨l0, l1, l2, l3⟩ := HLaw.out
      have t0 : decide ((P.length : Int) < (P.length : Int)) = false := decide_eq_false (by omega)
      rw [Hz.out] at l3
      generalize loTo P P.length = lo at HC0 hbj l2 ⊢
      generalize hiTo P P.length = hi at HC1 hbj l2 ⊢
      have N6 := blk_below N5.out hbel (blk_lt N5.out)
      have l9 := blk_lt N6
      have q0 := blk_cell N6 0
      have q1 := blk_cell N6 1
      have e0 := keepB0 hbel hbw5 E5.out
      have lb : b < wx.heap.size := by omega
      have hBx := below_via hB5 hbel
      have HW0 := Lib.hid (fun W => q22_any lo 1 W)
      have HW1 := Lib.hid (fun W => q22_any hi 1 W)
      have HWz := Lib.hid (fun W => q22_any z 1 W)
      have hd : Below wx.heap.size wx wx.drew := (Below.refl _ _).drew
      clear N5 N6 E5 hbel R5 hbw5 hB5 HLaw HBd sx hlt hj hbj
      go_upto_region 14 with fail
      go_region_held3 (fun w' => w'.cell? ⟨g9, 0, none⟩ = some (.int .i64 m1) ∧ w'.cell? ⟨g9, 1, none⟩ = some (.int .i64 m2)) (first | exact ⟨q0, q1⟩ | exact ⟨keepB0 hbm l9 q0, keepB0 hbm l9 q1⟩ | exact ⟨keepB0 hbn l9 q0, keepB0 hbn l9 q1⟩)
        ((first | (go_at_call 26; (with_reducible refine (HW0.out _).mono ?_); rintro ee wm ⟨rfl, hbm0⟩; have hbm := hd.trans (hbm0.mono hd.size)) | (go_at_call 25; (with_reducible refine (HC0.out _).mono ?_); rintro ee wn ⟨rfl, hbn0⟩; have hbn := hbm.trans (hbn0.mono hbm.size))))
      have q0 := keepB0 hbn l9 q0
      have q1 := keepB0 hbn l9 q1
      have e0 := keepB0 hbn lb e0
      have hBn := below_via hBx hbn
      have sn := hbn.size
      have l9 : g9 < wn.heap.size := by omega
      have lb : b < wn.heap.size := by omega
      have hd2 : Below wn.heap.size wn wn.drew := (Below.refl _ _).drew
      clear hbn hbm hbm0 hbn0 hd hBx HC0 HW0
      go_upto_region 15 with fail
      go_region_held3 (fun w' => w'.cell? ⟨g9, 0, none⟩ = some (.int .i64 m1) ∧ w'.cell? ⟨g9, 1, none⟩ = some (.int .i64 m2)) (first | exact ⟨q0, q1⟩ | exact ⟨keepB0 hbo l9 q0, keepB0 hbo l9 q1⟩ | exact ⟨keepB0 hbp l9 q0, keepB0 hbp l9 q1⟩)
        ((first | (go_at_call 26; (with_reducible refine (HW1.out _).mono ?_); rintro ee wo ⟨rfl, hbo0⟩; have hbo := hd2.trans (hbo0.mono hd2.size)) | (go_at_call 25; (with_reducible refine (HC1.out _).mono ?_); rintro ee wp ⟨rfl, hbp0⟩; have hbp := hbo.trans (hbp0.mono hbo.size))))
      have q0 := keepB0 hbp l9 q0
      have q1 := keepB0 hbp l9 q1
      have e0 := keepB0 hbp lb e0
      have hBp := below_via hBn hbp
      have sp := hbp.size
      have l9 : g9 < wp.heap.size := by omega
      have lb : b < wp.heap.size := by omega
      have hd3 : Below wp.heap.size wp wp.drew := (Below.refl _ _).drew
      have HAw := Lib.hid (fun (W : World) (hb : Below wp.heap.size wp W) => awake22 W (HL.out.go (below_via hBp hb)))
      have d0 : decide (u0 ≥ 0) = true := decide_eq_true l0
      have d1 : decide (u1 ≤ 0) = true := decide_eq_true l1
      have d0' : decide (0 ≤ u0) = true := decide_eq_true l0
      have HSS := Lib.hid (fun (W : World) (hb : Below wp.heap.size wp W) => (show W.cell? ⟨g9, 0, none⟩ = some (.int .i64 m1) ∧ W.cell? ⟨g9, 1, none⟩ = some (.int .i64 m2) ∧ W.cell? ⟨b, off, none⟩ = some (.int .i64 z) from ⟨keepB0 hb l9 q0, keepB0 hb l9 q1, keepB0 hb lb e0⟩))
      clear hbp hbo hbo0 hbp0 hd2 hBn HC1 HW1
      go_upto_region 16 with fail
      by_cases h1 : lo < hi
      · have c1 : decide (lo < hi) = true := decide_eq_true h1
        clear l2
        by_cases h2 : 1 < P.length
        · have c2 : decide ((P.length : Int) > 1) = true := decide_eq_true (by omega)
          have c3 : (1 : Int) < (P.length : Int) := by omega
          refine wp_region_held_drew (S := (fun w' => w'.cell? ⟨g9, 0, none⟩ = some (.int .i64 m1) ∧ w'.cell? ⟨g9, 1, none⟩ = some (.int .i64 m2) ∧ w'.cell? ⟨b, off, none⟩ = some (.int .i64 z))) (by kernel_rfl) (HSS.out _ hd3) (fun hHeld => ?_)
          refine take_named (i := 0) (d := 86) (v := ?va0) rfl (by kernel_rfl) (by kernel_rfl) (by kernel_rfl) (by kernel_rfl) (fun _ _ _ h => h) (Or.inl ⟨by kernel_rfl, ?ya0⟩) (by assumption) ?_
          case ya0 => intro wq hSw; (try dsimp only at hSw); go_simp; (try with_reducible rfl)
          (try simp only [Act.put, List.setIfInBounds_toArray, List.set_cons_zero, List.set_cons_succ])
          refine take_named (i := 1) (d := 87) (v := ?va1) rfl (by kernel_rfl) (by kernel_rfl) (by kernel_rfl) (by kernel_rfl) (fun _ _ _ h => h) (Or.inl ⟨by kernel_rfl, ?ya1⟩) (by assumption) ?_
          case ya1 => intro wq hSw; (try dsimp only at hSw); go_simp; (try with_reducible rfl)
          (try simp only [Act.put, List.setIfInBounds_toArray, List.set_cons_zero, List.set_cons_succ])
          refine take_named (i := 2) (d := 88) (v := ?va2) rfl (by kernel_rfl) (by kernel_rfl) (by kernel_rfl) (by kernel_rfl) (fun _ _ _ h => h) (Or.inl ⟨by kernel_rfl, ?ya2⟩) (by assumption) ?_
          case ya2 => intro wq hSw; (try dsimp only at hSw); go_simp; (try with_reducible rfl)
          (try simp only [Act.put, List.setIfInBounds_toArray, List.set_cons_zero, List.set_cons_succ])
          refine take_named (i := 3) (d := 89) (v := ?va3) rfl (by kernel_rfl) (by kernel_rfl) (by kernel_rfl) (by kernel_rfl) (fun _ _ _ h => h) (Or.inl ⟨by kernel_rfl, ?ya3⟩) (by assumption) ?_
          case ya3 => intro wq hSw; (try dsimp only at hSw); go_simp; (try with_reducible rfl)
          (try simp only [Act.put, List.setIfInBounds_toArray, List.set_cons_zero, List.set_cons_succ])
          refine take_named (i := 4) (d := 90) (v := ?va4) rfl (by kernel_rfl) (by kernel_rfl) (by kernel_rfl) (by kernel_rfl) (fun _ _ _ h => h) (Or.inl ⟨by kernel_rfl, ?ya4⟩) (by assumption) ?_
          case ya4 => intro wq hSw; (try dsimp only at hSw); go_simp; (try with_reducible rfl)
          (try simp only [Act.put, List.setIfInBounds_toArray, List.set_cons_zero, List.set_cons_succ])
          refine take_named (i := 5) (d := 91) (v := ?va5) rfl (by kernel_rfl) (by kernel_rfl) (by kernel_rfl) (by kernel_rfl) (fun _ _ _ h => h) (Or.inl ⟨by kernel_rfl, ?ya5⟩) (by assumption) ?_
          case ya5 => intro wq hSw; (try dsimp only at hSw); go_simp; (try with_reducible rfl)
          (try simp only [Act.put, List.setIfInBounds_toArray, List.set_cons_zero, List.set_cons_succ])
          refine take_named (i := 6) (d := 92) (v := ?va6) rfl (by kernel_rfl) (by kernel_rfl) (by kernel_rfl) (by kernel_rfl) (fun _ _ _ h => h) (Or.inl ⟨by kernel_rfl, ?ya6⟩) (by assumption) ?_
          case ya6 => intro wq hSw; (try dsimp only at hSw); go_simp; (try with_reducible rfl)
          (try simp only [Act.put, List.setIfInBounds_toArray, List.set_cons_zero, List.set_cons_succ])
          refine take_named (i := 7) (d := 93) (v := ?va7) rfl (by kernel_rfl) (by kernel_rfl) (by kernel_rfl) (by kernel_rfl) (fun _ _ _ h => h) (Or.inl ⟨by kernel_rfl, ?ya7⟩) (by assumption) ?_
          case ya7 => intro wq hSw; (try dsimp only at hSw); go_simp; (try with_reducible rfl)
          (try simp only [Act.put, List.setIfInBounds_toArray, List.set_cons_zero, List.set_cons_succ])
          refine take_named (i := 8) (d := 94) (v := ?va8) rfl (by kernel_rfl) (by kernel_rfl) (by kernel_rfl) (by kernel_rfl) (fun _ _ _ h => h) (Or.inl ⟨by kernel_rfl, ?ya8⟩) (by assumption) ?_
          case ya8 => intro wq hSw; (try dsimp only at hSw); go_simp; (try with_reducible rfl)
          (try simp only [Act.put, List.setIfInBounds_toArray, List.set_cons_zero, List.set_cons_succ])
          refine take_named (i := 9) (d := 95) (v := ?va9) rfl (by kernel_rfl) (by kernel_rfl) (by kernel_rfl) (by kernel_rfl) (fun _ _ _ h => h) (Or.inl ⟨by kernel_rfl, ?ya9⟩) (by assumption) ?_
          case ya9 => intro wq hSw; (try dsimp only at hSw); go_simp; (try with_reducible rfl)
          (try simp only [Act.put, List.setIfInBounds_toArray, List.set_cons_zero, List.set_cons_succ])
          refine take_named (i := 10) (d := 96) (v := ?va10) rfl (by kernel_rfl) (by kernel_rfl) (by kernel_rfl) (by kernel_rfl) (fun _ _ _ h => h) (Or.inl ⟨by kernel_rfl, ?ya10⟩) (by assumption) ?_
          case ya10 => intro wq hSw; (try dsimp only at hSw); go_simp; (try with_reducible rfl)
          (try simp only [Act.put, List.setIfInBounds_toArray, List.set_cons_zero, List.set_cons_succ])
          refine take_named (i := 11) (d := 97) (v := ?va11) rfl (by kernel_rfl) (by kernel_rfl) (by kernel_rfl) (by kernel_rfl) (fun _ _ _ h => h) (Or.inl ⟨by kernel_rfl, ?ya11⟩) (by assumption) ?_
          case ya11 => intro wq hSw; (try dsimp only at hSw); go_simp; (try with_reducible rfl)
          (try simp only [Act.put, List.setIfInBounds_toArray, List.set_cons_zero, List.set_cons_succ])
          refine take_named (i := 12) (d := 98) (v := ?va12) rfl (by kernel_rfl) (by kernel_rfl) (by kernel_rfl) (by kernel_rfl) (fun _ _ _ h => h) (Or.inl ⟨by kernel_rfl, ?ya12⟩) (by assumption) ?_
          case ya12 => intro wq hSw; (try dsimp only at hSw); go_simp; (try with_reducible rfl)
          (try simp only [Act.put, List.setIfInBounds_toArray, List.set_cons_zero, List.set_cons_succ])
          refine take_named (i := 13) (d := 99) (v := ?va13) rfl (by kernel_rfl) (by kernel_rfl) (by kernel_rfl) (by kernel_rfl) (fun _ _ _ h => h) (Or.inl ⟨by kernel_rfl, ?ya13⟩) (by assumption) ?_
          case ya13 => intro wq hSw; (try dsimp only at hSw); go_simp; (try with_reducible rfl)
          (try simp only [Act.put, List.setIfInBounds_toArray, List.set_cons_zero, List.set_cons_succ])
          refine take_named (i := 14) (d := 100) (v := ?va14) rfl (by kernel_rfl) (by kernel_rfl) (by kernel_rfl) (by kernel_rfl) (fun _ _ _ h => h) (Or.inl ⟨by kernel_rfl, ?ya14⟩) (by assumption) ?_
          case ya14 => intro wq hSw; (try dsimp only at hSw); go_simp; (try with_reducible rfl)
          (try simp only [Act.put, List.setIfInBounds_toArray, List.set_cons_zero, List.set_cons_succ])
          refine take_named (i := 15) (d := 101) (v := ?va15) rfl (by kernel_rfl) (by kernel_rfl) (by kernel_rfl) (by kernel_rfl) (fun _ _ _ h => h) (Or.inl ⟨by kernel_rfl, ?ya15⟩) (by assumption) ?_
          case ya15 => intro wq hSw; (try dsimp only at hSw); go_simp; (try with_reducible rfl)
          (try simp only [Act.put, List.setIfInBounds_toArray, List.set_cons_zero, List.set_cons_succ])
          refine take_named (i := 16) (d := 102) (v := ?va16) rfl (by kernel_rfl) (by kernel_rfl) (by kernel_rfl) (by kernel_rfl) (fun _ _ _ h => h) (Or.inl ⟨by kernel_rfl, ?ya16⟩) (by assumption) ?_
          case ya16 => intro wq hSw; (try dsimp only at hSw); go_simp; (try with_reducible rfl)
          (try simp only [Act.put, List.setIfInBounds_toArray, List.set_cons_zero, List.set_cons_succ])
          refine take_named (i := 17) (d := 103) (v := ?va17) rfl (by kernel_rfl) (by kernel_rfl) (by kernel_rfl) (by kernel_rfl) (fun _ _ _ h => h) (Or.inl ⟨by kernel_rfl, ?ya17⟩) (by assumption) ?_
          case ya17 => intro wq hSw; (try dsimp only at hSw); go_simp; (try with_reducible rfl)
          (try simp only [Act.put, List.setIfInBounds_toArray, List.set_cons_zero, List.set_cons_succ])
          refine take_named (i := 18) (d := 104) (v := ?va18) rfl (by kernel_rfl) (by kernel_rfl) (by kernel_rfl) (by kernel_rfl) (fun _ _ _ h => h) (Or.inl ⟨by kernel_rfl, ?ya18⟩) (by assumption) ?_
          case ya18 => intro wq hSw; (try dsimp only at hSw); go_simp; (try with_reducible rfl)
          (try simp only [Act.put, List.setIfInBounds_toArray, List.set_cons_zero, List.set_cons_succ])
          refine take_named (i := 19) (d := 105) (v := undef) rfl (by kernel_rfl) (by kernel_rfl) (by kernel_rfl) (by kernel_rfl) (fun _ _ _ h => h) (Or.inr ⟨by kernel_rfl, rfl⟩) (by assumption) ?_
          (try simp only [Act.put, List.setIfInBounds_toArray, List.set_cons_zero, List.set_cons_succ])
          refine take_named (i := 20) (d := 106) (v := undef) rfl (by kernel_rfl) (by kernel_rfl) (by kernel_rfl) (by kernel_rfl) (fun _ _ _ h => h) (Or.inr ⟨by kernel_rfl, rfl⟩) (by assumption) ?_
          (try simp only [Act.put, List.setIfInBounds_toArray, List.set_cons_zero, List.set_cons_succ])
          refine take_named (i := 21) (d := 107) (v := ?va21) rfl (by kernel_rfl) (by kernel_rfl) (by kernel_rfl) (by kernel_rfl) (fun _ _ _ h => h) (Or.inl ⟨by kernel_rfl, ?ya21⟩) (by assumption) ?_
          case ya21 => intro wq hSw; (try dsimp only at hSw); go_simp; (try with_reducible rfl)
          (try simp only [Act.put, List.setIfInBounds_toArray, List.set_cons_zero, List.set_cons_succ])
          refine take_named (i := 22) (d := 108) (v := ?va22) rfl (by kernel_rfl) (by kernel_rfl) (by kernel_rfl) (by kernel_rfl) (fun _ _ _ h => h) (Or.inl ⟨by kernel_rfl, ?ya22⟩) (by assumption) ?_
          case ya22 => intro wq hSw; (try dsimp only at hSw); go_simp; (try with_reducible rfl)
          (try simp only [Act.put, List.setIfInBounds_toArray, List.set_cons_zero, List.set_cons_succ])
          refine take_named (i := 23) (d := 109) (v := ?va23) rfl (by kernel_rfl) (by kernel_rfl) (by kernel_rfl) (by kernel_rfl) (fun _ _ _ h => h) (Or.inl ⟨by kernel_rfl, ?ya23⟩) (by assumption) ?_
          case ya23 => intro wq hSw; (try dsimp only at hSw); go_simp; (try with_reducible rfl)
          (try simp only [Act.put, List.setIfInBounds_toArray, List.set_cons_zero, List.set_cons_succ])
          refine take_named (i := 24) (d := 110) (v := ?va24) rfl (by kernel_rfl) (by kernel_rfl) (by kernel_rfl) (by kernel_rfl) (fun _ _ _ h => h) (Or.inl ⟨by kernel_rfl, ?ya24⟩) (by assumption) ?_
          case ya24 => intro wq hSw; (try dsimp only at hSw); go_simp; (try with_reducible rfl)
          (try simp only [Act.put, List.setIfInBounds_toArray, List.set_cons_zero, List.set_cons_succ])
          refine take_named (i := 25) (d := 111) (v := ?va25) rfl (by kernel_rfl) (by kernel_rfl) (by kernel_rfl) (by kernel_rfl) (fun _ _ _ h => h) (Or.inl ⟨by kernel_rfl, ?ya25⟩) (by assumption) ?_
          case ya25 => intro wq hSw; (try dsimp only at hSw); go_simp; (try with_reducible rfl)
          (try simp only [Act.put, List.setIfInBounds_toArray, List.set_cons_zero, List.set_cons_succ])
          refine take_named (i := 26) (d := 112) (v := ?va26) rfl (by kernel_rfl) (by kernel_rfl) (by kernel_rfl) (by kernel_rfl) (fun _ _ _ h => h) (Or.inl ⟨by kernel_rfl, ?ya26⟩) (by assumption) ?_
          case ya26 => intro wq hSw; (try dsimp only at hSw); go_simp; (try with_reducible rfl)
          (try simp only [Act.put, List.setIfInBounds_toArray, List.set_cons_zero, List.set_cons_succ])
          refine take_named (i := 27) (d := 113) (v := ?va27) rfl (by kernel_rfl) (by kernel_rfl) (by kernel_rfl) (by kernel_rfl) (fun _ _ _ h => h) (Or.inl ⟨by kernel_rfl, ?ya27⟩) (by assumption) ?_
          case ya27 => intro wq hSw; (try dsimp only at hSw); go_simp; (try with_reducible rfl)
          (try simp only [Act.put, List.setIfInBounds_toArray, List.set_cons_zero, List.set_cons_succ])
          refine take_named (i := 28) (d := 114) (v := undef) rfl (by kernel_rfl) (by kernel_rfl) (by kernel_rfl) (by kernel_rfl) (fun _ _ _ h => h) (Or.inr ⟨by kernel_rfl, rfl⟩) (by assumption) ?_
          (try simp only [Act.put, List.setIfInBounds_toArray, List.set_cons_zero, List.set_cons_succ])
          refine take_named (i := 29) (d := 115) (v := undef) rfl (by kernel_rfl) (by kernel_rfl) (by kernel_rfl) (by kernel_rfl) (fun _ _ _ h => h) (Or.inr ⟨by kernel_rfl, rfl⟩) (by assumption) ?_
          (try simp only [Act.put, List.setIfInBounds_toArray, List.set_cons_zero, List.set_cons_succ])
          refine take_named (i := 30) (d := 116) (v := undef) rfl (by kernel_rfl) (by kernel_rfl) (by kernel_rfl) (by kernel_rfl) (fun _ _ _ h => h) (Or.inr ⟨by kernel_rfl, rfl⟩) (by assumption) ?_
          (try simp only [Act.put, List.setIfInBounds_toArray, List.set_cons_zero, List.set_cons_succ])
          refine take_named (i := 31) (d := 117) (v := undef) rfl (by kernel_rfl) (by kernel_rfl) (by kernel_rfl) (by kernel_rfl) (fun _ _ _ h => h) (Or.inr ⟨by kernel_rfl, rfl⟩) (by assumption) ?_
          (try simp only [Act.put, List.setIfInBounds_toArray, List.set_cons_zero, List.set_cons_succ])
          refine take_named (i := 32) (d := 118) (v := undef) rfl (by kernel_rfl) (by kernel_rfl) (by kernel_rfl) (by kernel_rfl) (fun _ _ _ h => h) (Or.inr ⟨by kernel_rfl, rfl⟩) (by assumption) ?_
          (try simp only [Act.put, List.setIfInBounds_toArray, List.set_cons_zero, List.set_cons_succ])
          refine take_named (i := 33) (d := 119) (v := undef) rfl (by kernel_rfl) (by kernel_rfl) (by kernel_rfl) (by kernel_rfl) (fun _ _ _ h => h) (Or.inr ⟨by kernel_rfl, rfl⟩) (by assumption) ?_
          (try simp only [Act.put, List.setIfInBounds_toArray, List.set_cons_zero, List.set_cons_succ])
          refine take_named (i := 34) (d := 120) (v := undef) rfl (by kernel_rfl) (by kernel_rfl) (by kernel_rfl) (by kernel_rfl) (fun _ _ _ h => h) (Or.inr ⟨by kernel_rfl, rfl⟩) (by assumption) ?_
          (try simp only [Act.put, List.setIfInBounds_toArray, List.set_cons_zero, List.set_cons_succ])
          refine take_named (i := 35) (d := 121) (v := ?va35) rfl (by kernel_rfl) (by kernel_rfl) (by kernel_rfl) (by kernel_rfl) (fun _ _ _ h => h) (Or.inl ⟨by kernel_rfl, ?ya35⟩) (by assumption) ?_
          case ya35 => intro wq hSw; (try dsimp only at hSw); go_simp; (try with_reducible rfl)
          (try simp only [Act.put, List.setIfInBounds_toArray, List.set_cons_zero, List.set_cons_succ])
          refine take_named (i := 36) (d := 122) (v := ?va36) rfl (by kernel_rfl) (by kernel_rfl) (by kernel_rfl) (by kernel_rfl) (fun _ _ _ h => h) (Or.inl ⟨by kernel_rfl, ?ya36⟩) (by assumption) ?_
          case ya36 => intro wq hSw; (try dsimp only at hSw); go_simp; (try with_reducible rfl)
          (try simp only [Act.put, List.setIfInBounds_toArray, List.set_cons_zero, List.set_cons_succ])
          refine take_named (i := 37) (d := 123) (v := ?va37) rfl (by kernel_rfl) (by kernel_rfl) (by kernel_rfl) (by kernel_rfl) (fun _ _ _ h => h) (Or.inl ⟨by kernel_rfl, ?ya37⟩) (by assumption) ?_
          case ya37 => intro wq hSw; (try dsimp only at hSw); go_simp; (try with_reducible rfl)
          (try simp only [Act.put, List.setIfInBounds_toArray, List.set_cons_zero, List.set_cons_succ])
          refine wpAnyH_ready (rs := [38]) (by kernel_rfl) (by simp) ?_
          refine AllReadyH.cons rfl (fun K hK => ?_) AllReadyH.nil
          go_simp
          refine (HAw.out _ hd3).mono ?_
          rintro ee wz ⟨rfl, hz⟩
          have hbb := hd3.trans (hz.mono hd3.size)
          refine hK.out _ _ (HSS.out _ hbb) (fun hHeld1 => ?_)
          clear hK K hHeld
          (try simp only [Act.put, List.setIfInBounds_toArray, List.set_cons_zero, List.set_cons_succ])
          refine take_named (i := 39) (d := 125) (v := ?va39) rfl (by kernel_rfl) (by kernel_rfl) (by kernel_rfl) (by kernel_rfl) (fun _ _ _ h => h) (Or.inl ⟨by kernel_rfl, ?ya39⟩) (by assumption) ?_
          case ya39 => intro wq hSw; (try dsimp only at hSw); go_simp; (try with_reducible rfl)
          (try simp only [Act.put, List.setIfInBounds_toArray, List.set_cons_zero, List.set_cons_succ])
          refine take_named (i := 40) (d := 4) (v := ?va40) rfl (by kernel_rfl) (by kernel_rfl) (by kernel_rfl) (by kernel_rfl) (fun _ _ _ h => h) (Or.inl ⟨by kernel_rfl, ?ya40⟩) (by assumption) ?_
          case ya40 => intro wq hSw; (try dsimp only at hSw); go_simp; (try with_reducible rfl)
          (try simp only [Act.put, List.setIfInBounds_toArray, List.set_cons_zero, List.set_cons_succ])
          refine wpAnyH_done (by kernel_rfl) ?_ _
          go_wp2
          go_ret
          exact ⟨rfl, below_via hBp hbb⟩
        · have c2 : decide ((P.length : Int) > 1) = false := decide_eq_false (by omega)
          have c3 : ¬ (1 : Int) < (P.length : Int) := by omega
          obtain ⟨rfl, rfl⟩ : m1 = z ∧ m2 = 1 := by rcases l3 with h | h; exact absurd h h2; injection h with h1 h2; exact ⟨h1, h2⟩
          refine wp_region_held_drew (S := (fun w' => w'.cell? ⟨g9, 0, none⟩ = some (.int .i64 m1) ∧ w'.cell? ⟨g9, 1, none⟩ = some (.int .i64 1) ∧ w'.cell? ⟨b, off, none⟩ = some (.int .i64 m1))) (by kernel_rfl) (HSS.out _ hd3) (fun hHeld => ?_)
          refine take_named (i := 0) (d := 86) (v := ?vb0) rfl (by kernel_rfl) (by kernel_rfl) (by kernel_rfl) (by kernel_rfl) (fun _ _ _ h => h) (Or.inl ⟨by kernel_rfl, ?yb0⟩) (by assumption) ?_
          case yb0 => intro wq hSw; (try dsimp only at hSw); go_simp; (try with_reducible rfl)
          (try simp only [Act.put, List.setIfInBounds_toArray, List.set_cons_zero, List.set_cons_succ])
          refine take_named (i := 1) (d := 87) (v := ?vb1) rfl (by kernel_rfl) (by kernel_rfl) (by kernel_rfl) (by kernel_rfl) (fun _ _ _ h => h) (Or.inl ⟨by kernel_rfl, ?yb1⟩) (by assumption) ?_
          case yb1 => intro wq hSw; (try dsimp only at hSw); go_simp; (try with_reducible rfl)
          (try simp only [Act.put, List.setIfInBounds_toArray, List.set_cons_zero, List.set_cons_succ])
          refine take_named (i := 2) (d := 88) (v := ?vb2) rfl (by kernel_rfl) (by kernel_rfl) (by kernel_rfl) (by kernel_rfl) (fun _ _ _ h => h) (Or.inl ⟨by kernel_rfl, ?yb2⟩) (by assumption) ?_
          case yb2 => intro wq hSw; (try dsimp only at hSw); go_simp; (try with_reducible rfl)
          (try simp only [Act.put, List.setIfInBounds_toArray, List.set_cons_zero, List.set_cons_succ])
          refine take_named (i := 3) (d := 89) (v := ?vb3) rfl (by kernel_rfl) (by kernel_rfl) (by kernel_rfl) (by kernel_rfl) (fun _ _ _ h => h) (Or.inl ⟨by kernel_rfl, ?yb3⟩) (by assumption) ?_
          case yb3 => intro wq hSw; (try dsimp only at hSw); go_simp; (try with_reducible rfl)
          (try simp only [Act.put, List.setIfInBounds_toArray, List.set_cons_zero, List.set_cons_succ])
          refine take_named (i := 4) (d := 90) (v := ?vb4) rfl (by kernel_rfl) (by kernel_rfl) (by kernel_rfl) (by kernel_rfl) (fun _ _ _ h => h) (Or.inl ⟨by kernel_rfl, ?yb4⟩) (by assumption) ?_
          case yb4 => intro wq hSw; (try dsimp only at hSw); go_simp; (try with_reducible rfl)
          (try simp only [Act.put, List.setIfInBounds_toArray, List.set_cons_zero, List.set_cons_succ])
          refine take_named (i := 5) (d := 91) (v := ?vb5) rfl (by kernel_rfl) (by kernel_rfl) (by kernel_rfl) (by kernel_rfl) (fun _ _ _ h => h) (Or.inl ⟨by kernel_rfl, ?yb5⟩) (by assumption) ?_
          case yb5 => intro wq hSw; (try dsimp only at hSw); go_simp; (try with_reducible rfl)
          (try simp only [Act.put, List.setIfInBounds_toArray, List.set_cons_zero, List.set_cons_succ])
          refine take_named (i := 6) (d := 92) (v := ?vb6) rfl (by kernel_rfl) (by kernel_rfl) (by kernel_rfl) (by kernel_rfl) (fun _ _ _ h => h) (Or.inl ⟨by kernel_rfl, ?yb6⟩) (by assumption) ?_
          case yb6 => intro wq hSw; (try dsimp only at hSw); go_simp; (try with_reducible rfl)
          (try simp only [Act.put, List.setIfInBounds_toArray, List.set_cons_zero, List.set_cons_succ])
          refine take_named (i := 7) (d := 93) (v := ?vb7) rfl (by kernel_rfl) (by kernel_rfl) (by kernel_rfl) (by kernel_rfl) (fun _ _ _ h => h) (Or.inl ⟨by kernel_rfl, ?yb7⟩) (by assumption) ?_
          case yb7 => intro wq hSw; (try dsimp only at hSw); go_simp; (try with_reducible rfl)
          (try simp only [Act.put, List.setIfInBounds_toArray, List.set_cons_zero, List.set_cons_succ])
          refine take_named (i := 8) (d := 94) (v := ?vb8) rfl (by kernel_rfl) (by kernel_rfl) (by kernel_rfl) (by kernel_rfl) (fun _ _ _ h => h) (Or.inl ⟨by kernel_rfl, ?yb8⟩) (by assumption) ?_
          case yb8 => intro wq hSw; (try dsimp only at hSw); go_simp; (try with_reducible rfl)
          (try simp only [Act.put, List.setIfInBounds_toArray, List.set_cons_zero, List.set_cons_succ])
          refine take_named (i := 9) (d := 95) (v := ?vb9) rfl (by kernel_rfl) (by kernel_rfl) (by kernel_rfl) (by kernel_rfl) (fun _ _ _ h => h) (Or.inl ⟨by kernel_rfl, ?yb9⟩) (by assumption) ?_
          case yb9 => intro wq hSw; (try dsimp only at hSw); go_simp; (try with_reducible rfl)
          (try simp only [Act.put, List.setIfInBounds_toArray, List.set_cons_zero, List.set_cons_succ])
          refine take_named (i := 10) (d := 96) (v := ?vb10) rfl (by kernel_rfl) (by kernel_rfl) (by kernel_rfl) (by kernel_rfl) (fun _ _ _ h => h) (Or.inl ⟨by kernel_rfl, ?yb10⟩) (by assumption) ?_
          case yb10 => intro wq hSw; (try dsimp only at hSw); go_simp; (try with_reducible rfl)
          (try simp only [Act.put, List.setIfInBounds_toArray, List.set_cons_zero, List.set_cons_succ])
          refine take_named (i := 11) (d := 97) (v := ?vb11) rfl (by kernel_rfl) (by kernel_rfl) (by kernel_rfl) (by kernel_rfl) (fun _ _ _ h => h) (Or.inl ⟨by kernel_rfl, ?yb11⟩) (by assumption) ?_
          case yb11 => intro wq hSw; (try dsimp only at hSw); go_simp; (try with_reducible rfl)
          (try simp only [Act.put, List.setIfInBounds_toArray, List.set_cons_zero, List.set_cons_succ])
          refine take_named (i := 12) (d := 98) (v := ?vb12) rfl (by kernel_rfl) (by kernel_rfl) (by kernel_rfl) (by kernel_rfl) (fun _ _ _ h => h) (Or.inl ⟨by kernel_rfl, ?yb12⟩) (by assumption) ?_
          case yb12 => intro wq hSw; (try dsimp only at hSw); go_simp; (try with_reducible rfl)
          (try simp only [Act.put, List.setIfInBounds_toArray, List.set_cons_zero, List.set_cons_succ])
          refine take_named (i := 13) (d := 99) (v := ?vb13) rfl (by kernel_rfl) (by kernel_rfl) (by kernel_rfl) (by kernel_rfl) (fun _ _ _ h => h) (Or.inl ⟨by kernel_rfl, ?yb13⟩) (by assumption) ?_
          case yb13 => intro wq hSw; (try dsimp only at hSw); go_simp; (try with_reducible rfl)
          (try simp only [Act.put, List.setIfInBounds_toArray, List.set_cons_zero, List.set_cons_succ])
          refine take_named (i := 14) (d := 100) (v := ?vb14) rfl (by kernel_rfl) (by kernel_rfl) (by kernel_rfl) (by kernel_rfl) (fun _ _ _ h => h) (Or.inl ⟨by kernel_rfl, ?yb14⟩) (by assumption) ?_
          case yb14 => intro wq hSw; (try dsimp only at hSw); go_simp; (try with_reducible rfl)
          (try simp only [Act.put, List.setIfInBounds_toArray, List.set_cons_zero, List.set_cons_succ])
          refine take_named (i := 15) (d := 101) (v := ?vb15) rfl (by kernel_rfl) (by kernel_rfl) (by kernel_rfl) (by kernel_rfl) (fun _ _ _ h => h) (Or.inl ⟨by kernel_rfl, ?yb15⟩) (by assumption) ?_
          case yb15 => intro wq hSw; (try dsimp only at hSw); go_simp; (try with_reducible rfl)
          (try simp only [Act.put, List.setIfInBounds_toArray, List.set_cons_zero, List.set_cons_succ])
          refine take_named (i := 16) (d := 102) (v := ?vb16) rfl (by kernel_rfl) (by kernel_rfl) (by kernel_rfl) (by kernel_rfl) (fun _ _ _ h => h) (Or.inl ⟨by kernel_rfl, ?yb16⟩) (by assumption) ?_
          case yb16 => intro wq hSw; (try dsimp only at hSw); go_simp; (try with_reducible rfl)
          (try simp only [Act.put, List.setIfInBounds_toArray, List.set_cons_zero, List.set_cons_succ])
          refine take_named (i := 17) (d := 103) (v := ?vb17) rfl (by kernel_rfl) (by kernel_rfl) (by kernel_rfl) (by kernel_rfl) (fun _ _ _ h => h) (Or.inl ⟨by kernel_rfl, ?yb17⟩) (by assumption) ?_
          case yb17 => intro wq hSw; (try dsimp only at hSw); go_simp; (try with_reducible rfl)
          (try simp only [Act.put, List.setIfInBounds_toArray, List.set_cons_zero, List.set_cons_succ])
          refine take_named (i := 18) (d := 104) (v := ?vb18) rfl (by kernel_rfl) (by kernel_rfl) (by kernel_rfl) (by kernel_rfl) (fun _ _ _ h => h) (Or.inl ⟨by kernel_rfl, ?yb18⟩) (by assumption) ?_
          case yb18 => intro wq hSw; (try dsimp only at hSw); go_simp; (try with_reducible rfl)
          (try simp only [Act.put, List.setIfInBounds_toArray, List.set_cons_zero, List.set_cons_succ])
          refine take_named (i := 19) (d := 105) (v := undef) rfl (by kernel_rfl) (by kernel_rfl) (by kernel_rfl) (by kernel_rfl) (fun _ _ _ h => h) (Or.inr ⟨by kernel_rfl, rfl⟩) (by assumption) ?_
          (try simp only [Act.put, List.setIfInBounds_toArray, List.set_cons_zero, List.set_cons_succ])
          refine take_named (i := 20) (d := 106) (v := undef) rfl (by kernel_rfl) (by kernel_rfl) (by kernel_rfl) (by kernel_rfl) (fun _ _ _ h => h) (Or.inr ⟨by kernel_rfl, rfl⟩) (by assumption) ?_
          (try simp only [Act.put, List.setIfInBounds_toArray, List.set_cons_zero, List.set_cons_succ])
          refine take_named (i := 21) (d := 107) (v := ?vb21) rfl (by kernel_rfl) (by kernel_rfl) (by kernel_rfl) (by kernel_rfl) (fun _ _ _ h => h) (Or.inl ⟨by kernel_rfl, ?yb21⟩) (by assumption) ?_
          case yb21 => intro wq hSw; (try dsimp only at hSw); go_simp; (try with_reducible rfl)
          (try simp only [Act.put, List.setIfInBounds_toArray, List.set_cons_zero, List.set_cons_succ])
          refine take_named (i := 22) (d := 108) (v := ?vb22) rfl (by kernel_rfl) (by kernel_rfl) (by kernel_rfl) (by kernel_rfl) (fun _ _ _ h => h) (Or.inl ⟨by kernel_rfl, ?yb22⟩) (by assumption) ?_
          case yb22 => intro wq hSw; (try dsimp only at hSw); go_simp; (try with_reducible rfl)
          (try simp only [Act.put, List.setIfInBounds_toArray, List.set_cons_zero, List.set_cons_succ])
          refine take_named (i := 23) (d := 109) (v := ?vb23) rfl (by kernel_rfl) (by kernel_rfl) (by kernel_rfl) (by kernel_rfl) (fun _ _ _ h => h) (Or.inl ⟨by kernel_rfl, ?yb23⟩) (by assumption) ?_
          case yb23 => intro wq hSw; (try dsimp only at hSw); go_simp; (try with_reducible rfl)
          (try simp only [Act.put, List.setIfInBounds_toArray, List.set_cons_zero, List.set_cons_succ])
          refine take_named (i := 24) (d := 110) (v := ?vb24) rfl (by kernel_rfl) (by kernel_rfl) (by kernel_rfl) (by kernel_rfl) (fun _ _ _ h => h) (Or.inl ⟨by kernel_rfl, ?yb24⟩) (by assumption) ?_
          case yb24 => intro wq hSw; (try dsimp only at hSw); go_simp; (try with_reducible rfl)
          (try simp only [Act.put, List.setIfInBounds_toArray, List.set_cons_zero, List.set_cons_succ])
          refine take_named (i := 25) (d := 111) (v := ?vb25) rfl (by kernel_rfl) (by kernel_rfl) (by kernel_rfl) (by kernel_rfl) (fun _ _ _ h => h) (Or.inl ⟨by kernel_rfl, ?yb25⟩) (by assumption) ?_
          case yb25 => intro wq hSw; (try dsimp only at hSw); go_simp; (try with_reducible rfl)
          (try simp only [Act.put, List.setIfInBounds_toArray, List.set_cons_zero, List.set_cons_succ])
          refine take_named (i := 26) (d := 112) (v := ?vb26) rfl (by kernel_rfl) (by kernel_rfl) (by kernel_rfl) (by kernel_rfl) (fun _ _ _ h => h) (Or.inl ⟨by kernel_rfl, ?yb26⟩) (by assumption) ?_
          case yb26 => intro wq hSw; (try dsimp only at hSw); go_simp; (try with_reducible rfl)
          (try simp only [Act.put, List.setIfInBounds_toArray, List.set_cons_zero, List.set_cons_succ])
          refine take_named (i := 27) (d := 113) (v := ?vb27) rfl (by kernel_rfl) (by kernel_rfl) (by kernel_rfl) (by kernel_rfl) (fun _ _ _ h => h) (Or.inl ⟨by kernel_rfl, ?yb27⟩) (by assumption) ?_
          case yb27 => intro wq hSw; (try dsimp only at hSw); go_simp; (try with_reducible rfl)
          (try simp only [Act.put, List.setIfInBounds_toArray, List.set_cons_zero, List.set_cons_succ])
          refine take_named (i := 28) (d := 114) (v := ?vb28) rfl (by kernel_rfl) (by kernel_rfl) (by kernel_rfl) (by kernel_rfl) (fun _ _ _ h => h) (Or.inl ⟨by kernel_rfl, ?yb28⟩) (by assumption) ?_
          case yb28 => intro wq hSw; (try dsimp only at hSw); go_simp; (try with_reducible rfl)
          (try simp only [Act.put, List.setIfInBounds_toArray, List.set_cons_zero, List.set_cons_succ])
          refine take_named (i := 29) (d := 115) (v := ?vb29) rfl (by kernel_rfl) (by kernel_rfl) (by kernel_rfl) (by kernel_rfl) (fun _ _ _ h => h) (Or.inl ⟨by kernel_rfl, ?yb29⟩) (by assumption) ?_
          case yb29 => intro wq hSw; (try dsimp only at hSw); go_simp; (try with_reducible rfl)
          (try simp only [Act.put, List.setIfInBounds_toArray, List.set_cons_zero, List.set_cons_succ])
          refine take_named (i := 30) (d := 116) (v := ?vb30) rfl (by kernel_rfl) (by kernel_rfl) (by kernel_rfl) (by kernel_rfl) (fun _ _ _ h => h) (Or.inl ⟨by kernel_rfl, ?yb30⟩) (by assumption) ?_
          case yb30 => intro wq hSw; (try dsimp only at hSw); go_simp; (try with_reducible rfl)
          (try simp only [Act.put, List.setIfInBounds_toArray, List.set_cons_zero, List.set_cons_succ])
          refine take_named (i := 31) (d := 117) (v := ?vb31) rfl (by kernel_rfl) (by kernel_rfl) (by kernel_rfl) (by kernel_rfl) (fun _ _ _ h => h) (Or.inl ⟨by kernel_rfl, ?yb31⟩) (by assumption) ?_
          case yb31 => intro wq hSw; (try dsimp only at hSw); go_simp; (try with_reducible rfl)
          (try simp only [Act.put, List.setIfInBounds_toArray, List.set_cons_zero, List.set_cons_succ])
          refine take_named (i := 32) (d := 118) (v := ?vb32) rfl (by kernel_rfl) (by kernel_rfl) (by kernel_rfl) (by kernel_rfl) (fun _ _ _ h => h) (Or.inl ⟨by kernel_rfl, ?yb32⟩) (by assumption) ?_
          case yb32 => intro wq hSw; (try dsimp only at hSw); go_simp; (try with_reducible rfl)
          (try simp only [Act.put, List.setIfInBounds_toArray, List.set_cons_zero, List.set_cons_succ])
          refine wpAnyH_ready (rs := [33]) (by kernel_rfl) (by simp) ?_
          refine AllReadyH.cons rfl (fun K hK => ?_) AllReadyH.nil
          go_simp
          refine (HWz.out _).mono ?_
          rintro ee wq ⟨rfl, hq⟩
          have hba := hd3.trans (hq.mono hd3.size)
          refine hK.out _ _ (HSS.out _ hba) (fun hHeld1 => ?_)
          clear hK K hHeld
          (try simp only [Act.put, List.setIfInBounds_toArray, List.set_cons_zero, List.set_cons_succ])
          refine take_named (i := 34) (d := 120) (v := ?vb34) rfl (by kernel_rfl) (by kernel_rfl) (by kernel_rfl) (by kernel_rfl) (fun _ _ _ h => h) (Or.inl ⟨by kernel_rfl, ?yb34⟩) (by assumption) ?_
          case yb34 => intro wq hSw; (try dsimp only at hSw); go_simp; (try with_reducible rfl)
          (try simp only [Act.put, List.setIfInBounds_toArray, List.set_cons_zero, List.set_cons_succ])
          refine take_named (i := 35) (d := 121) (v := ?vb35) rfl (by kernel_rfl) (by kernel_rfl) (by kernel_rfl) (by kernel_rfl) (fun _ _ _ h => h) (Or.inl ⟨by kernel_rfl, ?yb35⟩) (by assumption) ?_
          case yb35 => intro wq hSw; (try dsimp only at hSw); go_simp; (try with_reducible rfl)
          (try simp only [Act.put, List.setIfInBounds_toArray, List.set_cons_zero, List.set_cons_succ])
          refine take_named (i := 36) (d := 122) (v := ?vb36) rfl (by kernel_rfl) (by kernel_rfl) (by kernel_rfl) (by kernel_rfl) (fun _ _ _ h => h) (Or.inl ⟨by kernel_rfl, ?yb36⟩) (by assumption) ?_
          case yb36 => intro wq hSw; (try dsimp only at hSw); go_simp; (try with_reducible rfl)
          (try simp only [Act.put, List.setIfInBounds_toArray, List.set_cons_zero, List.set_cons_succ])
          refine take_named (i := 37) (d := 123) (v := ?vb37) rfl (by kernel_rfl) (by kernel_rfl) (by kernel_rfl) (by kernel_rfl) (fun _ _ _ h => h) (Or.inl ⟨by kernel_rfl, ?yb37⟩) (by assumption) ?_
          case yb37 => intro wq hSw; (try dsimp only at hSw); go_simp; (try with_reducible rfl)
          (try simp only [Act.put, List.setIfInBounds_toArray, List.set_cons_zero, List.set_cons_succ])
          refine wpAnyH_ready (rs := [38]) (by kernel_rfl) (by simp) ?_
          refine AllReadyH.cons rfl (fun K hK => ?_) AllReadyH.nil
          go_simp
          refine (HAw.out _ hba).mono ?_
          rintro ee wz ⟨rfl, hz⟩
          have hbb := hba.trans (hz.mono hba.size)
          refine hK.out _ _ (HSS.out _ hbb) (fun hHeld2 => ?_)
          clear hK K hHeld1
          (try simp only [Act.put, List.setIfInBounds_toArray, List.set_cons_zero, List.set_cons_succ])
          refine take_named (i := 39) (d := 125) (v := ?vb39) rfl (by kernel_rfl) (by kernel_rfl) (by kernel_rfl) (by kernel_rfl) (fun _ _ _ h => h) (Or.inl ⟨by kernel_rfl, ?yb39⟩) (by assumption) ?_
          case yb39 => intro wq hSw; (try dsimp only at hSw); go_simp; (try with_reducible rfl)
          (try simp only [Act.put, List.setIfInBounds_toArray, List.set_cons_zero, List.set_cons_succ])
          refine take_named (i := 40) (d := 4) (v := ?vb40) rfl (by kernel_rfl) (by kernel_rfl) (by kernel_rfl) (by kernel_rfl) (fun _ _ _ h => h) (Or.inl ⟨by kernel_rfl, ?yb40⟩) (by assumption) ?_
          case yb40 => intro wq hSw; (try dsimp only at hSw); go_simp; (try with_reducible rfl)
          (try simp only [Act.put, List.setIfInBounds_toArray, List.set_cons_zero, List.set_cons_succ])
          refine wpAnyH_done (by kernel_rfl) ?_ _
          go_wp2
          go_ret
          exact ⟨rfl, below_via hBp hbb⟩
      · have c1 : decide (lo < hi) = false := decide_eq_false h1
        have c4 : ¬ lo < hi := h1
        obtain rfl : u0 = 0 := l2.resolve_left h1
        have c5 : ((0 : Int) == 0) = true := rfl
        clear l2
        by_cases h2 : 1 < P.length
        · have c2 : decide ((P.length : Int) > 1) = true := decide_eq_true (by omega)
          have c3 : (1 : Int) < (P.length : Int) := by omega
          refine wp_region_held_drew (S := (fun w' => w'.cell? ⟨g9, 0, none⟩ = some (.int .i64 m1) ∧ w'.cell? ⟨g9, 1, none⟩ = some (.int .i64 m2) ∧ w'.cell? ⟨b, off, none⟩ = some (.int .i64 z))) (by kernel_rfl) (HSS.out _ hd3) (fun hHeld => ?_)
          refine take_named (i := 0) (d := 86) (v := ?vc0) rfl (by kernel_rfl) (by kernel_rfl) (by kernel_rfl) (by kernel_rfl) (fun _ _ _ h => h) (Or.inl ⟨by kernel_rfl, ?yc0⟩) (by assumption) ?_
          case yc0 => intro wq hSw; (try dsimp only at hSw); go_simp; (try with_reducible rfl)
          (try simp only [Act.put, List.setIfInBounds_toArray, List.set_cons_zero, List.set_cons_succ])
          refine take_named (i := 1) (d := 87) (v := ?vc1) rfl (by kernel_rfl) (by kernel_rfl) (by kernel_rfl) (by kernel_rfl) (fun _ _ _ h => h) (Or.inl ⟨by kernel_rfl, ?yc1⟩) (by assumption) ?_
          case yc1 => intro wq hSw; (try dsimp only at hSw); go_simp; (try with_reducible rfl)
          (try simp only [Act.put, List.setIfInBounds_toArray, List.set_cons_zero, List.set_cons_succ])
          refine take_named (i := 2) (d := 88) (v := ?vc2) rfl (by kernel_rfl) (by kernel_rfl) (by kernel_rfl) (by kernel_rfl) (fun _ _ _ h => h) (Or.inl ⟨by kernel_rfl, ?yc2⟩) (by assumption) ?_
          case yc2 => intro wq hSw; (try dsimp only at hSw); go_simp; (try with_reducible rfl)
          (try simp only [Act.put, List.setIfInBounds_toArray, List.set_cons_zero, List.set_cons_succ])
          refine take_named (i := 3) (d := 89) (v := ?vc3) rfl (by kernel_rfl) (by kernel_rfl) (by kernel_rfl) (by kernel_rfl) (fun _ _ _ h => h) (Or.inl ⟨by kernel_rfl, ?yc3⟩) (by assumption) ?_
          case yc3 => intro wq hSw; (try dsimp only at hSw); go_simp; (try with_reducible rfl)
          (try simp only [Act.put, List.setIfInBounds_toArray, List.set_cons_zero, List.set_cons_succ])
          refine take_named (i := 4) (d := 90) (v := ?vc4) rfl (by kernel_rfl) (by kernel_rfl) (by kernel_rfl) (by kernel_rfl) (fun _ _ _ h => h) (Or.inl ⟨by kernel_rfl, ?yc4⟩) (by assumption) ?_
          case yc4 => intro wq hSw; (try dsimp only at hSw); go_simp; (try with_reducible rfl)
          (try simp only [Act.put, List.setIfInBounds_toArray, List.set_cons_zero, List.set_cons_succ])
          refine take_named (i := 5) (d := 91) (v := ?vc5) rfl (by kernel_rfl) (by kernel_rfl) (by kernel_rfl) (by kernel_rfl) (fun _ _ _ h => h) (Or.inl ⟨by kernel_rfl, ?yc5⟩) (by assumption) ?_
          case yc5 => intro wq hSw; (try dsimp only at hSw); go_simp; (try with_reducible rfl)
          (try simp only [Act.put, List.setIfInBounds_toArray, List.set_cons_zero, List.set_cons_succ])
          refine take_named (i := 6) (d := 92) (v := ?vc6) rfl (by kernel_rfl) (by kernel_rfl) (by kernel_rfl) (by kernel_rfl) (fun _ _ _ h => h) (Or.inl ⟨by kernel_rfl, ?yc6⟩) (by assumption) ?_
          case yc6 => intro wq hSw; (try dsimp only at hSw); go_simp; (try with_reducible rfl)
          (try simp only [Act.put, List.setIfInBounds_toArray, List.set_cons_zero, List.set_cons_succ])
          refine take_named (i := 7) (d := 93) (v := ?vc7) rfl (by kernel_rfl) (by kernel_rfl) (by kernel_rfl) (by kernel_rfl) (fun _ _ _ h => h) (Or.inl ⟨by kernel_rfl, ?yc7⟩) (by assumption) ?_
          case yc7 => intro wq hSw; (try dsimp only at hSw); go_simp; (try with_reducible rfl)
          (try simp only [Act.put, List.setIfInBounds_toArray, List.set_cons_zero, List.set_cons_succ])
          refine take_named (i := 8) (d := 94) (v := ?vc8) rfl (by kernel_rfl) (by kernel_rfl) (by kernel_rfl) (by kernel_rfl) (fun _ _ _ h => h) (Or.inl ⟨by kernel_rfl, ?yc8⟩) (by assumption) ?_
          case yc8 => intro wq hSw; (try dsimp only at hSw); go_simp; (try with_reducible rfl)
          (try simp only [Act.put, List.setIfInBounds_toArray, List.set_cons_zero, List.set_cons_succ])
          refine take_named (i := 9) (d := 95) (v := ?vc9) rfl (by kernel_rfl) (by kernel_rfl) (by kernel_rfl) (by kernel_rfl) (fun _ _ _ h => h) (Or.inl ⟨by kernel_rfl, ?yc9⟩) (by assumption) ?_
          case yc9 => intro wq hSw; (try dsimp only at hSw); go_simp; (try with_reducible rfl)
          (try simp only [Act.put, List.setIfInBounds_toArray, List.set_cons_zero, List.set_cons_succ])
          refine take_named (i := 10) (d := 96) (v := ?vc10) rfl (by kernel_rfl) (by kernel_rfl) (by kernel_rfl) (by kernel_rfl) (fun _ _ _ h => h) (Or.inl ⟨by kernel_rfl, ?yc10⟩) (by assumption) ?_
          case yc10 => intro wq hSw; (try dsimp only at hSw); go_simp; (try with_reducible rfl)
          (try simp only [Act.put, List.setIfInBounds_toArray, List.set_cons_zero, List.set_cons_succ])
          refine take_named (i := 11) (d := 97) (v := ?vc11) rfl (by kernel_rfl) (by kernel_rfl) (by kernel_rfl) (by kernel_rfl) (fun _ _ _ h => h) (Or.inl ⟨by kernel_rfl, ?yc11⟩) (by assumption) ?_
          case yc11 => intro wq hSw; (try dsimp only at hSw); go_simp; (try with_reducible rfl)
          (try simp only [Act.put, List.setIfInBounds_toArray, List.set_cons_zero, List.set_cons_succ])
          refine take_named (i := 12) (d := 98) (v := ?vc12) rfl (by kernel_rfl) (by kernel_rfl) (by kernel_rfl) (by kernel_rfl) (fun _ _ _ h => h) (Or.inl ⟨by kernel_rfl, ?yc12⟩) (by assumption) ?_
          case yc12 => intro wq hSw; (try dsimp only at hSw); go_simp; (try with_reducible rfl)
          (try simp only [Act.put, List.setIfInBounds_toArray, List.set_cons_zero, List.set_cons_succ])
          refine take_named (i := 13) (d := 99) (v := ?vc13) rfl (by kernel_rfl) (by kernel_rfl) (by kernel_rfl) (by kernel_rfl) (fun _ _ _ h => h) (Or.inl ⟨by kernel_rfl, ?yc13⟩) (by assumption) ?_
          case yc13 => intro wq hSw; (try dsimp only at hSw); go_simp; (try with_reducible rfl)
          (try simp only [Act.put, List.setIfInBounds_toArray, List.set_cons_zero, List.set_cons_succ])
          refine take_named (i := 14) (d := 100) (v := ?vc14) rfl (by kernel_rfl) (by kernel_rfl) (by kernel_rfl) (by kernel_rfl) (fun _ _ _ h => h) (Or.inl ⟨by kernel_rfl, ?yc14⟩) (by assumption) ?_
          case yc14 => intro wq hSw; (try dsimp only at hSw); go_simp; (try with_reducible rfl)
          (try simp only [Act.put, List.setIfInBounds_toArray, List.set_cons_zero, List.set_cons_succ])
          refine take_named (i := 15) (d := 101) (v := ?vc15) rfl (by kernel_rfl) (by kernel_rfl) (by kernel_rfl) (by kernel_rfl) (fun _ _ _ h => h) (Or.inl ⟨by kernel_rfl, ?yc15⟩) (by assumption) ?_
          case yc15 => intro wq hSw; (try dsimp only at hSw); go_simp; (try with_reducible rfl)
          (try simp only [Act.put, List.setIfInBounds_toArray, List.set_cons_zero, List.set_cons_succ])
          refine take_named (i := 16) (d := 102) (v := ?vc16) rfl (by kernel_rfl) (by kernel_rfl) (by kernel_rfl) (by kernel_rfl) (fun _ _ _ h => h) (Or.inl ⟨by kernel_rfl, ?yc16⟩) (by assumption) ?_
          case yc16 => intro wq hSw; (try dsimp only at hSw); go_simp; (try with_reducible rfl)
          (try simp only [Act.put, List.setIfInBounds_toArray, List.set_cons_zero, List.set_cons_succ])
          refine take_named (i := 17) (d := 103) (v := ?vc17) rfl (by kernel_rfl) (by kernel_rfl) (by kernel_rfl) (by kernel_rfl) (fun _ _ _ h => h) (Or.inl ⟨by kernel_rfl, ?yc17⟩) (by assumption) ?_
          case yc17 => intro wq hSw; (try dsimp only at hSw); go_simp; (try with_reducible rfl)
          (try simp only [Act.put, List.setIfInBounds_toArray, List.set_cons_zero, List.set_cons_succ])
          refine take_named (i := 18) (d := 104) (v := ?vc18) rfl (by kernel_rfl) (by kernel_rfl) (by kernel_rfl) (by kernel_rfl) (fun _ _ _ h => h) (Or.inl ⟨by kernel_rfl, ?yc18⟩) (by assumption) ?_
          case yc18 => intro wq hSw; (try dsimp only at hSw); go_simp; (try with_reducible rfl)
          (try simp only [Act.put, List.setIfInBounds_toArray, List.set_cons_zero, List.set_cons_succ])
          refine take_named (i := 19) (d := 105) (v := ?vc19) rfl (by kernel_rfl) (by kernel_rfl) (by kernel_rfl) (by kernel_rfl) (fun _ _ _ h => h) (Or.inl ⟨by kernel_rfl, ?yc19⟩) (by assumption) ?_
          case yc19 => intro wq hSw; (try dsimp only at hSw); go_simp; (try with_reducible rfl)
          (try simp only [Act.put, List.setIfInBounds_toArray, List.set_cons_zero, List.set_cons_succ])
          refine take_named (i := 20) (d := 106) (v := ?vc20) rfl (by kernel_rfl) (by kernel_rfl) (by kernel_rfl) (by kernel_rfl) (fun _ _ _ h => h) (Or.inl ⟨by kernel_rfl, ?yc20⟩) (by assumption) ?_
          case yc20 => intro wq hSw; (try dsimp only at hSw); go_simp; (try with_reducible rfl)
          (try simp only [Act.put, List.setIfInBounds_toArray, List.set_cons_zero, List.set_cons_succ])
          refine take_named (i := 21) (d := 107) (v := ?vc21) rfl (by kernel_rfl) (by kernel_rfl) (by kernel_rfl) (by kernel_rfl) (fun _ _ _ h => h) (Or.inl ⟨by kernel_rfl, ?yc21⟩) (by assumption) ?_
          case yc21 => intro wq hSw; (try dsimp only at hSw); go_simp; (try with_reducible rfl)
          (try simp only [Act.put, List.setIfInBounds_toArray, List.set_cons_zero, List.set_cons_succ])
          refine take_named (i := 22) (d := 108) (v := ?vc22) rfl (by kernel_rfl) (by kernel_rfl) (by kernel_rfl) (by kernel_rfl) (fun _ _ _ h => h) (Or.inl ⟨by kernel_rfl, ?yc22⟩) (by assumption) ?_
          case yc22 => intro wq hSw; (try dsimp only at hSw); go_simp; (try with_reducible rfl)
          (try simp only [Act.put, List.setIfInBounds_toArray, List.set_cons_zero, List.set_cons_succ])
          refine take_named (i := 23) (d := 109) (v := ?vc23) rfl (by kernel_rfl) (by kernel_rfl) (by kernel_rfl) (by kernel_rfl) (fun _ _ _ h => h) (Or.inl ⟨by kernel_rfl, ?yc23⟩) (by assumption) ?_
          case yc23 => intro wq hSw; (try dsimp only at hSw); go_simp; (try with_reducible rfl)
          (try simp only [Act.put, List.setIfInBounds_toArray, List.set_cons_zero, List.set_cons_succ])
          refine take_named (i := 24) (d := 110) (v := ?vc24) rfl (by kernel_rfl) (by kernel_rfl) (by kernel_rfl) (by kernel_rfl) (fun _ _ _ h => h) (Or.inl ⟨by kernel_rfl, ?yc24⟩) (by assumption) ?_
          case yc24 => intro wq hSw; (try dsimp only at hSw); go_simp; (try with_reducible rfl)
          (try simp only [Act.put, List.setIfInBounds_toArray, List.set_cons_zero, List.set_cons_succ])
          refine take_named (i := 25) (d := 111) (v := ?vc25) rfl (by kernel_rfl) (by kernel_rfl) (by kernel_rfl) (by kernel_rfl) (fun _ _ _ h => h) (Or.inl ⟨by kernel_rfl, ?yc25⟩) (by assumption) ?_
          case yc25 => intro wq hSw; (try dsimp only at hSw); go_simp; (try with_reducible rfl)
          (try simp only [Act.put, List.setIfInBounds_toArray, List.set_cons_zero, List.set_cons_succ])
          refine take_named (i := 26) (d := 112) (v := ?vc26) rfl (by kernel_rfl) (by kernel_rfl) (by kernel_rfl) (by kernel_rfl) (fun _ _ _ h => h) (Or.inl ⟨by kernel_rfl, ?yc26⟩) (by assumption) ?_
          case yc26 => intro wq hSw; (try dsimp only at hSw); go_simp; (try with_reducible rfl)
          (try simp only [Act.put, List.setIfInBounds_toArray, List.set_cons_zero, List.set_cons_succ])
          refine take_named (i := 27) (d := 113) (v := ?vc27) rfl (by kernel_rfl) (by kernel_rfl) (by kernel_rfl) (by kernel_rfl) (fun _ _ _ h => h) (Or.inl ⟨by kernel_rfl, ?yc27⟩) (by assumption) ?_
          case yc27 => intro wq hSw; (try dsimp only at hSw); go_simp; (try with_reducible rfl)
          (try simp only [Act.put, List.setIfInBounds_toArray, List.set_cons_zero, List.set_cons_succ])
          refine take_named (i := 28) (d := 114) (v := undef) rfl (by kernel_rfl) (by kernel_rfl) (by kernel_rfl) (by kernel_rfl) (fun _ _ _ h => h) (Or.inr ⟨by kernel_rfl, rfl⟩) (by assumption) ?_
          (try simp only [Act.put, List.setIfInBounds_toArray, List.set_cons_zero, List.set_cons_succ])
          refine take_named (i := 29) (d := 115) (v := undef) rfl (by kernel_rfl) (by kernel_rfl) (by kernel_rfl) (by kernel_rfl) (fun _ _ _ h => h) (Or.inr ⟨by kernel_rfl, rfl⟩) (by assumption) ?_
          (try simp only [Act.put, List.setIfInBounds_toArray, List.set_cons_zero, List.set_cons_succ])
          refine take_named (i := 30) (d := 116) (v := undef) rfl (by kernel_rfl) (by kernel_rfl) (by kernel_rfl) (by kernel_rfl) (fun _ _ _ h => h) (Or.inr ⟨by kernel_rfl, rfl⟩) (by assumption) ?_
          (try simp only [Act.put, List.setIfInBounds_toArray, List.set_cons_zero, List.set_cons_succ])
          refine take_named (i := 31) (d := 117) (v := undef) rfl (by kernel_rfl) (by kernel_rfl) (by kernel_rfl) (by kernel_rfl) (fun _ _ _ h => h) (Or.inr ⟨by kernel_rfl, rfl⟩) (by assumption) ?_
          (try simp only [Act.put, List.setIfInBounds_toArray, List.set_cons_zero, List.set_cons_succ])
          refine take_named (i := 32) (d := 118) (v := undef) rfl (by kernel_rfl) (by kernel_rfl) (by kernel_rfl) (by kernel_rfl) (fun _ _ _ h => h) (Or.inr ⟨by kernel_rfl, rfl⟩) (by assumption) ?_
          (try simp only [Act.put, List.setIfInBounds_toArray, List.set_cons_zero, List.set_cons_succ])
          refine take_named (i := 33) (d := 119) (v := undef) rfl (by kernel_rfl) (by kernel_rfl) (by kernel_rfl) (by kernel_rfl) (fun _ _ _ h => h) (Or.inr ⟨by kernel_rfl, rfl⟩) (by assumption) ?_
          (try simp only [Act.put, List.setIfInBounds_toArray, List.set_cons_zero, List.set_cons_succ])
          refine take_named (i := 34) (d := 120) (v := undef) rfl (by kernel_rfl) (by kernel_rfl) (by kernel_rfl) (by kernel_rfl) (fun _ _ _ h => h) (Or.inr ⟨by kernel_rfl, rfl⟩) (by assumption) ?_
          (try simp only [Act.put, List.setIfInBounds_toArray, List.set_cons_zero, List.set_cons_succ])
          refine take_named (i := 35) (d := 121) (v := ?vc35) rfl (by kernel_rfl) (by kernel_rfl) (by kernel_rfl) (by kernel_rfl) (fun _ _ _ h => h) (Or.inl ⟨by kernel_rfl, ?yc35⟩) (by assumption) ?_
          case yc35 => intro wq hSw; (try dsimp only at hSw); go_simp; (try with_reducible rfl)
          (try simp only [Act.put, List.setIfInBounds_toArray, List.set_cons_zero, List.set_cons_succ])
          refine take_named (i := 36) (d := 122) (v := ?vc36) rfl (by kernel_rfl) (by kernel_rfl) (by kernel_rfl) (by kernel_rfl) (fun _ _ _ h => h) (Or.inl ⟨by kernel_rfl, ?yc36⟩) (by assumption) ?_
          case yc36 => intro wq hSw; (try dsimp only at hSw); go_simp; (try with_reducible rfl)
          (try simp only [Act.put, List.setIfInBounds_toArray, List.set_cons_zero, List.set_cons_succ])
          refine take_named (i := 37) (d := 123) (v := ?vc37) rfl (by kernel_rfl) (by kernel_rfl) (by kernel_rfl) (by kernel_rfl) (fun _ _ _ h => h) (Or.inl ⟨by kernel_rfl, ?yc37⟩) (by assumption) ?_
          case yc37 => intro wq hSw; (try dsimp only at hSw); go_simp; (try with_reducible rfl)
          (try simp only [Act.put, List.setIfInBounds_toArray, List.set_cons_zero, List.set_cons_succ])
          refine wpAnyH_ready (rs := [38]) (by kernel_rfl) (by simp) ?_
          refine AllReadyH.cons rfl (fun K hK => ?_) AllReadyH.nil
          go_simp
          refine (HAw.out _ hd3).mono ?_
          rintro ee wz ⟨rfl, hz⟩
          have hbb := hd3.trans (hz.mono hd3.size)
          refine hK.out _ _ (HSS.out _ hbb) (fun hHeld1 => ?_)
          clear hK K hHeld
          (try simp only [Act.put, List.setIfInBounds_toArray, List.set_cons_zero, List.set_cons_succ])
          refine take_named (i := 39) (d := 125) (v := ?vc39) rfl (by kernel_rfl) (by kernel_rfl) (by kernel_rfl) (by kernel_rfl) (fun _ _ _ h => h) (Or.inl ⟨by kernel_rfl, ?yc39⟩) (by assumption) ?_
          case yc39 => intro wq hSw; (try dsimp only at hSw); go_simp; (try with_reducible rfl)
          (try simp only [Act.put, List.setIfInBounds_toArray, List.set_cons_zero, List.set_cons_succ])
          refine take_named (i := 40) (d := 4) (v := ?vc40) rfl (by kernel_rfl) (by kernel_rfl) (by kernel_rfl) (by kernel_rfl) (fun _ _ _ h => h) (Or.inl ⟨by kernel_rfl, ?yc40⟩) (by assumption) ?_
          case yc40 => intro wq hSw; (try dsimp only at hSw); go_simp; (try with_reducible rfl)
          (try simp only [Act.put, List.setIfInBounds_toArray, List.set_cons_zero, List.set_cons_succ])
          refine wpAnyH_done (by kernel_rfl) ?_ _
          go_wp2
          go_ret
          exact ⟨rfl, below_via hBp hbb⟩
        · have c2 : decide ((P.length : Int) > 1) = false := decide_eq_false (by omega)
          have c3 : ¬ (1 : Int) < (P.length : Int) := by omega
          obtain ⟨rfl, rfl⟩ : m1 = z ∧ m2 = 1 := by rcases l3 with h | h; exact absurd h h2; injection h with h1 h2; exact ⟨h1, h2⟩
          refine wp_region_held_drew (S := (fun w' => w'.cell? ⟨g9, 0, none⟩ = some (.int .i64 m1) ∧ w'.cell? ⟨g9, 1, none⟩ = some (.int .i64 1) ∧ w'.cell? ⟨b, off, none⟩ = some (.int .i64 m1))) (by kernel_rfl) (HSS.out _ hd3) (fun hHeld => ?_)
          refine take_named (i := 0) (d := 86) (v := ?vd0) rfl (by kernel_rfl) (by kernel_rfl) (by kernel_rfl) (by kernel_rfl) (fun _ _ _ h => h) (Or.inl ⟨by kernel_rfl, ?yd0⟩) (by assumption) ?_
          case yd0 => intro wq hSw; (try dsimp only at hSw); go_simp; (try with_reducible rfl)
          (try simp only [Act.put, List.setIfInBounds_toArray, List.set_cons_zero, List.set_cons_succ])
          refine take_named (i := 1) (d := 87) (v := ?vd1) rfl (by kernel_rfl) (by kernel_rfl) (by kernel_rfl) (by kernel_rfl) (fun _ _ _ h => h) (Or.inl ⟨by kernel_rfl, ?yd1⟩) (by assumption) ?_
          case yd1 => intro wq hSw; (try dsimp only at hSw); go_simp; (try with_reducible rfl)
          (try simp only [Act.put, List.setIfInBounds_toArray, List.set_cons_zero, List.set_cons_succ])
          refine take_named (i := 2) (d := 88) (v := ?vd2) rfl (by kernel_rfl) (by kernel_rfl) (by kernel_rfl) (by kernel_rfl) (fun _ _ _ h => h) (Or.inl ⟨by kernel_rfl, ?yd2⟩) (by assumption) ?_
          case yd2 => intro wq hSw; (try dsimp only at hSw); go_simp; (try with_reducible rfl)
          (try simp only [Act.put, List.setIfInBounds_toArray, List.set_cons_zero, List.set_cons_succ])
          refine take_named (i := 3) (d := 89) (v := ?vd3) rfl (by kernel_rfl) (by kernel_rfl) (by kernel_rfl) (by kernel_rfl) (fun _ _ _ h => h) (Or.inl ⟨by kernel_rfl, ?yd3⟩) (by assumption) ?_
          case yd3 => intro wq hSw; (try dsimp only at hSw); go_simp; (try with_reducible rfl)
          (try simp only [Act.put, List.setIfInBounds_toArray, List.set_cons_zero, List.set_cons_succ])
          refine take_named (i := 4) (d := 90) (v := ?vd4) rfl (by kernel_rfl) (by kernel_rfl) (by kernel_rfl) (by kernel_rfl) (fun _ _ _ h => h) (Or.inl ⟨by kernel_rfl, ?yd4⟩) (by assumption) ?_
          case yd4 => intro wq hSw; (try dsimp only at hSw); go_simp; (try with_reducible rfl)
          (try simp only [Act.put, List.setIfInBounds_toArray, List.set_cons_zero, List.set_cons_succ])
          refine take_named (i := 5) (d := 91) (v := ?vd5) rfl (by kernel_rfl) (by kernel_rfl) (by kernel_rfl) (by kernel_rfl) (fun _ _ _ h => h) (Or.inl ⟨by kernel_rfl, ?yd5⟩) (by assumption) ?_
          case yd5 => intro wq hSw; (try dsimp only at hSw); go_simp; (try with_reducible rfl)
          (try simp only [Act.put, List.setIfInBounds_toArray, List.set_cons_zero, List.set_cons_succ])
          refine take_named (i := 6) (d := 92) (v := ?vd6) rfl (by kernel_rfl) (by kernel_rfl) (by kernel_rfl) (by kernel_rfl) (fun _ _ _ h => h) (Or.inl ⟨by kernel_rfl, ?yd6⟩) (by assumption) ?_
          case yd6 => intro wq hSw; (try dsimp only at hSw); go_simp; (try with_reducible rfl)
          (try simp only [Act.put, List.setIfInBounds_toArray, List.set_cons_zero, List.set_cons_succ])
          refine take_named (i := 7) (d := 93) (v := ?vd7) rfl (by kernel_rfl) (by kernel_rfl) (by kernel_rfl) (by kernel_rfl) (fun _ _ _ h => h) (Or.inl ⟨by kernel_rfl, ?yd7⟩) (by assumption) ?_
          case yd7 => intro wq hSw; (try dsimp only at hSw); go_simp; (try with_reducible rfl)
          (try simp only [Act.put, List.setIfInBounds_toArray, List.set_cons_zero, List.set_cons_succ])
          refine take_named (i := 8) (d := 94) (v := ?vd8) rfl (by kernel_rfl) (by kernel_rfl) (by kernel_rfl) (by kernel_rfl) (fun _ _ _ h => h) (Or.inl ⟨by kernel_rfl, ?yd8⟩) (by assumption) ?_
          case yd8 => intro wq hSw; (try dsimp only at hSw); go_simp; (try with_reducible rfl)
          (try simp only [Act.put, List.setIfInBounds_toArray, List.set_cons_zero, List.set_cons_succ])
          refine take_named (i := 9) (d := 95) (v := ?vd9) rfl (by kernel_rfl) (by kernel_rfl) (by kernel_rfl) (by kernel_rfl) (fun _ _ _ h => h) (Or.inl ⟨by kernel_rfl, ?yd9⟩) (by assumption) ?_
          case yd9 => intro wq hSw; (try dsimp only at hSw); go_simp; (try with_reducible rfl)
          (try simp only [Act.put, List.setIfInBounds_toArray, List.set_cons_zero, List.set_cons_succ])
          refine take_named (i := 10) (d := 96) (v := ?vd10) rfl (by kernel_rfl) (by kernel_rfl) (by kernel_rfl) (by kernel_rfl) (fun _ _ _ h => h) (Or.inl ⟨by kernel_rfl, ?yd10⟩) (by assumption) ?_
          case yd10 => intro wq hSw; (try dsimp only at hSw); go_simp; (try with_reducible rfl)
          (try simp only [Act.put, List.setIfInBounds_toArray, List.set_cons_zero, List.set_cons_succ])
          refine take_named (i := 11) (d := 97) (v := ?vd11) rfl (by kernel_rfl) (by kernel_rfl) (by kernel_rfl) (by kernel_rfl) (fun _ _ _ h => h) (Or.inl ⟨by kernel_rfl, ?yd11⟩) (by assumption) ?_
          case yd11 => intro wq hSw; (try dsimp only at hSw); go_simp; (try with_reducible rfl)
          (try simp only [Act.put, List.setIfInBounds_toArray, List.set_cons_zero, List.set_cons_succ])
          refine take_named (i := 12) (d := 98) (v := ?vd12) rfl (by kernel_rfl) (by kernel_rfl) (by kernel_rfl) (by kernel_rfl) (fun _ _ _ h => h) (Or.inl ⟨by kernel_rfl, ?yd12⟩) (by assumption) ?_
          case yd12 => intro wq hSw; (try dsimp only at hSw); go_simp; (try with_reducible rfl)
          (try simp only [Act.put, List.setIfInBounds_toArray, List.set_cons_zero, List.set_cons_succ])
          refine take_named (i := 13) (d := 99) (v := ?vd13) rfl (by kernel_rfl) (by kernel_rfl) (by kernel_rfl) (by kernel_rfl) (fun _ _ _ h => h) (Or.inl ⟨by kernel_rfl, ?yd13⟩) (by assumption) ?_
          case yd13 => intro wq hSw; (try dsimp only at hSw); go_simp; (try with_reducible rfl)
          (try simp only [Act.put, List.setIfInBounds_toArray, List.set_cons_zero, List.set_cons_succ])
          refine take_named (i := 14) (d := 100) (v := ?vd14) rfl (by kernel_rfl) (by kernel_rfl) (by kernel_rfl) (by kernel_rfl) (fun _ _ _ h => h) (Or.inl ⟨by kernel_rfl, ?yd14⟩) (by assumption) ?_
          case yd14 => intro wq hSw; (try dsimp only at hSw); go_simp; (try with_reducible rfl)
          (try simp only [Act.put, List.setIfInBounds_toArray, List.set_cons_zero, List.set_cons_succ])
          refine take_named (i := 15) (d := 101) (v := ?vd15) rfl (by kernel_rfl) (by kernel_rfl) (by kernel_rfl) (by kernel_rfl) (fun _ _ _ h => h) (Or.inl ⟨by kernel_rfl, ?yd15⟩) (by assumption) ?_
          case yd15 => intro wq hSw; (try dsimp only at hSw); go_simp; (try with_reducible rfl)
          (try simp only [Act.put, List.setIfInBounds_toArray, List.set_cons_zero, List.set_cons_succ])
          refine take_named (i := 16) (d := 102) (v := ?vd16) rfl (by kernel_rfl) (by kernel_rfl) (by kernel_rfl) (by kernel_rfl) (fun _ _ _ h => h) (Or.inl ⟨by kernel_rfl, ?yd16⟩) (by assumption) ?_
          case yd16 => intro wq hSw; (try dsimp only at hSw); go_simp; (try with_reducible rfl)
          (try simp only [Act.put, List.setIfInBounds_toArray, List.set_cons_zero, List.set_cons_succ])
          refine take_named (i := 17) (d := 103) (v := ?vd17) rfl (by kernel_rfl) (by kernel_rfl) (by kernel_rfl) (by kernel_rfl) (fun _ _ _ h => h) (Or.inl ⟨by kernel_rfl, ?yd17⟩) (by assumption) ?_
          case yd17 => intro wq hSw; (try dsimp only at hSw); go_simp; (try with_reducible rfl)
          (try simp only [Act.put, List.setIfInBounds_toArray, List.set_cons_zero, List.set_cons_succ])
          refine take_named (i := 18) (d := 104) (v := ?vd18) rfl (by kernel_rfl) (by kernel_rfl) (by kernel_rfl) (by kernel_rfl) (fun _ _ _ h => h) (Or.inl ⟨by kernel_rfl, ?yd18⟩) (by assumption) ?_
          case yd18 => intro wq hSw; (try dsimp only at hSw); go_simp; (try with_reducible rfl)
          (try simp only [Act.put, List.setIfInBounds_toArray, List.set_cons_zero, List.set_cons_succ])
          refine take_named (i := 19) (d := 105) (v := ?vd19) rfl (by kernel_rfl) (by kernel_rfl) (by kernel_rfl) (by kernel_rfl) (fun _ _ _ h => h) (Or.inl ⟨by kernel_rfl, ?yd19⟩) (by assumption) ?_
          case yd19 => intro wq hSw; (try dsimp only at hSw); go_simp; (try with_reducible rfl)
          (try simp only [Act.put, List.setIfInBounds_toArray, List.set_cons_zero, List.set_cons_succ])
          refine take_named (i := 20) (d := 106) (v := ?vd20) rfl (by kernel_rfl) (by kernel_rfl) (by kernel_rfl) (by kernel_rfl) (fun _ _ _ h => h) (Or.inl ⟨by kernel_rfl, ?yd20⟩) (by assumption) ?_
          case yd20 => intro wq hSw; (try dsimp only at hSw); go_simp; (try with_reducible rfl)
          (try simp only [Act.put, List.setIfInBounds_toArray, List.set_cons_zero, List.set_cons_succ])
          refine take_named (i := 21) (d := 107) (v := ?vd21) rfl (by kernel_rfl) (by kernel_rfl) (by kernel_rfl) (by kernel_rfl) (fun _ _ _ h => h) (Or.inl ⟨by kernel_rfl, ?yd21⟩) (by assumption) ?_
          case yd21 => intro wq hSw; (try dsimp only at hSw); go_simp; (try with_reducible rfl)
          (try simp only [Act.put, List.setIfInBounds_toArray, List.set_cons_zero, List.set_cons_succ])
          refine take_named (i := 22) (d := 108) (v := ?vd22) rfl (by kernel_rfl) (by kernel_rfl) (by kernel_rfl) (by kernel_rfl) (fun _ _ _ h => h) (Or.inl ⟨by kernel_rfl, ?yd22⟩) (by assumption) ?_
          case yd22 => intro wq hSw; (try dsimp only at hSw); go_simp; (try with_reducible rfl)
          (try simp only [Act.put, List.setIfInBounds_toArray, List.set_cons_zero, List.set_cons_succ])
          refine take_named (i := 23) (d := 109) (v := ?vd23) rfl (by kernel_rfl) (by kernel_rfl) (by kernel_rfl) (by kernel_rfl) (fun _ _ _ h => h) (Or.inl ⟨by kernel_rfl, ?yd23⟩) (by assumption) ?_
          case yd23 => intro wq hSw; (try dsimp only at hSw); go_simp; (try with_reducible rfl)
          (try simp only [Act.put, List.setIfInBounds_toArray, List.set_cons_zero, List.set_cons_succ])
          refine take_named (i := 24) (d := 110) (v := ?vd24) rfl (by kernel_rfl) (by kernel_rfl) (by kernel_rfl) (by kernel_rfl) (fun _ _ _ h => h) (Or.inl ⟨by kernel_rfl, ?yd24⟩) (by assumption) ?_
          case yd24 => intro wq hSw; (try dsimp only at hSw); go_simp; (try with_reducible rfl)
          (try simp only [Act.put, List.setIfInBounds_toArray, List.set_cons_zero, List.set_cons_succ])
          refine take_named (i := 25) (d := 111) (v := ?vd25) rfl (by kernel_rfl) (by kernel_rfl) (by kernel_rfl) (by kernel_rfl) (fun _ _ _ h => h) (Or.inl ⟨by kernel_rfl, ?yd25⟩) (by assumption) ?_
          case yd25 => intro wq hSw; (try dsimp only at hSw); go_simp; (try with_reducible rfl)
          (try simp only [Act.put, List.setIfInBounds_toArray, List.set_cons_zero, List.set_cons_succ])
          refine take_named (i := 26) (d := 112) (v := ?vd26) rfl (by kernel_rfl) (by kernel_rfl) (by kernel_rfl) (by kernel_rfl) (fun _ _ _ h => h) (Or.inl ⟨by kernel_rfl, ?yd26⟩) (by assumption) ?_
          case yd26 => intro wq hSw; (try dsimp only at hSw); go_simp; (try with_reducible rfl)
          (try simp only [Act.put, List.setIfInBounds_toArray, List.set_cons_zero, List.set_cons_succ])
          refine take_named (i := 27) (d := 113) (v := ?vd27) rfl (by kernel_rfl) (by kernel_rfl) (by kernel_rfl) (by kernel_rfl) (fun _ _ _ h => h) (Or.inl ⟨by kernel_rfl, ?yd27⟩) (by assumption) ?_
          case yd27 => intro wq hSw; (try dsimp only at hSw); go_simp; (try with_reducible rfl)
          (try simp only [Act.put, List.setIfInBounds_toArray, List.set_cons_zero, List.set_cons_succ])
          refine take_named (i := 28) (d := 114) (v := ?vd28) rfl (by kernel_rfl) (by kernel_rfl) (by kernel_rfl) (by kernel_rfl) (fun _ _ _ h => h) (Or.inl ⟨by kernel_rfl, ?yd28⟩) (by assumption) ?_
          case yd28 => intro wq hSw; (try dsimp only at hSw); go_simp; (try with_reducible rfl)
          (try simp only [Act.put, List.setIfInBounds_toArray, List.set_cons_zero, List.set_cons_succ])
          refine take_named (i := 29) (d := 115) (v := ?vd29) rfl (by kernel_rfl) (by kernel_rfl) (by kernel_rfl) (by kernel_rfl) (fun _ _ _ h => h) (Or.inl ⟨by kernel_rfl, ?yd29⟩) (by assumption) ?_
          case yd29 => intro wq hSw; (try dsimp only at hSw); go_simp; (try with_reducible rfl)
          (try simp only [Act.put, List.setIfInBounds_toArray, List.set_cons_zero, List.set_cons_succ])
          refine take_named (i := 30) (d := 116) (v := ?vd30) rfl (by kernel_rfl) (by kernel_rfl) (by kernel_rfl) (by kernel_rfl) (fun _ _ _ h => h) (Or.inl ⟨by kernel_rfl, ?yd30⟩) (by assumption) ?_
          case yd30 => intro wq hSw; (try dsimp only at hSw); go_simp; (try with_reducible rfl)
          (try simp only [Act.put, List.setIfInBounds_toArray, List.set_cons_zero, List.set_cons_succ])
          refine take_named (i := 31) (d := 117) (v := ?vd31) rfl (by kernel_rfl) (by kernel_rfl) (by kernel_rfl) (by kernel_rfl) (fun _ _ _ h => h) (Or.inl ⟨by kernel_rfl, ?yd31⟩) (by assumption) ?_
          case yd31 => intro wq hSw; (try dsimp only at hSw); go_simp; (try with_reducible rfl)
          (try simp only [Act.put, List.setIfInBounds_toArray, List.set_cons_zero, List.set_cons_succ])
          refine take_named (i := 32) (d := 118) (v := ?vd32) rfl (by kernel_rfl) (by kernel_rfl) (by kernel_rfl) (by kernel_rfl) (fun _ _ _ h => h) (Or.inl ⟨by kernel_rfl, ?yd32⟩) (by assumption) ?_
          case yd32 => intro wq hSw; (try dsimp only at hSw); go_simp; (try with_reducible rfl)
          (try simp only [Act.put, List.setIfInBounds_toArray, List.set_cons_zero, List.set_cons_succ])
          refine wpAnyH_ready (rs := [33]) (by kernel_rfl) (by simp) ?_
          refine AllReadyH.cons rfl (fun K hK => ?_) AllReadyH.nil
          go_simp
          refine (HWz.out _).mono ?_
          rintro ee wq ⟨rfl, hq⟩
          have hba := hd3.trans (hq.mono hd3.size)
          refine hK.out _ _ (HSS.out _ hba) (fun hHeld1 => ?_)
          clear hK K hHeld
          (try simp only [Act.put, List.setIfInBounds_toArray, List.set_cons_zero, List.set_cons_succ])
          refine take_named (i := 34) (d := 120) (v := ?vd34) rfl (by kernel_rfl) (by kernel_rfl) (by kernel_rfl) (by kernel_rfl) (fun _ _ _ h => h) (Or.inl ⟨by kernel_rfl, ?yd34⟩) (by assumption) ?_
          case yd34 => intro wq hSw; (try dsimp only at hSw); go_simp; (try with_reducible rfl)
          (try simp only [Act.put, List.setIfInBounds_toArray, List.set_cons_zero, List.set_cons_succ])
          refine take_named (i := 35) (d := 121) (v := ?vd35) rfl (by kernel_rfl) (by kernel_rfl) (by kernel_rfl) (by kernel_rfl) (fun _ _ _ h => h) (Or.inl ⟨by kernel_rfl, ?yd35⟩) (by assumption) ?_
          case yd35 => intro wq hSw; (try dsimp only at hSw); go_simp; (try with_reducible rfl)
          (try simp only [Act.put, List.setIfInBounds_toArray, List.set_cons_zero, List.set_cons_succ])
          refine take_named (i := 36) (d := 122) (v := ?vd36) rfl (by kernel_rfl) (by kernel_rfl) (by kernel_rfl) (by kernel_rfl) (fun _ _ _ h => h) (Or.inl ⟨by kernel_rfl, ?yd36⟩) (by assumption) ?_
          case yd36 => intro wq hSw; (try dsimp only at hSw); go_simp; (try with_reducible rfl)
          (try simp only [Act.put, List.setIfInBounds_toArray, List.set_cons_zero, List.set_cons_succ])
          refine take_named (i := 37) (d := 123) (v := ?vd37) rfl (by kernel_rfl) (by kernel_rfl) (by kernel_rfl) (by kernel_rfl) (fun _ _ _ h => h) (Or.inl ⟨by kernel_rfl, ?yd37⟩) (by assumption) ?_
          case yd37 => intro wq hSw; (try dsimp only at hSw); go_simp; (try with_reducible rfl)
          (try simp only [Act.put, List.setIfInBounds_toArray, List.set_cons_zero, List.set_cons_succ])
          refine wpAnyH_ready (rs := [38]) (by kernel_rfl) (by simp) ?_
          refine AllReadyH.cons rfl (fun K hK => ?_) AllReadyH.nil
          go_simp
          refine (HAw.out _ hba).mono ?_
          rintro ee wz ⟨rfl, hz⟩
          have hbb := hba.trans (hz.mono hba.size)
          refine hK.out _ _ (HSS.out _ hbb) (fun hHeld2 => ?_)
          clear hK K hHeld1
          (try simp only [Act.put, List.setIfInBounds_toArray, List.set_cons_zero, List.set_cons_succ])
          refine take_named (i := 39) (d := 125) (v := ?vd39) rfl (by kernel_rfl) (by kernel_rfl) (by kernel_rfl) (by kernel_rfl) (fun _ _ _ h => h) (Or.inl ⟨by kernel_rfl, ?yd39⟩) (by assumption) ?_
          case yd39 => intro wq hSw; (try dsimp only at hSw); go_simp; (try with_reducible rfl)
          (try simp only [Act.put, List.setIfInBounds_toArray, List.set_cons_zero, List.set_cons_succ])
          refine take_named (i := 40) (d := 4) (v := ?vd40) rfl (by kernel_rfl) (by kernel_rfl) (by kernel_rfl) (by kernel_rfl) (fun _ _ _ h => h) (Or.inl ⟨by kernel_rfl, ?yd40⟩) (by assumption) ?_
          case yd40 => intro wq hSw; (try dsimp only at hSw); go_simp; (try with_reducible rfl)
          (try simp only [Act.put, List.setIfInBounds_toArray, List.set_cons_zero, List.set_cons_succ])
          refine wpAnyH_done (by kernel_rfl) ?_ _
          go_wp2
          go_ret
          exact ⟨rfl, below_via hBp hbb⟩

theorem adjMeans_walk (x : SmE) (hx : x.Ok) (vul : Int) (hv : 0 ≤ vul ∧ vul ≤ 255) (w : World) (hL : LaidS w) :
    Calls Tryd.prog 7 #[.agg (smA x), .int .u8 vul] w fun e w' => e = .returned (.bool true) ∧ Below w.heap.size w w' := by
  have h0 := hx.1
  by_cases h : x.k % 5 = 0 ∨ x.k % 5 = 4
  · exact means_none x hx h vul hv w hL
  · exact means_some x hx (by omega) vul hv w hL

end Go.Proofs.YtgfnggdjjigomaaDoor
