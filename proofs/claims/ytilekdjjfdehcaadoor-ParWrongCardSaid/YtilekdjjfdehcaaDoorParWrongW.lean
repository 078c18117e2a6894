/- The walk of the statement ParWrong. -/
import Derived.Test.YtilekdjjfdehcaaDoorParWrongL
import Derived.Deep.DeepCutAuto
namespace Go.Proofs.YtilekdjjfdehcaaDoor
open Go.RowKit

set_option maxRecDepth 100000 in
set_option maxHeartbeats 4000000 in
theorem parWrong_walk (A : Array Value) (l : Nat → Int) (hA : BytC A l) (nn : Int) (hnn : -9223372036854775808 ≤ nn ∧ nn ≤ 9223372036854775807) (kk : Int) (hk : 0 ≤ kk ∧ kk ≤ 255) (w : World) (hL : LaidS w) :
    Calls Tryd.prog 10 #[.agg A, .int .i64 nn, .int .u8 kk] w fun e w' => e = .returned (.bool true) ∧ Below w.heap.size w w' := by
  have HM := Lib.hid (fun W => made18 A l hA W)
  have HR := Lib.hid (mdT_right l (fun i hi => (hA.2 i hi).2))
  have HL := Lib.hid hL
  have HIA := Lib.hid (show (Tryd.prog.info? 22).map (·.size) = some A.size by rw [hA.1]; kernel_rfl)
  generalize mdT l = t at HM HR
  clear hA hL
  go_enter Tryd.func10, Tryd.ntmps10
  go_upto_region 1 with fail
  obtain ⟨W1, hW1⟩ : ∃ W1, w.alloc (.cells A 22) = W1 := ⟨_, rfl⟩
  obtain ⟨g, hg⟩ : ∃ g, w.heap.size = g := ⟨_, rfl⟩
  have HK := Lib.hid (show W1.heap[g]? = some (.cells A 22) by rw [← hW1]; exact blk_new _ hg.symm)
  have hB1 : Below w.heap.size w W1 := by rw [← hW1]; exact (by repeat (first | exact Below.refl _ _ | assumption | refine Below.drew ?_ | refine below_drewN ?_ _ | refine Below.alloc ?_ (by first | omega | (simp; done) | (simp; omega)) _ | refine Below.setCell ?_ (by first | omega | (simp; done) | (simp; omega)) _))
  rw [hW1, hg]
  clear hW1 hg
  go_wp2_with (refine wpList_load_row rfl 22 (.tmp 3) rfl g rfl 22 A _ _ HK.out Tryd.underlying22 rfl HIA.out ?_)
  refine (HM.out _).mono ?_
  rintro ee w2 ⟨C, rfl, hC, hb2⟩
  have hB2 := below_via hB1 hb2
  have HC := Lib.hid hC
  clear hB1 hb2 HK hC
  go_upto_region 2 with (first | (refine plain_alloc_to rfl 25 rfl tabZ tabZ_zero ?_) | (refine wpList_store_new rfl 25 _ _ rfl C _ _ rfl rfl HC.out.info (tabZ_tab.1.trans HC.out.1.symm) HC.out.one ?_))
  obtain ⟨W3, hW3⟩ : ∃ W3, w2.alloc (.cells C 25) = W3 := ⟨_, rfl⟩
  obtain ⟨g, hg⟩ : ∃ g, w2.heap.size = g := ⟨_, rfl⟩
  have HK := Lib.hid (show W3.heap[g]? = some (.cells C 25 (0, 0)) by rw [← hW3]; exact blk_new _ hg.symm)
  have hB3 : Below w.heap.size w W3 := by rw [← hW3]; exact hB2.alloc hB2.size _
  have hgg : w.heap.size ≤ g := by have := hB2.size; omega
  rw [hW3, hg]
  clear hW3 hg hB2 HM HIA
  obtain ⟨x0, hx0⟩ : ∃ x0, (if -1 < nn then (-1 : Int) else nn) = x0 := ⟨_, rfl⟩
  obtain ⟨x1, hx1⟩ : ∃ x1, (if nn < 14 then (14 : Int) else nn) = x1 := ⟨_, rfl⟩
  have hxb : x0 < 0 ∧ 13 < x1 := by
    rw [← hx0, ← hx1]; constructor <;> split <;> omega
  go_upto_region 3 with fail
  obtain ⟨W4, hW4⟩ : ∃ W4, W3.alloc (.cells #[.int .i64 x0, .int .i64 x1] 3) = W4 := ⟨_, rfl⟩
  obtain ⟨gs, hgs⟩ : ∃ gs, W3.heap.size = gs := ⟨_, rfl⟩
  have HS := Lib.hid (show W4.heap[gs]? = some (.cells #[.int .i64 x0, .int .i64 x1] 3 (0, 0)) by rw [← hW4]; exact blk_new _ hgs.symm)
  replace HK := Lib.hid (show W4.heap[g]? = some (.cells C 25 (0, 0)) by rw [← hW4]; exact blk_alloc HK.out _)
  have hB4 : Below w.heap.size w W4 := by rw [← hW4]; exact hB3.alloc hB3.size _
  rw [hW4]
  try rw [hgs]
  clear hW4 hgs hB3 hx0 hx1
  obtain ⟨e, hee⟩ : ∃ e : Nat, kk % 5 = e := ⟨(kk % 5).toNat, by omega⟩
  obtain ⟨s, hss⟩ : ∃ s : Nat, kk % 4 = s := ⟨(kk % 4).toNat, by omega⟩
  have he5 : e < 5 := by omega
  have hs4 : s < 4 := by omega
  go_wp2
  go_loopw [50] (fun i wr => ∃ j : Nat, j ≤ 2 ∧ i = .int .i64 (j : Int) ∧ Below W4.heap.size W4 wr) (fun i _ => 2 - (intOf i).toNat)
  case atStart => exact ⟨0, by omega, rfl, Below.refl _ _⟩
  case round =>
    obtain ⟨j, hj, rfl, hb⟩ := hrel
    rename World => wx
    by_cases hlt : j < 2
    · have c0 : (j : Int) < 2 := by omega
      have hcx : ∃ x : Int, (x < 0 ∨ 13 < x) ∧ wx.cell? ⟨gs, j, none⟩ = some (.int .i64 x) := by
        have h2 := blk_below HS.out hb (blk_lt HS.out)
        have a : j = 0 ∨ j = 1 := by omega
        rcases a with rfl | rfl
        · exact ⟨x0, .inl hxb.1, blk_cell h2 0⟩
        · exact ⟨x1, .inr hxb.2, blk_cell h2 1⟩
      obtain ⟨x, hxw, cx⟩ := hcx
      have HKx := Lib.hid (blk_below HK.out hb (blk_lt HK.out))
      have HR' := Lib.hid (putT_bad t e s he5 hs4 x hxw)
      have HC' := Lib.hid (HC.out.set (t' := putT t e s x) e s he5 hs4 x (fun _ _ _ _ => rfl))
      go_upto_region 6 with (first | (refine wpList_load_row rfl 25 (.tmp 7) rfl g rfl 25 C _ _ HKx.out Tryd.underlying25 rfl HC.out.info ?_) | (refine plain_alloc_to rfl 25 rfl tabZ tabZ_zero ?_) | (refine wpList_store_new rfl 25 _ _ rfl C _ _ rfl rfl HC.out.info (tabZ_tab.1.trans HC.out.1.symm) HC.out.one ?_))
      obtain ⟨W5, hW5⟩ : ∃ W5, wx.alloc (.cells C 25) = W5 := ⟨_, rfl⟩
      obtain ⟨gb, hgb⟩ : ∃ gb, wx.heap.size = gb := ⟨_, rfl⟩
      have J0 := Lib.hid (show W5.heap[gb]? = some (.cells C 25 (0, 0)) by rw [← hW5]; exact blk_new _ hgb.symm)
      have hB5 : Below W4.heap.size W4 W5 := by rw [← hW5]; exact hb.alloc hb.size _
      have hgb2 : W4.heap.size ≤ gb := by have := hb.size; omega
      rw [hW5, hgb]
      clear hW5 hgb cx HKx
      have q0 := (blk_cell J0.out (e * 4 + s)).trans (HC.out.2 e s he5 hs4)
      have f0 := blk_free J0.out (e * 4 + s)
      have ce : (e : Int) < 5 := by omega
      have cs : (s : Int) < 4 := by omega
      generalize t e s = y at q0
      go_upto_region 7 with fail
      obtain ⟨C', hC'⟩ : ∃ C', C.setIfInBounds (e * 4 + s) (.int .i64 x) = C' := ⟨_, rfl⟩
      obtain ⟨W6, hW6⟩ : ∃ W6, W5.setCell ⟨gb, e * 4 + s, none⟩ (.int .i64 x) = W6 := ⟨_, rfl⟩
      have J1 := Lib.hid (show W6.heap[gb]? = some (.cells C' 25 (0, 0)) by rw [← hW6, ← hC']; exact blk_set J0.out _ _)
      have hB6 : Below W4.heap.size W4 W6 := by rw [← hW6]; exact hB5.setCell (p := ⟨gb, e * 4 + s, none⟩) hgb2 _
      rw [hC'] at HC'
      rw [hW6]
      have H1 := Lib.hid (fun W => best00 C' _ HC'.out HR'.out W)
      have H2 := Lib.hid (fun W => final030 C' _ HC'.out HR'.out W)
      have H3 := Lib.hid (fun W => value030 C' _ HC'.out HR'.out W)
      have H4 := Lib.hid (fun W => bids00 C' _ HC'.out HR'.out W)
      have H5 := Lib.hid (fun W => par00 C' _ HC'.out HR'.out W)
      have H6 := Lib.hid (fun W => right_bad C' _ HC'.out HR'.out W)
      unfold finBad at H2 H5
      clear hC' hW6 J0 q0 f0 hB5 hxw HR'
      go_wp2_with (refine wpList_load_row rfl 25 (.tmp 10) rfl gb rfl 25 C' _ _ J1.out Tryd.underlying25 rfl HC'.out.info ?_)
      refine (H1.out _).mono ?_
      rintro ee v7 ⟨rfl, hb7⟩
      have hB7 := hB6.trans (hb7.mono hB6.size)
      replace J1 := Lib.hid (blk_below J1.out hb7 (blk_lt J1.out))
      clear hb7 hB6
      go_wp2_with (refine wpList_load_row rfl 25 (.tmp 10) rfl gb rfl 25 C' _ _ J1.out Tryd.underlying25 rfl HC'.out.info ?_)
      refine (H2.out _).mono ?_
      rintro ee v8 ⟨rfl, hb8⟩
      have hB8 := hB7.trans (hb8.mono hB7.size)
      replace J1 := Lib.hid (blk_below J1.out hb8 (blk_lt J1.out))
      clear hb8 hB7
      go_upto_region 9 with fail
      obtain ⟨V8, hV8⟩ : ∃ V8, v8.alloc (.cells #[.int .u8 0, .int .u8 0, .int .u8 0, .int .u8 0, .int .i64 0, .int .i64 0] 30) = V8 := ⟨_, rfl⟩
      replace J1 := Lib.hid (show V8.heap[gb]? = some (.cells C' 25 (0, 0)) by rw [← hV8]; exact blk_alloc J1.out _)
      replace hB8 : Below W4.heap.size W4 V8 := by rw [← hV8]; exact hB8.alloc hB8.size _
      rw [hV8]
      clear hV8
      go_wp2_with (refine wpList_load_row rfl 25 (.tmp 10) rfl gb rfl 25 C' _ _ J1.out Tryd.underlying25 rfl HC'.out.info ?_)
      refine (H3.out _).mono ?_
      rintro ee v9 ⟨rfl, hb9⟩
      have hB9 := hB8.trans (hb9.mono hB8.size)
      replace J1 := Lib.hid (blk_below J1.out hb9 (blk_lt J1.out))
      clear hb9 hB8
      go_wp2_with (refine wpList_load_row rfl 25 (.tmp 10) rfl gb rfl 25 C' _ _ J1.out Tryd.underlying25 rfl HC'.out.info ?_)
      refine (H4.out _).mono ?_
      rintro ee v10 ⟨rfl, hb10⟩
      have hB10 := hB9.trans (hb10.mono hB9.size)
      replace J1 := Lib.hid (blk_below J1.out hb10 (blk_lt J1.out))
      clear hb10 hB9
      go_wp2_with (refine wpList_load_row rfl 25 (.tmp 10) rfl gb rfl 25 C' _ _ J1.out Tryd.underlying25 rfl HC'.out.info ?_)
      refine (H5.out _).mono ?_
      rintro ee v11 ⟨rfl, hb11⟩
      have hB11 := hB10.trans (hb11.mono hB10.size)
      replace J1 := Lib.hid (blk_below J1.out hb11 (blk_lt J1.out))
      clear hb11 hB10
      go_upto_region 12 with fail
      obtain ⟨V11, hV11⟩ : ∃ V11, v11.alloc (.cells #[.int .u8 0, .int .u8 0, .int .u8 0, .int .u8 0, .int .i64 0, .int .i64 0] 30) = V11 := ⟨_, rfl⟩
      replace J1 := Lib.hid (show V11.heap[gb]? = some (.cells C' 25 (0, 0)) by rw [← hV11]; exact blk_alloc J1.out _)
      replace hB11 : Below W4.heap.size W4 V11 := by rw [← hV11]; exact hB11.alloc hB11.size _
      rw [hV11]
      clear hV11
      go_wp2_with (refine wpList_load_row rfl 25 (.tmp 10) rfl gb rfl 25 C' _ _ J1.out Tryd.underlying25 rfl HC'.out.info ?_)
      refine (H6.out _).mono ?_
      rintro ee v12 ⟨rfl, hb12⟩
      have hB12 := hB11.trans (hb12.mono hB11.size)
      replace J1 := Lib.hid (blk_below J1.out hb12 (blk_lt J1.out))
      clear hb12 hB11
      go_wp2
      go_roundw
      case rel => exact ⟨j + 1, by omega, by go_num, hB12⟩
      case measure => simp [intOf]; omega
    · have hj2 : (j : Int) = 2 := by omega
      rw [hj2]
      clear hj2
      clear hee hss
      obtain ⟨m4, hm4⟩ : ∃ m4, (if kk < 4 then (4 : Int) else kk) = m4 := ⟨_, rfl⟩
      obtain ⟨n2, hn2⟩ : ∃ n2, (if 2 < kk then (2 : Int) else kk) = n2 := ⟨_, rfl⟩
      obtain ⟨m38, hm38⟩ : ∃ m38, (if kk < 38 then (38 : Int) else kk) = m38 := ⟨_, rfl⟩
      obtain ⟨m2, hm2⟩ : ∃ m2, (if kk < 2 then (2 : Int) else kk) = m2 := ⟨_, rfl⟩
      obtain ⟨m5, hm5⟩ : ∃ m5, (if kk < 5 then (5 : Int) else kk) = m5 := ⟨_, rfl⟩
      have hmb : (3 < m4 ∧ m4 ≤ 255) ∧ (0 ≤ n2 ∧ n2 < 3) ∧ (37 < m38 ∧ m38 ≤ 255) ∧ (1 < m2 ∧ m2 ≤ 255) ∧ (4 < m5 ∧ m5 ≤ 255) := by
        rw [← hm4, ← hn2, ← hm38, ← hm2, ← hm5]
        refine ⟨?_, ?_, ?_, ?_, ?_⟩ <;> split <;> omega
      go_upto_region 16 with fail
      obtain ⟨W7, hW7⟩ : ∃ W7, wx.alloc (.cells #[.int .u8 m4, .int .u8 3, .int .u8 0, .int .u8 0, .int .u8 n2, .int .u8 0, .int .u8 0, .int .u8 m38, .int .u8 0, .int .u8 0, .int .u8 3, .int .u8 m2] 51) = W7 := ⟨_, rfl⟩
      obtain ⟨gr, hgr⟩ : ∃ gr, wx.heap.size = gr := ⟨_, rfl⟩
      have HT := Lib.hid (show W7.heap[gr]? = some (.cells #[.int .u8 m4, .int .u8 3, .int .u8 0, .int .u8 0, .int .u8 n2, .int .u8 0, .int .u8 0, .int .u8 m38, .int .u8 0, .int .u8 0, .int .u8 3, .int .u8 m2] 51 (0, 0)) by rw [← hW7]; exact blk_new _ hgr.symm)
      have hbw7 : Below W4.heap.size W4 W7 := by rw [← hW7]; exact hb.alloc hb.size _
      have HK7 := Lib.hid (blk_below HK.out hbw7 (blk_lt HK.out))
      have hB7 := below_via hB4 hbw7
      rw [hW7]
      try rw [hgr]
      clear hW7 hgr hb hbw7 hn2 hm38 hB4 HK HS
      go_wp2
      go_loopw [131] (fun i wr => ∃ j : Nat, j ≤ 4 ∧ i = .int .i64 (j : Int) ∧ Below W7.heap.size W7 wr) (fun i _ => 4 - (intOf i).toNat)
      case atStart => exact ⟨0, by omega, rfl, Below.refl _ _⟩
      case round =>
        obtain ⟨j, hj, rfl, hb⟩ := hrel
        rename World => wy
        by_cases hlt : j < 4
        · have c0 : (j : Int) < 4 := by omega
          have hcx : ∃ a b c : Int, (0 ≤ a ∧ a ≤ 255) ∧ (0 ≤ b ∧ b ≤ 255) ∧ (0 ≤ c ∧ c ≤ 255) ∧ (3 < a ∨ b < 3 ∨ 37 < b ∨ 1 < c) ∧ wy.cell? ⟨gr, j * 3, none⟩ = some (.int .u8 a) ∧ wy.cell? ⟨gr, j * 3 + 1, none⟩ = some (.int .u8 b) ∧ wy.cell? ⟨gr, j * 3 + 2, none⟩ = some (.int .u8 c) := by
            have h2 := blk_below HT.out hb (blk_lt HT.out)
            have a : j = 0 ∨ j = 1 ∨ j = 2 ∨ j = 3 := by omega
            rcases a with rfl | rfl | rfl | rfl
            · exact ⟨m4, 3, 0, by omega, by omega, by omega, by omega, blk_cell h2 0, blk_cell h2 1, blk_cell h2 2⟩
            · exact ⟨0, n2, 0, by omega, by omega, by omega, by omega, blk_cell h2 3, blk_cell h2 4, blk_cell h2 5⟩
            · exact ⟨0, m38, 0, by omega, by omega, by omega, by omega, blk_cell h2 6, blk_cell h2 7, blk_cell h2 8⟩
            · exact ⟨0, 3, m2, by omega, by omega, by omega, by omega, blk_cell h2 9, blk_cell h2 10, blk_cell h2 11⟩
          obtain ⟨a, b, c, ha, hbb, hc, hw, x0', x1', x2'⟩ := hcx
          have HF := Lib.hid (fun W => wrongF C t HC.out a b c ha hbb hc hw W)
          have HV := Lib.hid (fun W => wrongV C t HC.out a b c ha hbb hc hw W)
          unfold finBad at HF
          have HKy := Lib.hid (blk_below HK7.out hb (blk_lt HK7.out))
          clear hw
          go_upto_region 18 with fail
          obtain ⟨W8, hW8⟩ : ∃ W8, wy.alloc (.cells #[.int .u8 a, .int .u8 b, .int .u8 c] 51) = W8 := ⟨_, rfl⟩
          obtain ⟨gx, hgx⟩ : ∃ gx, wy.heap.size = gx := ⟨_, rfl⟩
          have KX := Lib.hid (show W8.heap[gx]? = some (.cells #[.int .u8 a, .int .u8 b, .int .u8 c] 51 (0, 0)) by rw [← hW8]; exact blk_new _ hgx.symm)
          replace HKy := Lib.hid (show W8.heap[g]? = some (.cells C 25 (0, 0)) by rw [← hW8]; exact blk_alloc HKy.out _)
          have hB8 : Below W7.heap.size W7 W8 := by rw [← hW8]; exact hb.alloc hb.size _
          rw [hW8, hgx]
          clear hW8 hgx x0' x1' x2'
          have a0 := blk_cell KX.out 0
          have a1 := blk_cell KX.out 1
          have a2 := blk_cell KX.out 2
          go_wp2_with (refine wpList_load_row rfl 25 (.tmp 7) rfl g rfl 25 C _ _ HKy.out Tryd.underlying25 rfl HC.out.info ?_)
          refine (HF.out _).mono ?_
          rintro ee v1 ⟨rfl, hb1⟩
          have hB9 := hB8.trans (hb1.mono hB8.size)
          replace HKy := Lib.hid (blk_below HKy.out hb1 (blk_lt HKy.out))
          replace KX := Lib.hid (blk_below KX.out hb1 (blk_lt KX.out))
          clear hb1 hB8 a0 a1 a2
          go_upto_region 19 with fail
          obtain ⟨V2, hV2⟩ : ∃ V2, v1.alloc (.cells #[.int .u8 0, .int .u8 0, .int .u8 0, .int .u8 0, .int .i64 0, .int .i64 0] 30) = V2 := ⟨_, rfl⟩
          replace HKy := Lib.hid (show V2.heap[g]? = some (.cells C 25 (0, 0)) by rw [← hV2]; exact blk_alloc HKy.out _)
          replace KX := Lib.hid (show V2.heap[gx]? = some (.cells #[.int .u8 a, .int .u8 b, .int .u8 c] 51 (0, 0)) by rw [← hV2]; exact blk_alloc KX.out _)
          replace hB9 : Below W7.heap.size W7 V2 := by rw [← hV2]; exact hB9.alloc hB9.size _
          rw [hV2]
          clear hV2
          have a0 := blk_cell KX.out 0
          have a1 := blk_cell KX.out 1
          have a2 := blk_cell KX.out 2
          go_wp2_with (refine wpList_load_row rfl 25 (.tmp 7) rfl g rfl 25 C _ _ HKy.out Tryd.underlying25 rfl HC.out.info ?_)
          refine (HV.out _).mono ?_
          rintro ee v3 ⟨rfl, hb3⟩
          have hB10 := hB9.trans (hb3.mono hB9.size)
          clear hb3 hB9 a0 a1 a2
          go_wp2
          go_roundw
          case rel => exact ⟨j + 1, by omega, by go_num, hB10⟩
          case measure => simp [intOf]; omega
        · obtain rfl : j = 4 := by omega
          have G1 := Lib.hid (fun W => best5 C t HC.out m5 0 (by omega) (by omega) (by omega) W)
          have G2 := Lib.hid (fun W => best5 C t HC.out 0 m2 (by omega) (by omega) (by omega) W)
          have G3 := Lib.hid (fun W => bids4 C t HC.out m4 0 (by omega) (by omega) (by omega) W)
          have G4 := Lib.hid (fun W => par4 C t HC.out 0 m4 (by omega) (by omega) (by omega) W)
          unfold finBad at G4
          have HKy := Lib.hid (blk_below HK7.out hb (blk_lt HK7.out))
          go_wp2_with (refine wpList_load_row rfl 25 (.tmp 7) rfl g rfl 25 C _ _ HKy.out Tryd.underlying25 rfl HC.out.info ?_)
          refine (G1.out _).mono ?_
          rintro ee v1 ⟨rfl, hb1⟩
          have hB9 := hb.trans (hb1.mono hb.size)
          replace HKy := Lib.hid (blk_below HKy.out hb1 (blk_lt HKy.out))
          clear hb1
          go_wp2_with (refine wpList_load_row rfl 25 (.tmp 7) rfl g rfl 25 C _ _ HKy.out Tryd.underlying25 rfl HC.out.info ?_)
          refine (G2.out _).mono ?_
          rintro ee v2 ⟨rfl, hb2⟩
          have hB10 := hB9.trans (hb2.mono hB9.size)
          replace HKy := Lib.hid (blk_below HKy.out hb2 (blk_lt HKy.out))
          clear hb2 hB9
          go_wp2_with (refine wpList_load_row rfl 25 (.tmp 7) rfl g rfl 25 C _ _ HKy.out Tryd.underlying25 rfl HC.out.info ?_)
          refine (G3.out _).mono ?_
          rintro ee v3 ⟨rfl, hb3⟩
          have hB11 := hB10.trans (hb3.mono hB10.size)
          replace HKy := Lib.hid (blk_below HKy.out hb3 (blk_lt HKy.out))
          clear hb3 hB10
          go_wp2_with (refine wpList_load_row rfl 25 (.tmp 7) rfl g rfl 25 C _ _ HKy.out Tryd.underlying25 rfl HC.out.info ?_)
          refine (G4.out _).mono ?_
          rintro ee v4 ⟨rfl, hb4⟩
          have hB12 := hB11.trans (hb4.mono hB11.size)
          clear hb4 hB11
          go_upto_region 27 with fail
          obtain ⟨V2, hV2⟩ : ∃ V2, v4.alloc (.cells #[.int .u8 0, .int .u8 0, .int .u8 0, .int .u8 0, .int .i64 0, .int .i64 0] 30) = V2 := ⟨_, rfl⟩
          have hB13 : Below w.heap.size w V2 := by rw [← hV2]; exact (below_via hB7 hB12).alloc (below_via hB7 hB12).size _
          rw [hV2]
          clear hV2 hB12
          have HAw := Lib.hid (awake18 V2 (HL.out.go hB13))
          go_wp2_with fail
          refine HAw.out.mono ?_
          rintro ee v5 ⟨rfl, hb5⟩
          have hBz := Lib.hid (below_via hB13 hb5)
          go_wp2
          go_ret
          exact ⟨rfl, hBz.out⟩

end Go.Proofs.YtilekdjjfdehcaaDoor
