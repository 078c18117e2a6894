/- The walks of score.Points and score.Score. -/
import Derived.Test.YtchklobblkddhaaGreatDoorScoMadeW
namespace Go.Proofs.YtchklobblkddhaaGreatDoor
open Go.RowKit

theorem keepB0 {B b o : Nat} {W W' : World} {v : Value} (hb : Below B W W') (hl : b < B) (h : W.cell? ⟨b, o, none⟩ = some v) : W'.cell? ⟨b, o, none⟩ = some v := (bcell hb b o hl).trans h

set_option maxHeartbeats 1000000 in
theorem spts_bad (l d r s t : Int) (v : Bool) (hl : 0 ≤ l ∧ l ≤ 255) (hd : 0 ≤ d ∧ d ≤ 255) (hr : 0 ≤ r ∧ r ≤ 255) (hs : 0 ≤ s ∧ s ≤ 255) (h : resultC l d r s t = false) (w : World) :
    Calls Tryz.prog 84 #[.agg #[.int .u8 l, .int .u8 d, .int .u8 r, .int .u8 s], .int .i64 t, .bool v] w fun e w' => e = .returned (.tuple #[.int .i64 0, .int .i64 2]) ∧ Below w.heap.size w w' := by
  have HQ := Lib.hid (fun W => sresult_any l d r s t hl hd hr hs W)
  rw [h] at HQ
  clear h
  go_enter Tryz.func84, Tryz.ntmps84
  go_wp2_with fail
  refine (HQ.out _).mono ?_
  rintro ee w1 ⟨rfl, hb⟩
  have hb0 := below_box hb
  clear hb
  go_wp2
  go_ret2
  exact ⟨rfl, hb0⟩

theorem res_parts {l d r s t : Int} (h : resultC l d r s t = true) (hl : 0 ≤ l ∧ l ≤ 255) (hd : 0 ≤ d ∧ d ≤ 255) (hr : 0 ≤ r ∧ r ≤ 255) (hs : 0 ≤ s ∧ s ≤ 255) :
    (l = 0 ∧ d = 0 ∧ r = 0 ∧ s = 0 ∧ t = 0) ∨ (1 ≤ l ∧ l ≤ 7 ∧ 0 ≤ d ∧ d ≤ 4 ∧ 0 ≤ r ∧ r ≤ 2 ∧ 0 ≤ s ∧ s ≤ 3 ∧ 0 ≤ t ∧ t ≤ 13 ∧ needC l d r s = 6 + l) := by
  unfold resultC at h
  obtain ⟨h1, h2, h3, h4⟩ := of_decide_eq_true h
  have h5 := h1
  unfold rightC at h5
  have h5 := of_decide_eq_true h5
  by_cases h0 : l = 0
  · left; omega
  · right
    have : needC l d r s = 6 + l := by unfold needC; rw [if_pos ⟨h1, h0⟩]
    omega

set_option maxRecDepth 100000 in
set_option maxHeartbeats 4000000 in
theorem spts_ok (l d r s t : Int) (v : Bool) (hl : 0 ≤ l ∧ l ≤ 255) (hd : 0 ≤ d ∧ d ≤ 255) (hr : 0 ≤ r ∧ r ≤ 255) (hs : 0 ≤ s ∧ s ≤ 255) (h : resultC l d r s t = true) (w : World) (hL : LaidS w) :
    Calls Tryz.prog 84 #[.agg #[.int .u8 l, .int .u8 d, .int .u8 r, .int .u8 s], .int .i64 t, .bool v] w fun e w' => e = .returned (.tuple #[.int .i64 (ptsI l d r t v), .int .i64 0]) ∧ Below w.heap.size w w' := by
  have HQ := Lib.hid (fun W => sresult_any l d r s t hl hd hr hs W)
  rw [h] at HQ
  have HN := Lib.hid (fun W => sneed_any l d r s hl hd hr hs W)
  have hp := res_parts h hl hd hr hs
  have HL := Lib.hid hL
  have hlt := hL.lt
  obtain ⟨P, hP⟩ : ∃ P, ptsI l d r t v = P := ⟨_, rfl⟩
  rw [hP]
  have HP := Lib.hid hP
  clear h hP hL
  go_enter Tryz.func84, Tryz.ntmps84
  go_wp2_with fail
  refine (HQ.out _).mono ?_
  rintro ee w1 ⟨rfl, hb⟩
  have k1 := blk_below (blk_new (w := w) (.cells #[.int .u8 l, .int .u8 d, .int .u8 r, .int .u8 s] 45) rfl) hb (by simp)
  obtain ⟨g, hg⟩ : ∃ g, w.heap.size = g := ⟨_, rfl⟩
  have hb1 : Below g w w1 := by rw [← hg]; exact below_box hb
  have HL1 := Lib.hid (HL.out.below hb1 (by omega))
  rw [hg] at k1
  have g1 : g < w1.heap.size := blk_lt k1
  have q0 := blk_cell k1 0
  have q1 := blk_cell k1 1
  have q2 := blk_cell k1 2
  have q3 := blk_cell k1 3
  rw [hg]
  have HG := Lib.hid hg
  clear hb hg HQ
  by_cases h0 : l = 0
  · have hz : (l == 0) = true := by rw [h0]; rfl
    obtain rfl : 0 = P := by rw [← HP.out, h0]; rfl
    clear hp h0
    go_wp2
    go_ret2
    exact ⟨rfl, by rw [HG.out]; exact hb1⟩
  · have hz : (l == 0) = false := beq_eq_false_iff_ne.2 h0
    obtain ⟨hl1, hl7, -, hd4, -, hr2, -, hs3, ht0, ht13, hn⟩ : 1 ≤ l ∧ l ≤ 7 ∧ 0 ≤ d ∧ d ≤ 4 ∧ 0 ≤ r ∧ r ≤ 2 ∧ 0 ≤ s ∧ s ≤ 3 ∧ 0 ≤ t ∧ t ≤ 13 ∧ needC l d r s = 6 + l := by
      rcases hp with hp | hp
      · exact absurd hp.1 h0
      · exact hp
    rw [hn] at HN
    clear hp hn h0
    go_wp2_with fail
    refine (HN.out _).mono ?_
    rintro ee w2 ⟨rfl, hb2⟩
    have q0 := keepB0 hb2 g1 q0
    have q1 := keepB0 hb2 g1 q1
    have q2 := keepB0 hb2 g1 q2
    have q3 := keepB0 hb2 g1 q3
    have hb02 := hb1.trans (hb2.mono (by omega))
    have HL2 := Lib.hid (HL1.out.go hb2)
    have g2 : g < w2.heap.size := by have := hb2.size; omega
    have hd2 : Below w2.heap.size w2 w2.drew := (Below.refl _ _).drew
    clear hb2 hb1
    by_cases hlt6 : t < 6 + l
    · obtain ⟨n, hn⟩ : ∃ n : Nat, 6 + l - t = n := ⟨(6 + l - t).toNat, by omega⟩
      have HM := Lib.hid (fun W => smissing_any l d r s n v (by omega) W)
      have hmb := missI_bd r v n
      have hPm : - missI r n v = P := by
        rw [← HP.out]; unfold ptsI
        rw [if_neg (by omega), if_pos hlt6, show (6 + l - t).toNat = n by omega]
      generalize missI r n v = m at HM hmb hPm
      have HPm := Lib.hid hPm
      clear hPm
      have hwr : IntKind.i64.wrap (6 + l - t) = (n : Int) := by rw [hn]; exact IntWalk.i64_in _ (by omega)
      have hwn : IntKind.i64.wrap (-m) = -m := IntWalk.i64_in _ (by omega)
      clear hn
      go_upto_region 6 with fail
      go_region_held3 (fun w' => w'.cell? ⟨g, 0, none⟩ = some (.int .u8 l) ∧ w'.cell? ⟨g, 1, none⟩ = some (.int .u8 d) ∧ w'.cell? ⟨g, 2, none⟩ = some (.int .u8 r) ∧ w'.cell? ⟨g, 3, none⟩ = some (.int .u8 s)) (first | exact ⟨q0, q1, q2, q3⟩ | exact ⟨keepB0 hbm g2 q0, keepB0 hbm g2 q1, keepB0 hbm g2 q2, keepB0 hbm g2 q3⟩ | exact ⟨keepB0 hbn g2 q0, keepB0 hbn g2 q1, keepB0 hbn g2 q2, keepB0 hbn g2 q3⟩)
        ((first | (go_at_call 102; (with_reducible refine (HN.out _).mono ?_); rintro ee wm ⟨rfl, hbm0⟩; have hbm := hd2.trans (hbm0.mono hd2.size)) | (go_at_call 103; (with_reducible refine (HM.out _).mono ?_); rintro ee wn ⟨rfl, hbn0⟩; have hbn := hbm.trans (hbn0.mono hbm.size))))
      go_wp2
      go_ret2
      exact ⟨(show _ = Ending.returned (.tuple #[.int .i64 P, .int .i64 0]) by rw [← HPm.out]; rfl), by rw [HG.out]; exact hb02.trans (hbn.mono (by omega))⟩
    · obtain ⟨n, hn⟩ : ∃ n : Int, t - (6 + l) = n := ⟨_, rfl⟩
      have HM := Lib.hid (fun W hW => smade_any l d r s n v ⟨hl1, hl7⟩ ⟨hd.1, hd4⟩ ⟨hr.1, hr2⟩ (by omega) W hW)
      have hmb := madeI_bd l d r n v ⟨hl1, hl7⟩ ⟨hr.1, hr2⟩ (by omega)
      have hPm : madeI l d r n v = P := by
        rw [← HP.out]; unfold ptsI
        rw [if_neg (by omega), if_neg hlt6, hn]
      generalize madeI l d r n v = m at HM hmb hPm
      have HPm := Lib.hid hPm
      clear hPm
      have hwr : IntKind.i64.wrap (t - (6 + l)) = n := by rw [hn]; exact IntWalk.i64_in _ (by omega)
      clear hn
      go_upto_region 7 with fail
      go_region_held3 (fun w' => w'.cell? ⟨g, 0, none⟩ = some (.int .u8 l) ∧ w'.cell? ⟨g, 1, none⟩ = some (.int .u8 d) ∧ w'.cell? ⟨g, 2, none⟩ = some (.int .u8 r) ∧ w'.cell? ⟨g, 3, none⟩ = some (.int .u8 s)) (first | exact ⟨q0, q1, q2, q3⟩ | exact ⟨keepB0 hbm g2 q0, keepB0 hbm g2 q1, keepB0 hbm g2 q2, keepB0 hbm g2 q3⟩ | exact ⟨keepB0 hbn g2 q0, keepB0 hbn g2 q1, keepB0 hbn g2 q2, keepB0 hbn g2 q3⟩)
        ((first | (go_at_call 102; (with_reducible refine (HN.out _).mono ?_); rintro ee wm ⟨rfl, hbm0⟩; have hbm := hd2.trans (hbm0.mono hd2.size)) | (go_at_call 104; (with_reducible refine (HM.out _ (HL2.out.go hbm)).mono ?_); rintro ee wn ⟨rfl, hbn0⟩; have hbn := hbm.trans (hbn0.mono hbm.size))))
      go_wp2
      go_ret2
      exact ⟨(show _ = Ending.returned (.tuple #[.int .i64 P, .int .i64 0]) by rw [← HPm.out]; rfl), by rw [HG.out]; exact hb02.trans (hbn.mono (by omega))⟩

set_option maxHeartbeats 1000000 in
theorem sscore_bad (l d r s t vul : Int) (hl : 0 ≤ l ∧ l ≤ 255) (hd : 0 ≤ d ∧ d ≤ 255) (hr : 0 ≤ r ∧ r ≤ 255) (hs : 0 ≤ s ∧ s ≤ 255) (hv : 0 ≤ vul ∧ vul ≤ 255) (h : resultC l d r s t = false ∨ 3 < vul) (w : World) :
    Calls Tryz.prog 66 #[.agg #[.int .u8 l, .int .u8 d, .int .u8 r, .int .u8 s], .int .i64 t, .int .u8 vul] w fun e w' => e = .returned (.tuple #[.int .i64 0, .int .i64 2]) ∧ Below w.heap.size w w' := by
  by_cases h3 : 3 < vul
  · clear h
    go_enter Tryz.func66, Tryz.ntmps66
    go_wp2
    go_ret2
    exact ⟨rfl, (by repeat (first | exact Below.refl _ _ | assumption | refine Below.drew ?_ | refine below_drewN ?_ _ | refine Below.alloc ?_ (by first | omega | (simp; done) | (simp; omega)) _ | refine Below.setCell ?_ (by first | omega | (simp; done) | (simp; omega)) _))⟩
  have h := h.resolve_right h3
  have HP := Lib.hid (fun v W => spts_bad l d r s t v hl hd hr hs h W)
  have HV := Lib.hid (fun W => svul_any vul s hv hs W)
  have h33 : vul ≤ 3 := by omega
  generalize vulB vul s = vb at HV
  clear h h3
  go_enter Tryz.func66, Tryz.ntmps66
  go_upto_region 3 with fail
  obtain ⟨W1, hW1⟩ : ∃ W1, w.alloc (.cells #[.int .u8 l, .int .u8 d, .int .u8 r, .int .u8 s] 45) = W1 := ⟨_, rfl⟩
  have k0 : W1.heap[w.heap.size]? = some (.cells #[.int .u8 l, .int .u8 d, .int .u8 r, .int .u8 s] 45) := by rw [← hW1]; exact blk_new _ rfl
  have hB0 : Below w.heap.size w W1 := by rw [← hW1]; exact (by repeat (first | exact Below.refl _ _ | assumption | refine Below.drew ?_ | refine below_drewN ?_ _ | refine Below.alloc ?_ (by first | omega | (simp; done) | (simp; omega)) _ | refine Below.setCell ?_ (by first | omega | (simp; done) | (simp; omega)) _))
  obtain ⟨g, hg⟩ : ∃ g, w.heap.size = g := ⟨_, rfl⟩
  rw [hg] at k0 hB0
  rw [hW1, hg]
  have HG := Lib.hid hg
  have g1 := blk_lt k0
  have q0 := blk_cell k0 0
  have q1 := blk_cell k0 1
  have q2 := blk_cell k0 2
  have q3 := blk_cell k0 3
  have hd2 : Below W1.heap.size W1 W1.drew := (Below.refl _ _).drew
  clear hW1 k0 hg
  go_region_held3 (fun w' => w'.cell? ⟨g, 0, none⟩ = some (.int .u8 l) ∧ w'.cell? ⟨g, 1, none⟩ = some (.int .u8 d) ∧ w'.cell? ⟨g, 2, none⟩ = some (.int .u8 r) ∧ w'.cell? ⟨g, 3, none⟩ = some (.int .u8 s)) (first | exact ⟨q0, q1, q2, q3⟩ | exact ⟨keepB0 hbm g1 q0, keepB0 hbm g1 q1, keepB0 hbm g1 q2, keepB0 hbm g1 q3⟩)
    ((first | (go_at_call 86; (with_reducible refine (HV.out _).mono ?_); rintro ee wm ⟨rfl, rfl⟩) | (go_at_call 84; (with_reducible refine (HP.out _ _).mono ?_); rintro ee wm ⟨rfl, hbm0⟩; have hbm := hd2.trans (hbm0.mono hd2.size))))
  have q3 := keepB0 hbm g1 q3
  have hbz := Lib.hid (show Below w.heap.size w wm by rw [HG.out]; exact hB0.trans (hbm.mono (by omega)))
  clear q0 q1 q2 hbm hbm0 hB0 hd2
  by_cases hs1 : s % 2 = 1
  · have t0 : (s % 2 == 1) = true := by rw [hs1]; rfl
    clear hs1
    go_wp2
    go_ret2
    exact ⟨rfl, hbz.out⟩
  · have t0 : (s % 2 == 1) = false := beq_eq_false_iff_ne.2 hs1
    clear hs1
    go_wp2
    go_ret2
    exact ⟨rfl, hbz.out⟩

set_option maxHeartbeats 1000000 in
theorem sscore_ok (l d r s t vul : Int) (hl : 0 ≤ l ∧ l ≤ 255) (hd : 0 ≤ d ∧ d ≤ 255) (hr : 0 ≤ r ∧ r ≤ 255) (hs : 0 ≤ s ∧ s ≤ 255) (hv : 0 ≤ vul ∧ vul ≤ 3) (h : resultC l d r s t = true) (w : World) (hL : LaidS w) :
    Calls Tryz.prog 66 #[.agg #[.int .u8 l, .int .u8 d, .int .u8 r, .int .u8 s], .int .i64 t, .int .u8 vul] w fun e w' => e = .returned (.tuple #[.int .i64 (scoreI l d r s t vul), .int .i64 0]) ∧ Below w.heap.size w w' := by
  have HP := Lib.hid (fun v W hW => spts_ok l d r s t v hl hd hr hs h W hW)
  have HV := Lib.hid (fun W => svul_any vul s ⟨hv.1, by omega⟩ hs W)
  have hpb := ptsI_small l d r s t (vulB vul s) h ⟨hl.1, hr.1⟩
  obtain ⟨N, hN⟩ : ∃ N, scoreI l d r s t vul = N := ⟨_, rfl⟩
  rw [hN]
  have HN := Lib.hid (show (if s % 2 = 1 then - ptsI l d r t (vulB vul s) else ptsI l d r t (vulB vul s)) = N from hN)
  have HL := Lib.hid hL
  have hlt := hL.lt
  generalize vulB vul s = vb at HV hpb HN
  have HP1 := Lib.hid (HP.out vb)
  generalize ptsI l d r t vb = p at HP1 hpb HN
  clear h hL hN HP
  go_enter Tryz.func66, Tryz.ntmps66
  go_upto_region 3 with fail
  obtain ⟨W1, hW1⟩ : ∃ W1, w.alloc (.cells #[.int .u8 l, .int .u8 d, .int .u8 r, .int .u8 s] 45) = W1 := ⟨_, rfl⟩
  have k0 : W1.heap[w.heap.size]? = some (.cells #[.int .u8 l, .int .u8 d, .int .u8 r, .int .u8 s] 45) := by rw [← hW1]; exact blk_new _ rfl
  have hB0 : Below w.heap.size w W1 := by rw [← hW1]; exact (by repeat (first | exact Below.refl _ _ | assumption | refine Below.drew ?_ | refine below_drewN ?_ _ | refine Below.alloc ?_ (by first | omega | (simp; done) | (simp; omega)) _ | refine Below.setCell ?_ (by first | omega | (simp; done) | (simp; omega)) _))
  obtain ⟨g, hg⟩ : ∃ g, w.heap.size = g := ⟨_, rfl⟩
  have HL1 := Lib.hid (HL.out.go hB0)
  rw [hg] at k0 hB0
  rw [hW1, hg]
  have HG := Lib.hid hg
  have g1 := blk_lt k0
  have q0 := blk_cell k0 0
  have q1 := blk_cell k0 1
  have q2 := blk_cell k0 2
  have q3 := blk_cell k0 3
  have hd2 : Below W1.heap.size W1 W1.drew := (Below.refl _ _).drew
  have HLd := Lib.hid (HL1.out.go hd2)
  clear hW1 k0 hg
  go_region_held3 (fun w' => w'.cell? ⟨g, 0, none⟩ = some (.int .u8 l) ∧ w'.cell? ⟨g, 1, none⟩ = some (.int .u8 d) ∧ w'.cell? ⟨g, 2, none⟩ = some (.int .u8 r) ∧ w'.cell? ⟨g, 3, none⟩ = some (.int .u8 s)) (first | exact ⟨q0, q1, q2, q3⟩ | exact ⟨keepB0 hbm g1 q0, keepB0 hbm g1 q1, keepB0 hbm g1 q2, keepB0 hbm g1 q3⟩)
    ((first | (go_at_call 86; (with_reducible refine (HV.out _).mono ?_); rintro ee wm ⟨rfl, rfl⟩) | (go_at_call 84; (with_reducible refine (HP1.out _ HLd.out).mono ?_); rintro ee wm ⟨rfl, hbm0⟩; have hbm := hd2.trans (hbm0.mono hd2.size))))
  have q3 := keepB0 hbm g1 q3
  have hbz := Lib.hid (show Below w.heap.size w wm by rw [HG.out]; exact hB0.trans (hbm.mono (by omega)))
  clear q0 q1 q2 hbm hbm0 hB0 hd2
  by_cases hs1 : s % 2 = 1
  · have t0 : (s % 2 == 1) = true := by rw [hs1]; rfl
    obtain rfl : -p = N := by rw [← HN.out, if_pos hs1]
    clear hs1
    go_wp2
    go_ret2
    exact ⟨rfl, hbz.out⟩
  · have t0 : (s % 2 == 1) = false := beq_eq_false_iff_ne.2 hs1
    obtain rfl : p = N := by rw [← HN.out, if_neg hs1]
    clear hs1
    go_wp2
    go_ret2
    exact ⟨rfl, hbz.out⟩

end Go.Proofs.YtchklobblkddhaaGreatDoor
