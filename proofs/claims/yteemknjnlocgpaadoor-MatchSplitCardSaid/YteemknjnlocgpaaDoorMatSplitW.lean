/- The walk of the statement MatchSplit. -/
import Derived.Test.YteemknjnlocgpaaDoorMatMadeW
import Derived.Test.YteemknjnlocgpaaDoorMatSplitLaw
namespace Go.Proofs.YteemknjnlocgpaaDoor
open Go.RowKit

set_option maxHeartbeats 8000000 in
set_option maxRecDepth 100000 in
theorem matchSplit_walk (x y : Sm) (which at_ : Int) (A B : Option Addr) (ca cb : Nat) (w : World) (hL : Laid w) (hx : SmOk x) (hy : SmOk y) (hwh : 0 ≤ which ∧ which ≤ 255) (hat : 0 ≤ at_ ∧ at_ ≤ 255)
    (ha : Rd w w.heap.size 1 A x.2.2.length (i16C x.2.2)) (hca : x.2.2.length ≤ ca) (hb : Rd w w.heap.size 1 B y.2.2.length (i16C y.2.2)) (hcb : y.2.2.length ≤ cb) :
    Calls Tryd.prog 4 #[smV x A ca, smV y B cb, .int .u8 which, .int .u8 at_] w fun e w' => e = .returned (.bool true) ∧ Below w.heap.size w w' := by
  obtain ⟨i0, hi, hz0, hz1, hz2⟩ := info_parts info_part
  obtain ⟨xp, xw, xo⟩ := x
  obtain ⟨yp, yw, yo⟩ := y
  unfold smV
  have hca' : xo.length ≤ ca := hca
  obtain ⟨N, hN⟩ : ∃ N, min 2 xo.length = N := ⟨_, rfl⟩
  have hN1 : N ≤ 2 ∧ N ≤ xo.length := by omega
  have hif : (if (2 : Int) < (xo.length : Int) then 2 else (xo.length : Int)) = (N : Int) := by split <;> omega
  have hcN : (N : Int) ≤ (ca : Int) := by omega
  have hN0 : (0 : Int) ≤ (N : Int) := by omega
  obtain ⟨o, ho⟩ : ∃ o, xo.take N = o := ⟨_, rfl⟩
  have hlen : o.length = N := by rw [← ho, List.length_take]; omega
  have hra : Rd w w.heap.size 1 A N (i16C o) := by
    have h := Rd.pre (k := N) ha hN1.2
    have e : (i16C xo).take (N * 1) = i16C o := by rw [← ho]; unfold i16C; rw [Nat.mul_one, List.map_take]
    rw [← e]; exact h
  have hxk : SmOk (xp, xw, o) := ⟨hx.1, hx.2.1, fun z hz => hx.2.2.1 z (by rw [← ho] at hz; exact List.mem_of_mem_take hz), by show o.length ≤ _; omega⟩
  subst hlen
  have CX := Lib.hid (fun (W : World) (hW : Below w.heap.size w W) => made_any xp xw o A ca W hxk (hra.go hW) (by omega))
  have CY := Lib.hid (fun (W : World) (hW : Below w.heap.size w W) => made_any yp yw yo B cb W hy (hb.go hW) hcb)
  have h0 := hL.lt
  have HL := Lib.hid hL
  have hra3 : (madeL (xp, xw, o)).length ≤ 3 := by
    unfold madeL
    split
    · simp
    · rw [List.length_cons, othTo_len]
      show min o.length 3 + 1 ≤ 3; omega
  have hqa := made_right (xp, xw, o)
  have hqb := made_right (yp, yw, yo)
  obtain ⟨a, hae⟩ : ∃ a, madeL (xp, xw, o) = a := ⟨_, rfl⟩
  obtain ⟨b, hbe⟩ : ∃ b, madeL (yp, yw, yo) = b := ⟨_, rfl⟩
  rw [hae] at CX hra3 hqa
  rw [hbe] at CY hqb
  have hxb : -32768 ≤ xp ∧ xp ≤ 32767 := hx.1
  clear hx hy ha hb hca hra hxk hN hL hae hbe ho
  show Calls Tryd.prog 4 #[.agg #[.int .i16 xp, .int .u8 xw, .slice A xo.length ca], .agg #[.int .i16 yp, .int .u8 yw, .slice B yo.length cb], .int .u8 which, .int .u8 at_] w _
  go_enter Tryd.func4, Tryd.ntmps4
  go_wp2_with fail
  have hX0 : Below w.heap.size w ((w.alloc (.cells #[.int .i16 xp, .int .u8 xw, .slice A o.length ca] 41)).alloc (.cells #[.int .i16 yp, .int .u8 yw, .slice B yo.length cb] 41)) := ((Below.refl _ _).alloc (Nat.le_refl _) _).alloc (by simp) _
  have k0 : ((w.alloc (.cells #[.int .i16 xp, .int .u8 xw, .slice A o.length ca] 41)).alloc (.cells #[.int .i16 yp, .int .u8 yw, .slice B yo.length cb] 41)).cell? ⟨w.heap.size, 0, none⟩ = some (.int .i16 xp) := blk_cell (blk_alloc (blk_new _ rfl) _) 0
  have k1 : ((w.alloc (.cells #[.int .i16 xp, .int .u8 xw, .slice A o.length ca] 41)).alloc (.cells #[.int .i16 yp, .int .u8 yw, .slice B yo.length cb] 41)).cell? ⟨w.heap.size, 1, none⟩ = some (.int .u8 xw) := blk_cell (blk_alloc (blk_new _ rfl) _) 1
  have k2 : ((w.alloc (.cells #[.int .i16 xp, .int .u8 xw, .slice A o.length ca] 41)).alloc (.cells #[.int .i16 yp, .int .u8 yw, .slice B yo.length cb] 41)).cell? ⟨w.heap.size, 2, none⟩ = some (.slice A o.length ca) := blk_cell (blk_alloc (blk_new _ rfl) _) 2
  have k3 : ((w.alloc (.cells #[.int .i16 xp, .int .u8 xw, .slice A o.length ca] 41)).alloc (.cells #[.int .i16 yp, .int .u8 yw, .slice B yo.length cb] 41)).cell? ⟨w.heap.size + 1, 0, none⟩ = some (.int .i16 yp) := blk_cell (blk_new _ (by simp)) 0
  have k4 : ((w.alloc (.cells #[.int .i16 xp, .int .u8 xw, .slice A o.length ca] 41)).alloc (.cells #[.int .i16 yp, .int .u8 yw, .slice B yo.length cb] 41)).cell? ⟨w.heap.size + 1, 1, none⟩ = some (.int .u8 yw) := blk_cell (blk_new _ (by simp)) 1
  have k5 : ((w.alloc (.cells #[.int .i16 xp, .int .u8 xw, .slice A o.length ca] 41)).alloc (.cells #[.int .i16 yp, .int .u8 yw, .slice B yo.length cb] 41)).cell? ⟨w.heap.size + 1, 2, none⟩ = some (.slice B yo.length cb) := blk_cell (blk_new _ (by simp)) 2
  have hz2 : ((w.alloc (.cells #[.int .i16 xp, .int .u8 xw, .slice A o.length ca] 41)).alloc (.cells #[.int .i16 yp, .int .u8 yw, .slice B yo.length cb] 41)).heap.size = w.heap.size + 2 := by simp
  have z0 : w.heap.size < ((w.alloc (.cells #[.int .i16 xp, .int .u8 xw, .slice A o.length ca] 41)).alloc (.cells #[.int .i16 yp, .int .u8 yw, .slice B yo.length cb] 41)).heap.size := by rw [hz2]; omega
  have z1 : w.heap.size + 1 < ((w.alloc (.cells #[.int .i16 xp, .int .u8 xw, .slice A o.length ca] 41)).alloc (.cells #[.int .i16 yp, .int .u8 yw, .slice B yo.length cb] 41)).heap.size := by rw [hz2]; omega
  go_region_held3 (fun w' => w'.cell? ⟨w.heap.size, 0, none⟩ = some (.int .i16 xp) ∧ w'.cell? ⟨w.heap.size, 1, none⟩ = some (.int .u8 xw) ∧ w'.cell? ⟨w.heap.size, 2, none⟩ = some (.slice A o.length ca) ∧ w'.cell? ⟨w.heap.size + 1, 0, none⟩ = some (.int .i16 yp) ∧ w'.cell? ⟨w.heap.size + 1, 1, none⟩ = some (.int .u8 yw) ∧ w'.cell? ⟨w.heap.size + 1, 2, none⟩ = some (.slice B yo.length cb)) ((first | go_keep | exact ⟨(hba.cell (p := ⟨w.heap.size, 0, none⟩) z0).trans k0, (hba.cell (p := ⟨w.heap.size, 1, none⟩) z0).trans k1, (hba.cell (p := ⟨w.heap.size, 2, none⟩) z0).trans k2, (hba.cell (p := ⟨w.heap.size + 1, 0, none⟩) z1).trans k3, (hba.cell (p := ⟨w.heap.size + 1, 1, none⟩) z1).trans k4, (hba.cell (p := ⟨w.heap.size + 1, 2, none⟩) z1).trans k5⟩ | exact ⟨(hbb.cell (p := ⟨w.heap.size, 0, none⟩) h20).trans ((hba.cell (p := ⟨w.heap.size, 0, none⟩) z0).trans k0), (hbb.cell (p := ⟨w.heap.size, 1, none⟩) h20).trans ((hba.cell (p := ⟨w.heap.size, 1, none⟩) z0).trans k1), (hbb.cell (p := ⟨w.heap.size, 2, none⟩) h20).trans ((hba.cell (p := ⟨w.heap.size, 2, none⟩) z0).trans k2), (hbb.cell (p := ⟨w.heap.size + 1, 0, none⟩) h21).trans ((hba.cell (p := ⟨w.heap.size + 1, 0, none⟩) z1).trans k3), (hbb.cell (p := ⟨w.heap.size + 1, 1, none⟩) h21).trans ((hba.cell (p := ⟨w.heap.size + 1, 1, none⟩) z1).trans k4), (hbb.cell (p := ⟨w.heap.size + 1, 2, none⟩) h21).trans ((hba.cell (p := ⟨w.heap.size + 1, 2, none⟩) z1).trans k5)⟩))
    ((go_at_call 16; (first | ((with_reducible refine (CX.out _ ?_).mono ?_); (focus (repeat (first | exact Below.refl _ _ | assumption | (with_reducible refine Below.drew ?_) | (with_reducible refine below_drewN ?_ _) | ((with_reducible refine Below.alloc ?_ ?_ _); rotate_left; (first | omega | (simp <;> omega))) | ((with_reducible refine Below.setCell ?_ ?_ _); rotate_left; (first | omega | (simp <;> omega)))))); rintro e wa ⟨va, rfl, hoa, hba⟩; have h20 : w.heap.size < wa.heap.size := (by have := hba.size; simp at this; omega); have h21 : w.heap.size + 1 < wa.heap.size := (by have := hba.size; simp at this; omega); have hA1 : Below w.heap.size w wa := ((hX0.drew).trans (hba.mono (Nat.le_of_lt z0)))) | ((with_reducible refine (CY.out _ ?_).mono ?_); (focus (repeat (first | exact Below.refl _ _ | assumption | (with_reducible refine Below.drew ?_) | (with_reducible refine below_drewN ?_ _) | ((with_reducible refine Below.alloc ?_ ?_ _); rotate_left; (first | omega | (simp <;> omega))) | ((with_reducible refine Below.setCell ?_ ?_ _); rotate_left; (first | omega | (simp <;> omega)))))); rintro e wb ⟨vb, rfl, hob, hbb⟩))))
  have hA2 : Below w.heap.size w wb := hA1.trans (hbb.mono hA1.size)
  have s2 := hA2.size
  have hn1 : 1 ≤ a.length := ((rightM_iff a).1 hqa).1
  have hoa2 := own_below hoa hbb (Nat.le_refl _)
  obtain ⟨ga, cca, rfl⟩ := own_at' hoa (by omega)
  obtain ⟨B2, ccb, rfl⟩ := own_form hob
  have Ra := Lib.hid (Rd.of_own hoa2)
  have Rb := Lib.hid (Rd.of_own hob)
  have HL2 := Lib.hid (HL.out.below hA2 h0)
  clear hoa hoa2 hob hba hbb hA1 CX CY HL h20 h21 z0 z1 hz2 hX0 k0 k1 k2 k3 k4 k5 hif hcN hcb hca'
  obtain ⟨Q, hQ⟩ : ∃ Q : Nat, which % (a.length : Int) = (Q : Int) := ⟨(which % (a.length : Int)).toNat, by have := Int.emod_nonneg which (show (a.length : Int) ≠ 0 by omega); omega⟩
  have hQl : Q < a.length := by have := Int.emod_lt_of_pos which (show (0 : Int) < (a.length : Int) by omega); omega
  have m0 : 0 ≤ which % (a.length : Int) := by omega
  have m1 : which % (a.length : Int) < (a.length : Int) := by omega
  obtain ⟨g, off, hge, hgw, c1, c2⟩ := rd_p Ra.out Q hQl
  obtain ⟨rfl, rfl⟩ : ga = g ∧ 0 = off := by injection hge with h; injection h with e1 e2; exact ⟨e1, e2⟩
  obtain ⟨⟨x1, y1⟩, hp⟩ : ∃ p, a[Q] = p := ⟨_, rfl⟩
  have hpk := (okPt_iff a[Q]).1 (((rightM_iff a).1 hqa).2.2.1 _ (List.getElem_mem hQl))
  rw [hp] at c1 c2 hpk
  have hpk1 : 1 ≤ y1 ∧ y1 ≤ 100 := hpk.1
  have hpk2 : -10000 ≤ x1 ∧ x1 ≤ 10000 := hpk.2
  rw [Nat.zero_add] at c1 c2
  have d1 : wb.cell? ⟨ga, Q * 2, none⟩ = some (.int .i64 x1) := c1
  have d2 : wb.cell? ⟨ga, Q * 2 + 1, none⟩ = some (.int .i64 y1) := c2
  have Hp := Lib.hid hp
  clear hpk c1 c2 hge hp
  by_cases hy1 : y1 < 2
  · go_wp2_with fail
    refine (awake_any _ (HL2.out.below ((Below.refl _ _).alloc (Nat.le_refl _) _) HL2.out.lt)).mono ?_
    rintro e w3 ⟨rfl, hb3⟩
    go_wp2
    go_ret
    exact ⟨rfl, (hA2.alloc s2 _).trans (hb3.mono (by simp; omega))⟩
  obtain ⟨W, hW⟩ : ∃ W : Int, 1 + at_ % (y1 - 1) = W := ⟨_, rfl⟩
  have n0 : 0 ≤ at_ % (y1 - 1) := Int.emod_nonneg _ (by omega)
  have n1 : at_ % (y1 - 1) < y1 - 1 := Int.emod_lt_of_pos _ (by omega)
  have hWb : 1 ≤ W ∧ W ≤ y1 - 1 := by omega
  have HW := Lib.hid hW
  clear hW
  go_wp2_with fail
  rw [HW.out]
  have hP : Below w.heap.size w (wb.alloc (.cells #[.int .i64 x1, .int .i64 y1] 44)) := hA2.alloc s2 _
  have hBx := Lib.hid (Below.refl (wb.heap.size + 1) (wb.alloc (.cells #[.int .i64 x1, .int .i64 y1] 44)))
  have sp : (wb.alloc (.cells #[.int .i64 x1, .int .i64 y1] 44)).heap.size = wb.heap.size + 1 := by simp
  have Hsp := Lib.hid sp
  have hbox : (wb.alloc (.cells #[.int .i64 x1, .int .i64 y1] 44)).heap[wb.heap.size]? = _ := blk_new _ rfl
  have Hbox := Lib.hid hbox
  have hWbP : Below wb.heap.size wb (wb.alloc (.cells #[.int .i64 x1, .int .i64 y1] 44)) := (Below.refl _ _).alloc (Nat.le_refl _) _
  have Ra2 := Lib.hid (Ra.out.below hWbP)
  clear sp hbox d1 d2
  go_loopw [13, 14] (fun v i wr => ∃ (j n' : Nat) (xs : List Value), j ≤ a.length ∧ i = .int .i64 ((a.length : Int) - 1 - (j : Int)) ∧ Hid (xs = pC ((x1, y1 - W) :: spTo a Q j)) ∧ Hid (n' = ((x1, y1 - W) :: spTo a Q j).length) ∧ n' ≤ 5 ∧ wr.ownsRow (wb.heap.size + 1) 44 2 v n' xs ∧ Below (wb.heap.size + 1) (wb.alloc (.cells #[.int .i64 x1, .int .i64 y1] 44)) wr) (fun _ i _ => (intOf i + 1).toNat)
  case atStart => exact ⟨0, 1, pC [(x1, y1 - W)], by omega, int_eq (by omega), rfl, rfl, by omega, own_parts (blk_alloc_last _ _ (by simp)) (by simp [pC]) rfl (by omega) (by unfold maxLen; decide), hBx.out.alloc (by simp) _⟩
  case round =>
    obtain ⟨j, n', xs, hj, rfl, hxs, hn', hn5, hown, hbel⟩ := hrel
    have hsr : wb.heap.size + 1 ≤ wr.heap.size := by have := hbel.size; simp at this; omega
    by_cases hlt : j < a.length
    · obtain ⟨r, hr⟩ : ∃ r : Nat, (a.length : Int) - 1 - (j : Int) = (r : Int) := ⟨a.length - 1 - j, by omega⟩
      have hrl : r < a.length := by omega
      obtain ⟨g2, off2, hge2, hgw2, c1, c2⟩ := rd_p Ra2.out r hrl
      obtain ⟨rfl, rfl⟩ : ga = g2 ∧ 0 = off2 := by injection hge2 with h; injection h with e1 e2; exact ⟨e1, e2⟩
      rw [Nat.zero_add] at c1 c2
      have d1 := (bcell hbel ga _ (by omega)).trans c1
      have d2 := (bcell hbel ga _ (by omega)).trans c2
      have hrn : a.length - 1 - j = r := by omega
      have Hs := Lib.hid (show spTo a Q (j + 1) = spTo a Q j ++ (if r = Q then [] else [a[r]]) by
        show spTo a Q j ++ (if a.length - 1 - j = Q then [] else [a.getD (a.length - 1 - j) (0, 0)]) = _
        rw [hrn, List.getD_eq_getElem?_getD, List.getElem?_eq_getElem hrl]; rfl)
      have Hr := Lib.hid hr
      obtain ⟨⟨x2, y2⟩, hp2⟩ : ∃ p, a[r] = p := ⟨_, rfl⟩
      rw [hp2] at d1 d2 Hs
      have e1 : wr.cell? ⟨ga, r * 2, none⟩ = some (.int .i64 x2) := d1
      have e2 : wr.cell? ⟨ga, r * 2 + 1, none⟩ = some (.int .i64 y2) := d2
      have r0 : (0 : Int) ≤ (r : Int) := by omega
      clear c1 c2 d1 d2 hge2 hp2 hrn
      by_cases hq : r = Q
      · have hb : ((r : Int) != (Q : Int)) = false := by simp [hq]
        rw [if_pos hq] at Hs
        clear hq
        go_wp2
        go_roundw
        case rel => exact ⟨j + 1, n', xs, by omega, int_eq (by have := Hr.out; omega), by show _ = _; rw [Hs.out, List.append_nil]; exact hxs.out, by show _ = _; rw [Hs.out, List.append_nil]; exact hn'.out, hn5, hown, hbel⟩
        case measure => have := Hr.out; simp [intOf]; omega
      · have hb : ((r : Int) != (Q : Int)) = true := bne_iff_ne.2 (by omega)
        rw [if_neg hq] at Hs
        have Hn5 := Lib.hid (show n' + 1 ≤ 5 by
          have h1 := hn'.out
          have h2 := sp_len a Q j hj hQl
          rw [List.length_cons, h2] at h1
          split at h1 <;> omega)
        clear hq
        go_wp2_with (at_builtin; refine wpList_append_own _ rfl _ _ 24 rfl (wb.heap.size + 1) 44 i0 (.agg #[.int .i64 0, .int .i64 0]) 2 16 Tryd.underlying24 hi hz0 hz1 (by assumption) rfl (by decide) _ _ _ rfl (hown.alloc _) _ 1 1 [.int .i64 x2, .int .i64 y2] rfl rfl ?c1 ?c2 ?c3 ?c4 ?c5 ?_)
        case c1 => exact cells_new_at _ #[.int .i64 x2, .int .i64 y2] _ _ (by simp)
        case c2 => simp [Value.oneCell']
        case c3 => unfold maxLen; omega
        case c4 => omega
        case c5 => simp; omega
        intro v' w3 hown1 hgrow _
        go_wp2
        go_roundw
        case rel =>
          refine ⟨j + 1, n' + 1, _, by omega, int_eq (by have := Hr.out; omega), ?_, ?_, Hn5.out, hown1, (hbel.alloc (by omega) _).grown hgrow (by simp; omega) (fun g hg => (hown.lt g hg).1)⟩
          · show _ = pC ((x1, y1 - W) :: spTo a Q (j + 1)); rw [Hs.out, ← List.cons_append, pC_snoc, hxs.out]
          · show _ = ((x1, y1 - W) :: spTo a Q (j + 1)).length; rw [Hs.out, ← List.cons_append, List.length_append, ← show _ = _ from hn'.out]; rfl
        case measure => have := Hr.out; simp [intOf]; omega
    · have hje : a.length ≤ j := by omega
      have hjn : j = a.length := by omega
      have Hx := Lib.hid (show xs = pC ((x1, y1 - W) :: spTo a Q a.length) by rw [hxs.out, hjn])
      have Hn := Lib.hid (show n' = ((x1, y1 - W) :: spTo a Q a.length).length by rw [hn'.out, hjn])
      have hbk := blk_below Hbox.out hbel (by omega)
      have b0 := blk_cell hbk 0
      have b1 := blk_cell hbk 1
      have HbW := Lib.hid (hWbP.trans (hbel.mono (by omega)))
      clear hxs hn' hjn hbk
      go_wp2_with (at_builtin; refine wpList_append_own _ rfl _ _ 24 rfl (wb.heap.size + 1) 44 i0 (.agg #[.int .i64 0, .int .i64 0]) 2 16 Tryd.underlying24 hi hz0 hz1 (by assumption) rfl (by decide) _ _ _ rfl (hown.alloc _) _ 1 1 [.int .i64 x1, .int .i64 W] rfl rfl ?d1 ?d2 ?d3 ?d4 ?d5 ?_)
      case d1 => exact cells_new_at _ #[.int .i64 x1, .int .i64 W] _ _ (by simp)
      case d2 => simp [Value.oneCell']
      case d3 => unfold maxLen; omega
      case d4 => omega
      case d5 => simp; omega
      intro v3 w3 ho3 hg3 _
      have hb3 : Below wb.heap.size wb w3 := (HbW.out.alloc (by omega) _).grown hg3 (by simp; omega) (fun g hg => by have := (hown.lt g hg).1; omega)
      obtain ⟨SP, hSP⟩ : ∃ SP, splitL a Q x1 y1 W = SP := ⟨_, rfl⟩
      have hrS : rightM SP = true := by rw [← hSP]; exact split_right a Q hQl x1 y1 W Hp.out hqa hra3 hWb
      have hrdS : Rd w3 w3.heap.size 2 (match v3 with | .slice A n c => A | _ => none) SP.length (pC SP) ∧ ∃ A c, v3 = .slice A SP.length c := by
        obtain ⟨A3, c3, rfl⟩ := own_form ho3
        have h := Rd.of_own ho3
        have e1 : n' + 1 = SP.length := by rw [← hSP, Hn.out]; unfold splitL; rw [List.length_append]; rfl
        have e2 : xs ++ [.int .i64 x1, .int .i64 W] = pC SP := by rw [← hSP, Hx.out]; unfold splitL; rw [pC_snoc]
        rw [e2, e1] at h
        exact ⟨h, A3, c3, by rw [e1]⟩
      obtain ⟨hrd1, A3, c3, rfl⟩ := hrdS
      have hrd1' : Rd w3 w3.heap.size 2 A3 SP.length (pC SP) := hrd1
      obtain ⟨⟨f1, f2⟩, hf⟩ : ∃ f, cmpV a b = f := ⟨_, rfl⟩
      obtain ⟨⟨g1, g2⟩, hg⟩ : ∃ f, cmpV b a = f := ⟨_, rfl⟩
      have V1 := Lib.hid (show cmpV a b = (f1, f2) ∧ cmpE a b = 0 from ⟨hf, by unfold cmpE; rw [hqa, hqb]; rfl⟩)
      have V2 := Lib.hid (show cmpV SP b = (f1, f2) ∧ cmpE SP b = 0 from ⟨by rw [← hf]; unfold cmpV; rw [hqa, hqb, hrS, ← hSP, split_left a b Q hQl x1 y1 W Hp.out], by unfold cmpE; rw [hrS, hqb]; rfl⟩)
      have V3 := Lib.hid (show cmpV b a = (g1, g2) ∧ cmpE b a = 0 from ⟨hg, by unfold cmpE; rw [hqa, hqb]; rfl⟩)
      have V4 := Lib.hid (show cmpV b SP = (g1, g2) ∧ cmpE b SP = 0 from ⟨by rw [← hg]; unfold cmpV; rw [hqa, hqb, hrS, ← hSP, split_other a b Q hQl x1 y1 W Hp.out], by unfold cmpE; rw [hrS, hqb]; rfl⟩)
      have hla : a.length ≤ 1000 := by omega
      have hlb : b.length ≤ 1000 := by have := ((rightM_iff b).1 hqb).2.1; omega
      have hlS : SP.length ≤ 1000 := by have := ((rightM_iff SP).1 hrS).2.1; omega
      have FA := Lib.hid (Ra.out.go hb3)
      have FB := Lib.hid (Rb.out.go hb3)
      have FSp := Lib.hid hrd1'
      have FL := Lib.hid (HL2.out.below hb3 HL2.out.lt)
      have hBall := hA2.trans (hb3.mono s2)
      have sBall := hBall.size
      clear hrd1 hrd1' hf hg hSP hrS hqa hqb ho3 hg3 hown hbel b0 b1 hb3 hP hWbP hBx hra3
      have hw0 : Below w3.heap.size w3 w3 := Below.refl _ _
      go_wp2_with fail
      refine (compare_any a b (some ⟨ga, 0, none⟩) B2 cca ccb _ (FL.out.below hw0 FL.out.lt) (FA.out.go hw0) (FB.out.go hw0) hla hlb).mono ?_
      rintro e u1 ⟨rfl, hb1⟩
      rw [V1.out.1, V1.out.2, show fV (f1, f2) = .agg #[.int .i64 f1, .int .i64 f2] from rfl]
      have hx1 := (hw0.trans (hb1.mono hw0.size)).alloc (hw0.trans (hb1.mono hw0.size)).size (.cells #[.int .i64 f1, .int .i64 f2] 46)
      have q1 := Lib.hid (blk_new (w := u1) (.cells #[.int .i64 f1, .int .i64 f2] 46) rfl)
      clear hb1
      go_wp2_with fail
      refine (compare_any SP b A3 B2 c3 ccb _ (FL.out.below hx1 FL.out.lt) (FSp.out.go hx1) (FB.out.go hx1) hlS hlb).mono ?_
      rintro e u2 ⟨rfl, hb2⟩
      rw [V2.out.1, V2.out.2, show fV (f1, f2) = .agg #[.int .i64 f1, .int .i64 f2] from rfl]
      have hx2 := (hx1.trans (hb2.mono hx1.size)).alloc (hx1.trans (hb2.mono hx1.size)).size (.cells #[.int .i64 f1, .int .i64 f2] 46)
      have q1 := Lib.hid (blk_alloc (blk_below q1.out hb2 (by have := blk_lt q1.out; omega)) (.cells #[.int .i64 f1, .int .i64 f2] 46))
      have q2 := Lib.hid (blk_new (w := u2) (.cells #[.int .i64 f1, .int .i64 f2] 46) rfl)
      clear hb2
      go_wp2_with fail
      refine (compare_any b a B2 (some ⟨ga, 0, none⟩) ccb cca _ (FL.out.below hx2 FL.out.lt) (FB.out.go hx2) (FA.out.go hx2) hlb hla).mono ?_
      rintro e u3 ⟨rfl, hb3⟩
      rw [V3.out.1, V3.out.2, show fV (g1, g2) = .agg #[.int .i64 g1, .int .i64 g2] from rfl]
      have hx3 := (hx2.trans (hb3.mono hx2.size)).alloc (hx2.trans (hb3.mono hx2.size)).size (.cells #[.int .i64 g1, .int .i64 g2] 46)
      have q1 := Lib.hid (blk_alloc (blk_below q1.out hb3 (by have := blk_lt q1.out; omega)) (.cells #[.int .i64 g1, .int .i64 g2] 46))
      have q2 := Lib.hid (blk_alloc (blk_below q2.out hb3 (by have := blk_lt q2.out; omega)) (.cells #[.int .i64 g1, .int .i64 g2] 46))
      have q3 := Lib.hid (blk_new (w := u3) (.cells #[.int .i64 g1, .int .i64 g2] 46) rfl)
      clear hb3
      go_wp2_with fail
      refine (compare_any b SP B2 A3 ccb c3 _ (FL.out.below hx3 FL.out.lt) (FB.out.go hx3) (FSp.out.go hx3) hlb hlS).mono ?_
      rintro e u4 ⟨rfl, hb4⟩
      rw [V4.out.1, V4.out.2, show fV (g1, g2) = .agg #[.int .i64 g1, .int .i64 g2] from rfl]
      have hx4 := (hx3.trans (hb4.mono hx3.size)).alloc (hx3.trans (hb4.mono hx3.size)).size (.cells #[.int .i64 g1, .int .i64 g2] 46)
      have q1 := Lib.hid (blk_alloc (blk_below q1.out hb4 (by have := blk_lt q1.out; omega)) (.cells #[.int .i64 g1, .int .i64 g2] 46))
      have q2 := Lib.hid (blk_alloc (blk_below q2.out hb4 (by have := blk_lt q2.out; omega)) (.cells #[.int .i64 g1, .int .i64 g2] 46))
      have q3 := Lib.hid (blk_alloc (blk_below q3.out hb4 (by have := blk_lt q3.out; omega)) (.cells #[.int .i64 g1, .int .i64 g2] 46))
      have q4 := Lib.hid (blk_new (w := u4) (.cells #[.int .i64 g1, .int .i64 g2] 46) rfl)
      clear hb4
      have p10 := blk_cell q1.out 0
      have p11 := blk_cell q1.out 1
      have p20 := blk_cell q2.out 0
      have p21 := blk_cell q2.out 1
      have p30 := blk_cell q3.out 0
      have p31 := blk_cell q3.out 1
      have p40 := blk_cell q4.out 0
      have p41 := blk_cell q4.out 1
      have hBe := hBall.trans (hx4.mono sBall)
      go_wp2_with fail
      refine (awake_any _ (FL.out.below hx4 FL.out.lt)).mono ?_
      rintro e u9 ⟨rfl, hb9⟩
      go_wp2
      go_ret
      exact ⟨rfl, hBe.trans (hb9.mono hBe.size)⟩

end Go.Proofs.YteemknjnlocgpaaDoor
