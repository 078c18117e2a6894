/- The walk of the statement ImpTeams, and the plain laws behind it. -/
import Derived.Test.YtkkemdjeobnpfaaDoorImpMadeW
import Derived.Maps.AppendAt
namespace Go.Proofs.YtkkemdjeobnpfaaDoor
open Go.RowKit

/-! ### Plain laws -/
theorem swingV_swap (o c : Int) : swingV c o = -swingV o c := by
  unfold swingV
  by_cases h : okScore o ∧ okScore c
  · rw [if_pos h, if_pos ⟨h.2, h.1⟩, ← imp_neg]; congr 1; omega
  · rw [if_neg h, if_neg (fun h' => h ⟨h'.2, h'.1⟩)]; rfl
def swapB (b : Int × Int) : Int × Int := (b.2, b.1)
theorem madeB_ok (n : Int) (h : 0 ≤ n) : okB (madeB n) := by
  unfold okB okScore madeB
  have : 0 ≤ n / 1521 := by omega
  constructor <;> constructor <;> dsimp only <;> omega
theorem madeL_ok (l : List Int) (h : U32s l) : okAll (madeL l) := by
  intro b hb
  obtain ⟨n, hn, rfl⟩ := List.mem_map.1 hb
  exact madeB_ok n (h n (List.mem_of_mem_take hn)).1
theorem okAll_swap (l : List (Int × Int)) (h : okAll l) : okAll (l.map swapB) := by
  intro b hb
  obtain ⟨c, hc, rfl⟩ := List.mem_map.1 hb
  exact ⟨(h c hc).2, (h c hc).1⟩
theorem okAll_rev (l : List (Int × Int)) (h : okAll l) : okAll l.reverse := fun b hb => h b (List.mem_reverse.1 hb)
theorem wonAll (l : List (Int × Int)) : wonUpto l l.length = (l.map fun b => max (swingOf b) 0).sum := by unfold wonUpto; rw [List.take_length]
theorem lostAll (l : List (Int × Int)) : lostUpto l l.length = (l.map fun b => max (-swingOf b) 0).sum := by unfold lostUpto; rw [List.take_length]
structure MatchOk (l : List (Int × Int)) : Prop where
  err : matchE l = 0
  won : wonV l = (l.map fun b => max (swingOf b) 0).sum
  lost : lostV l = (l.map fun b => max (-swingOf b) 0).sum
  run : runV l = runL l l.length
  won0 : 0 ≤ wonV l
  lost0 : 0 ≤ lostV l
  total : runUpto l l.length = wonV l - lostV l
theorem matchOk (l : List (Int × Int)) (h : okAll l) (hn : l.length ≤ 128) : MatchOk l := by
  have he : matchE l = 0 := matchE_ok (by omega) h
  have hw : wonV l = wonUpto l l.length := by simp [wonV, he]
  have hl : lostV l = lostUpto l l.length := by simp [lostV, he]
  have hu := upto_bd l l.length (Nat.le_refl _)
  exact ⟨he, by rw [hw, wonAll], by rw [hl, lostAll], by simp [runV, he], by omega, by omega, by omega⟩
theorem won_swap (l : List (Int × Int)) (h : okAll l) (hn : l.length ≤ 128) : wonV (l.map swapB) = lostV l ∧ lostV (l.map swapB) = wonV l := by
  have h1 := matchOk l h hn
  have h2 := matchOk (l.map swapB) (okAll_swap l h) (by simpa using hn)
  rw [h2.won, h2.lost, h1.won, h1.lost, List.map_map, List.map_map]
  constructor
  · congr 1; apply List.map_congr_left; intro b _; simp only [Function.comp, swingOf, swapB]; rw [swingV_swap]
  · congr 1; apply List.map_congr_left; intro b _; simp only [Function.comp, swingOf, swapB]; rw [swingV_swap]; omega
theorem won_rev (l : List (Int × Int)) (h : okAll l) (hn : l.length ≤ 128) : wonV l.reverse = wonV l ∧ lostV l.reverse = lostV l := by
  have h1 := matchOk l h hn
  have h2 := matchOk l.reverse (okAll_rev l h) (by simpa using hn)
  rw [h2.won, h2.lost, h1.won, h1.lost, List.map_reverse, List.map_reverse, List.sum_reverse, List.sum_reverse]
  exact ⟨rfl, rfl⟩
theorem runV_get (l : List (Int × Int)) (h : MatchOk l) (k : Nat) (hk : k < l.length) : (runV l)[k]? = some (runUpto l (k + 1)) := by
  rw [h.run]; unfold runL
  rw [List.getElem?_map, List.getElem?_range hk]; rfl
theorem bCells_take (l : List (Int × Int)) (k : Nat) (hk : k < l.length) : bCells (l.take (k + 1)) = bCells (l.take k) ++ [.int .i64 l[k].1, .int .i64 l[k].2] := by
  rw [List.take_succ_eq_append_getElem hk, bCells_snoc]

/-- imp.Match, the number of boards spelled otherwise. -/
theorem match_n (l : List (Int × Int)) (n : Nat) (hn : n = l.length) (A : Option Addr) (c : Nat) (w : World) (hg : Laid w) (hl : Rd w w.heap.size 2 A l.length (bCells l)) (hm : l.length ≤ 4611686018427387904) :
    Calls Tryd.prog 20 #[.slice A n c] w fun e w' => e = .returned (.tuple #[.int .i64 (wonV l), .int .i64 (lostV l), .int .i64 (matchE l)]) ∧ Below w.heap.size w w' := by
  subst hn; exact match_any l A c w hg hl hm

set_option maxHeartbeats 2000000 in
set_option maxRecDepth 100000 in
theorem impTeams_walk (u : List Int) (A : Option Addr) (c : Nat) (w : World) (hg : Laid w) (hl : Rd w w.heap.size 1 A u.length (u32C u)) (hu : U32s u) (hc : u.length ≤ c) (hm : c ≤ 9223372036854775807) :
    Calls Tryd.prog 8 #[.slice A u.length c] w fun e w' => e = .returned (.bool true) ∧ Below w.heap.size w w' := by
  obtain ⟨i0, hi, hz0, hz1, hz2⟩ := info_parts info_board
  have hok := madeL_ok u hu
  have hlen := madeL_len u
  go_enter Tryd.func8, Tryd.ntmps8
  go_wp2_with fail
  refine (made_any u A c w hl hu hc hm).mono ?_
  rintro e w1 ⟨v, rfl, hown, hb1⟩
  obtain ⟨A1, cA, rfl⟩ := own_form hown
  have hrd := Rd.of_own hown
  have hn : (madeL u).length ≤ 128 := by omega
  have hg1 := hg.below hb1 hg.lt
  clear hown hlen hl
  generalize madeL u = l at *
  go_wp2
  go_loopw [4, 5, 28] (fun v1 v2 i wr => ∃ (k : Nat) (xs ys : List Value), k ≤ l.length ∧ i = .int .i64 (k : Int) ∧ Hid (xs = bCells ((l.map swapB).take k)) ∧ Hid (ys = bCells (l.reverse.take k)) ∧
      wr.ownsRow w1.heap.size 29 2 v1 k xs ∧ wr.ownsRow w1.heap.size 29 2 v2 k ys ∧ apart2 v1 v2 ∧ Below w1.heap.size w1 wr) (fun _ _ i _ => l.length - (intOf i).toNat)
  case atStart => exact ⟨0, [], [], by omega, rfl, rfl, rfl, own_nil, own_nil, apart2.nil_, Below.refl _ _⟩
  case round =>
    obtain ⟨k, xs, ys, hk, rfl, hxs, hys, ho1, ho2, hap, hbel⟩ := hrel
    by_cases hlt : k < l.length
    · obtain ⟨b, off, rfl, hbw, hc1, hc2⟩ := rd_board hrd k hlt
      have hd1 := (bcell hbel b (off + k * 2) hbw).trans hc1
      have hd2 := (bcell hbel b (off + k * 2 + 1) hbw).trans hc2
      have hlt' : l.length - 1 - k < l.length := by omega
      obtain ⟨b', off', e', hbw', hc1', hc2'⟩ := rd_board hrd (l.length - 1 - k) hlt'
      have eb : b' = b := by injection e' with e'; injection e' with e1 e2; exact e1.symm
      have eo : off' = off := by injection e' with e'; injection e' with e1 e2; exact e2.symm
      subst eb; subst eo
      have hs1 : (l.map swapB)[k]'(by simpa using hlt) = (l[k].2, l[k].1) := by simp [swapB]
      have hs2 : l.reverse[k]'(by simpa using hlt) = l[l.length - 1 - k] := by simp [List.getElem_reverse]
      have Hs1 := Lib.hid (bCells_take (l.map swapB) k (by simpa using hlt))
      have Hs2 := Lib.hid (bCells_take l.reverse k (by simpa using hlt))
      rw [hs1] at Hs1
      rw [hs2] at Hs2
      clear hs1 hs2 hc1 hc2 e'
      generalize l[k].1 = x at *
      generalize l[k].2 = y at *
      generalize (l[l.length - 1 - k]'hlt').1 = x' at *
      generalize (l[l.length - 1 - k]'hlt').2 = y' at *
      have hidx : ((l.length : Int) - 1 - (k : Int)) = ((l.length - 1 - k : Nat) : Int) := by omega
      go_wp2_with (at_builtin; refine wpList_append_own_at _ rfl _ _ 34 rfl w1.heap.size 29 i0 (.agg #[.int .i64 0, .int .i64 0]) 2 16 Tryd.underlying34 hi hz0 hz1 hz2 rfl (by decide) _ _ _ rfl ((ho1.alloc _).alloc _) _ 1 1 [.int .i64 y, .int .i64 x] rfl rfl ?c1 ?c2 ?c3 ?c4 ?c5 ?_)
      case c2 => simp [Value.oneCell']
      case c3 => unfold maxLen; omega
      case c4 => omega
      case c5 => have := hbel.size; simp; omega
      intro v1' w2 ho1' hgrow _ hat
      obtain ⟨ho2', hap'⟩ := own_two ((ho2.alloc _).alloc _) hgrow hap (by simpa using hat)
      have hbel2 : Below w1.heap.size w1 w2 := ((hbel.alloc hbel.size _).alloc (by have := hbel.size; simp; omega) _).grown hgrow (by have := hbel.size; simp; omega) (fun g hg => (ho1.lt g hg).1)
      have hx1 := (bcell hbel2 b' (off' + (l.length - 1 - k) * 2) hbw).trans hc1'
      have hx2 := (bcell hbel2 b' (off' + (l.length - 1 - k) * 2 + 1) hbw).trans hc2'
      have hsz2 := hbel2.size
      clear hc1' hc2'
      go_wp2_with (at_builtin; refine wpList_append_own_at _ rfl _ _ 34 rfl w1.heap.size 29 i0 (.agg #[.int .i64 0, .int .i64 0]) 2 16 Tryd.underlying34 hi hz0 hz1 hz2 rfl (by decide) _ _ _ rfl (ho2'.alloc _) _ 1 1 [.int .i64 x', .int .i64 y'] rfl rfl ?d1 ?d2 ?d3 ?d4 ?d5 ?_)
      case d1 => exact cells_new_at _ _ _ _ (by simp)
      case d2 => simp [Value.oneCell']
      case d3 => unfold maxLen; omega
      case d4 => omega
      case d5 => simp; omega
      intro v2' w3 ho2'' hgrow2 _ hat2
      obtain ⟨ho1'', hap''⟩ := own_two (ho1'.alloc _) hgrow2 hap'.symm_ (by simpa using hat2)
      go_wp2
      go_roundw
      case rel =>
        refine ⟨k + 1, _, _, by omega, by go_num, ?_, ?_, ho1'', ho2'', hap''.symm_, (hbel2.alloc hsz2 _).grown hgrow2 (by simp; omega) (fun g hg => (ho2'.lt g hg).1)⟩
        · rw [Hs1.out, hxs.out]; exact rfl
        · rw [Hs2.out, hys.out]; exact rfl
      case measure => simp [intOf]; omega
    · obtain rfl : k = l.length := by omega
      have hxe := Lib.hid (show bCells ((l.map swapB).take l.length) = bCells (l.map swapB) by rw [List.take_of_length_le (by simp)])
      have hye := Lib.hid (show bCells (l.reverse.take l.length) = bCells l.reverse by rw [List.take_of_length_le (by simp)])
      obtain ⟨B1, d1, rfl⟩ := own_form ho1
      obtain ⟨B2, d2, rfl⟩ := own_form ho2
      have hr1 : Rd wr wr.heap.size 2 B1 (l.map swapB).length (bCells (l.map swapB)) := by
        have := Rd.of_own ho1
        rw [hxs.out, hxe.out] at this
        simpa using this
      have hr2 : Rd wr wr.heap.size 2 B2 l.reverse.length (bCells l.reverse) := by
        have := Rd.of_own ho2
        rw [hys.out, hye.out] at this
        simpa using this
      have hr0 : Rd wr wr.heap.size 2 A1 l.length (bCells l) := (hrd.below hbel).more hbel.size
      have M := matchOk l hok hn
      have M1 := matchOk _ (okAll_swap l hok) (by simpa using hn)
      have M2 := matchOk _ (okAll_rev l hok) (by simpa using hn)
      obtain ⟨ws1, ws2⟩ := won_swap l hok hn
      obtain ⟨wr1, wr2⟩ := won_rev l hok hn
      have HM := Lib.hid M
      have E1 := Lib.hid M.err
      have E2 := Lib.hid M1.err
      have E3 := Lib.hid M2.err
      have S1 := Lib.hid ws1; have S2 := Lib.hid ws2; have S3 := Lib.hid wr1; have S4 := Lib.hid wr2
      have p1 := M.won0
      have p2 := M.lost0
      have hl2 := hg1.below hbel hg1.lt
      have hrl : Hid ((runV l).length = l.length) := by rw [M.run, runL_len]; rfl
      clear M M1 M2 ws1 ws2 wr1 wr2 ho1 ho2 hap hxs hys hxe hye
      go_wp2_with fail
      refine (match_any l A1 cA _ hl2 hr0 (by omega)).mono ?_
      rintro e w4 ⟨rfl, hb4⟩
      rw [E1.out]
      have hs4 := hb4.size
      have hl4 := hl2.below hb4 hl2.lt
      have hr14 := (hr1.below hb4).more hs4
      have hr24 := (hr2.below hb4).more hs4
      have hr04 := (hr0.below hb4).more hs4
      go_wp2_with fail
      refine (match_n (l.map swapB) l.length (by simp) B1 d1 _ hl4 hr14 (by simp; omega)).mono ?_
      rintro e w5 ⟨rfl, hb5⟩
      rw [E2.out, S1.out, S2.out]
      have hs5 := hb5.size
      have hl5 := hl4.below hb5 hl4.lt
      have hr25 := (hr24.below hb5).more hs5
      have hr05 := (hr04.below hb5).more hs5
      go_wp2_with fail
      refine (match_n l.reverse l.length (by simp) B2 d2 _ hl5 hr25 (by simp; omega)).mono ?_
      rintro e w6 ⟨rfl, hb6⟩
      rw [E3.out, S3.out, S4.out]
      have hs6 := hb6.size
      have hl6 := hl5.below hb6 hl5.lt
      have hr06 := (hr05.below hb6).more hs6
      go_wp2_with fail
      refine (running_any l A1 cA _ hl6 hr06 (by omega)).mono ?_
      rintro e w7 ⟨v, rfl, hown7, hb7⟩
      obtain ⟨R, rc, rfl⟩ := own_form hown7
      have hrr := Rd.of_own hown7
      rw [E1.out]
      rw [hrl.out] at hrr ⊢
      have hs7 := hb7.size
      have hl7 := hl6.below hb7 hl6.lt
      have hr07 := (hr06.below hb7).more hs7
      have hW : Below w.heap.size w w7 := by
        have t1 := hb1.trans (hbel.mono hb1.size)
        have t2 := t1.trans (hb4.mono t1.size)
        have t3 := t2.trans (hb5.mono t2.size)
        have t4 := t3.trans (hb6.mono t3.size)
        exact t4.trans (hb7.mono t4.size)
      have Hl7 := Lib.hid hl7
      clear hr1 hr2 hr0 hr14 hr24 hr04 hr25 hr05 hr06 hown7 hl2 hl4 hl5 hl6 hl7 hg1 hbel hb1 hb4 hb5 hb6 hb7 hs4 hs5 hs6 hs7
      go_wp2
      go_loopw [19, 127] (fun s i wr => ∃ k : Nat, k ≤ l.length ∧ i = .int .i64 (k : Int) ∧ s = .int .i64 (runUpto l k) ∧ Below w7.heap.size w7 wr) (fun _ i _ => l.length - (intOf i).toNat)
      case atStart => exact ⟨0, by omega, rfl, rfl, Below.refl _ _⟩
      case round =>
        obtain ⟨k, hk, rfl, rfl, hbl⟩ := hrel
        by_cases hlt : k < l.length
        · obtain ⟨b, off, rfl, hbw, hc1, hc2⟩ := rd_board hr07 k hlt
          obtain ⟨b', off', rfl, hbw', hcr⟩ := hrr.pos (by omega)
          have hd1 := (bcell hbl b (off + k * 2) hbw).trans hc1
          have hd2 := (bcell hbl b (off + k * 2 + 1) hbw).trans hc2
          have hokk := hok _ (List.getElem_mem hlt)
          have Hrs := Lib.hid (runUpto_succ l k hlt)
          have Hes := Lib.hid (swing_ok hokk)
          have Hsv := Lib.hid (show swingV l[k].1 l[k].2 = impV (l[k].1 - l[k].2) from if_pos hokk)
          have hd3 : wr.cell? ⟨b', off' + k, none⟩ = some (.int .i64 (runUpto l k + swingV l[k].1 l[k].2)) := by
            refine (bcell hbl b' (off' + k) hbw').trans ((hcr k (by simpa [HM.out.run, runL_len] using hlt)).trans ?_)
            rw [List.getElem?_map, runV_get l HM.out k hlt, Hrs.out]; rfl
          have hub : -24 * (k : Int) ≤ runUpto l k ∧ runUpto l k ≤ 24 * k := by have := upto_bd l k hk; omega
          have hsw := swingV_bd l[k].1 l[k].2
          have hlr := Lib.hid (Hl7.out.below hbl Hl7.out.lt)
          have hsl := hbl.size
          have hob : -7600 ≤ l[k].1 ∧ l[k].1 ≤ 7600 ∧ -7600 ≤ l[k].2 ∧ l[k].2 ≤ 7600 := ⟨hokk.1.1, hokk.1.2, hokk.2.1, hokk.2.2⟩
          clear hc1 hc2 hcr
          go_wp2_with fail
          refine (swing_any _ _ _ (hlr.out.below ((Below.refl _ _).alloc (Nat.le_refl _) _) hlr.out.lt)).mono ?_
          rintro e w8 ⟨rfl, hb8⟩
          rw [Hes.out]
          have hs8 : wr.heap.size + 1 ≤ w8.heap.size := by have := hb8.size; simpa using this
          have hbl8 : Below w7.heap.size w7 w8 := (hbl.alloc hsl _).trans (hb8.mono (by simp; omega))
          have hl8 := Hl7.out.below hbl8 Hl7.out.lt
          have g1 := (bcell hb8 b' (off' + k) (by simp; omega)).trans ((Below.cell ((Below.refl _ wr).alloc (Nat.le_refl _) _) (p := ⟨b', off' + k, none⟩) (by simp; omega)).trans hd3)
          have hblk : w8.heap[wr.heap.size]? = _ := blk_below (blk_new (.cells #[.int .i64 l[k].1, .int .i64 l[k].2] 29) rfl) hb8 (by simp)
          have g2 : w8.cell? ⟨wr.heap.size, 0, none⟩ = some (.int .i64 l[k].1) := blk_cell hblk 0
          have g3 : w8.cell? ⟨wr.heap.size, 1, none⟩ = some (.int .i64 l[k].2) := blk_cell hblk 1
          clear hblk hd1 hd2 hd3
          go_wp2_with fail
          refine (imp_any _ _ hl8).mono ?_
          rintro e _ ⟨rfl, rfl⟩
          rw [← Hsv.out]
          go_wp2
          go_roundw
          case rel => exact ⟨k + 1, by omega, by go_num, int_eq Hrs.out.symm, hbl8⟩
          case measure => simp [intOf]; omega
        · obtain rfl : k = l.length := by omega
          have htot : Hid (runUpto l l.length = wonV l - lostV l) := HM.out.total
          have hub : wonV l ≤ 24 * l.length ∧ lostV l ≤ 24 * l.length := by
            have := upto_bd l l.length (Nat.le_refl _)
            have e1 := HM.out.won
            have e2 := HM.out.lost
            rw [← wonAll] at e1
            rw [← lostAll] at e2
            omega
          have hlr := Hl7.out.below hbl Hl7.out.lt
          rw [htot.out]
          go_wp2_with fail
          refine (awake_any _ hlr).mono ?_
          rintro e w9 ⟨rfl, hb9⟩
          go_wp2
          go_ret
          have t1 := hW.trans (hbl.mono hW.size)
          exact ⟨rfl, t1.trans (hb9.mono t1.size)⟩

end Go.Proofs.YtkkemdjeobnpfaaDoor
