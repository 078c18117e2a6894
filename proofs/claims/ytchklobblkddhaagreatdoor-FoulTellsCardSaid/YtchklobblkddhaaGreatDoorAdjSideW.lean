/- The walks of adjust.Weighted, full. -/
import Derived.Test.YtchklobblkddhaaGreatDoorAdjRightW3
import Derived.Test.YtchklobblkddhaaGreatDoorAdjSide
import Derived.Test.YtchklobblkddhaaGreatDoorMatOwn
namespace Go.Proofs.YtchklobblkddhaaGreatDoor
open Go.RowKit

theorem allOut_take (L : List Oc) (k : Nat) (hk : k < L.length) (h : ∀ i (hi : i < L.length), i < k → outB L[i] = true) (hk1 : outB L[k] = true) : ∀ i (hi : i < L.length), i < k + 1 → outB L[i] = true := fun i hi hik => by
  by_cases e : i < k
  · exact h i hi e
  · obtain rfl : i = k := by omega
    exact hk1

set_option maxHeartbeats 4000000 in
theorem weight_long (L : List Oc) (vul : Int) (A : Option Addr) (c : Nat) (w : World) (hn : L.length ≤ 4611686018427387904) (h4 : 4 < L.length) :
    Calls Tryz.prog 49 #[.slice A L.length c, .int .u8 vul] w fun e w' => e = .returned (.tuple #[.slice none 0 0, .int .i64 2]) ∧ Below w.heap.size w w' := by
  have t0 : decide ((L.length : Int) > 4) = true := decide_eq_true (by omega)
  go_enter Tryz.func49, Tryz.ntmps49
  go_wp2
  go_ret2
  exact ⟨rfl, (by repeat (first | exact Below.refl _ _ | assumption | refine Below.drew ?_ | refine below_drewN ?_ _ | refine Below.alloc ?_ (by first | omega | (simp; done) | (simp; omega)) _ | refine Below.setCell ?_ (by first | omega | (simp; done) | (simp; omega)) _))⟩

/-- What Weighted returns. -/
def WRes (L : List Oc) (vul : Int) (w : World) (e : Ending) (w' : World) : Prop :=
  (wOk L vul = false ∧ e = .returned (.tuple #[.slice none 0 0, .int .i64 2]) ∧ Below w.heap.size w w') ∨
  (wOk L vul = true ∧ ∃ v, e = .returned (.tuple #[v, .int .i64 0]) ∧ w'.ownsRow w.heap.size 114 2 v L.length (pC (wPts L vul)) ∧ Below w.heap.size w w')

set_option maxRecDepth 100000 in
set_option maxHeartbeats 4000000 in
theorem weight_any (L : List Oc) (vul : Int) (A : Option Addr) (c : Nat) (w : World) (hn : L.length ≤ 4611686018427387904) (hv : 0 ≤ vul ∧ vul ≤ 255) (ho : ∀ x ∈ L, OcOk x) (hA : Rd w w.heap.size 6 A L.length (ocC L)) (hL : LaidS w) :
    Calls Tryz.prog 49 #[.slice A L.length c, .int .u8 vul] w fun e w' => WRes L vul w e w' := by
  by_cases h4 : 4 < L.length
  · exact (weight_long L vul A c w hn h4).mono fun e w' hh => .inl ⟨by
      cases hq : wOk L vul with
      | false => rfl
      | true => have := ((wOk_iff L vul).1 hq).1; omega, hh⟩
  obtain ⟨i0, hi, hz0, hz1, hz2⟩ := info_parts info_part
  have HA := Lib.hid hA
  have HO := Lib.hid ho
  have HL := Lib.hid hL
  have h0 := hL.lt
  have t4 : decide ((L.length : Int) > 4) = false := decide_eq_false (by omega)
  have hn4 : L.length ≤ 4 := by omega
  clear hA ho hL h4
  go_enter Tryz.func49, Tryz.ntmps49
  go_wp2
  go_loopw [6, 16] (fun v i wr => ∃ (k : Nat) (xs : List Value), k ≤ L.length ∧ i = .int .i64 (k : Int) ∧ Hid (xs = pC (wPts (L.take k) vul)) ∧ wr.ownsRow w.heap.size 114 2 v k xs ∧ Hid (∀ i (hi : i < L.length), i < k → outB L[i] = true) ∧ Below w.heap.size w wr) (fun _ i _ => L.length - (intOf i).toNat)
  case atStart => exact ⟨0, [], by omega, rfl, rfl, own_nil, (fun i hi h => absurd h (Nat.not_lt_zero i) : ∀ i (hi : i < L.length), i < 0 → outB L[i] = true), Below.refl _ _⟩
  case round =>
    obtain ⟨k, xs, hk, rfl, hxs, hown, hout, hbel⟩ := hrel
    have hsr := hbel.size
    by_cases hlt : k < L.length
    · obtain ⟨b, off, rfl, hbw, d0, d1, d2, d3, d4, d5⟩ := rd_o HA.out k hlt
      have e0 := (bcell hbel b (off + k * 6) hbw).trans d0
      have e1 := (bcell hbel b (off + k * 6 + 1) hbw).trans d1
      have e2 := (bcell hbel b (off + k * 6 + 2) hbw).trans d2
      have e3 := (bcell hbel b (off + k * 6 + 3) hbw).trans d3
      have e4 := (bcell hbel b (off + k * 6 + 4) hbw).trans d4
      have e5 := (bcell hbel b (off + k * 6 + 5) hbw).trans d5
      have hokx := HO.out _ (List.getElem_mem hlt)
      obtain ⟨h1, h2, h3, h5, h6, h7⟩ := hokx
      have Hs := Lib.hid (show pC (wPts (L.take (k + 1)) vul) = pC (wPts (L.take k) vul) ++ [.int .i64 (scoreI L[k].l L[k].d L[k].r L[k].s L[k].t vul), .int .i64 L[k].w] by rw [wPts_snoc L vul k hlt, pC_snoc]; rfl)
      have HB := Lib.hid (show outB L[k] = false ∨ 3 < vul → wOk L vul = false from fun h => by
        cases hq : wOk L vul with
        | false => rfl
        | true =>
          have hw := (wOk_iff L vul).1 hq
          rcases h with h | h
          · rw [hw.2.2.1 _ (List.getElem_mem hlt)] at h; cases h
          · omega)
      have HN := Lib.hid (fun h => allOut_take L k hlt hout.out h)
      have HSB := Lib.hid (fun W (hq : resultC L[k].l L[k].d L[k].r L[k].s L[k].t = false ∨ 3 < vul) => sscore_bad L[k].l L[k].d L[k].r L[k].s L[k].t vul h1 h2 h3 h5 hv hq W)
      have HSO := Lib.hid (fun W h3v (hq : resultC L[k].l L[k].d L[k].r L[k].s L[k].t = true) hW => sscore_ok L[k].l L[k].d L[k].r L[k].s L[k].t vul h1 h2 h3 h5 h3v hq W hW)
      have HOut := Lib.hid (show outB L[k] = resultC L[k].l L[k].d L[k].r L[k].s L[k].t from rfl)
      generalize L[k] = x at e0 e1 e2 e3 e4 e5 h1 h2 h3 h5 h6 h7 Hs HB HN HSB HSO HOut
      obtain ⟨x1, x2, x3, x4, x5, x6⟩ := x
      dsimp only at e0 e1 e2 e3 e4 e5 h1 h2 h3 h5 h6 h7 Hs HSB HSO HOut
      have c1 : (0 : Int) ≤ (k : Int) := by omega
      have c2 : (k : Int) < (L.length : Int) := by omega
      clear d0 d1 d2 d3 d4 d5
      go_upto_region 7 with fail
      obtain ⟨W3, hW3⟩ : ∃ W3, wr.alloc (.cells #[.int .u8 x1, .int .u8 x2, .int .u8 x3, .int .u8 x4, .int .i64 x5, .int .i64 x6] 47) = W3 := ⟨_, rfl⟩
      obtain ⟨G, hG⟩ : ∃ G, wr.heap.size = G := ⟨_, rfl⟩
      have n3 : W3.heap[G]? = some (.cells #[.int .u8 x1, .int .u8 x2, .int .u8 x3, .int .u8 x4, .int .i64 x5, .int .i64 x6] 47) := by rw [← hW3]; exact blk_new _ hG.symm
      have b3 : Below w.heap.size w W3 := by rw [← hW3]; exact hbel.alloc (by omega) _
      have b3' : Below wr.heap.size wr W3 := by rw [← hW3]; exact (Below.refl _ _).alloc (Nat.le_refl _) _
      have o3 : W3.ownsRow w.heap.size 114 2 u6 k xs := by rw [← hW3]; exact hown.alloc _
      have HL3 := Lib.hid (HL.out.go b3)
      rw [hW3, hG]
      have q0 := blk_cell n3 0
      have q1 := blk_cell n3 1
      have q2 := blk_cell n3 2
      have q3 := blk_cell n3 3
      have q4 := blk_cell n3 4
      have gG := blk_lt n3
      clear hW3 hG e0 e1 e2 e3 e4 e5
      by_cases hbad : resultC x1 x2 x3 x4 x5 = false ∨ 3 < vul
      · have HX := Lib.hid (HSB.out W3 hbad)
        have hf := Lib.hid (HB.out (by rw [HOut.out]; exact hbad))
        clear hbad
        go_wp2_with fail
        refine HX.out.mono ?_
        rintro ee w4 ⟨rfl, hb4⟩
        have Hb4 := Lib.hid (below_via b3 hb4)
        go_wp2
        go_ret2
        exact Or.inl ⟨hf.out, rfl, Hb4.out⟩
      · obtain ⟨hr, hv3⟩ : resultC x1 x2 x3 x4 x5 = true ∧ vul ≤ 3 := by
          refine ⟨?_, by omega⟩
          cases hq : resultC x1 x2 x3 x4 x5 with
          | false => exact absurd (Or.inl hq) hbad
          | true => rfl
        have HX := Lib.hid (HSO.out W3 ⟨hv.1, hv3⟩ hr HL3.out)
        have Hn := Lib.hid (HN.out (by rw [HOut.out]; exact hr))
        have hsc := scoreI_small x1 x2 x3 x4 x5 vul hr ⟨h1.1, h3.1⟩
        generalize scoreI x1 x2 x3 x4 x5 vul = y at HX Hs hsc
        clear hbad hr HSB HSO HB HN HOut
        go_wp2_with fail
        refine HX.out.mono ?_
        rintro ee w4 ⟨rfl, hb4⟩
        have n4 := blk_below n3 hb4 gG
        have q5 := blk_cell n4 5
        have b4 := below_via b3 hb4
        have o4 := own_below o3 hb4 (Nat.le_refl _)
        have s4 := b4.size
        clear q0 q1 q2 q3 q4 n3 n4 hb4 b3 b3' o3
        go_wp2_with (at_builtin; refine wpList_append_own _ rfl _ _ 74 rfl w.heap.size 114 i0 (.agg #[.int .i64 0, .int .i64 0]) 2 16 Tryz.underlying74 hi hz0 hz1 hz2 rfl (by decide) _ _ _ rfl (o4.alloc _) _ 1 1 [.int .i64 y, .int .i64 x6] rfl rfl ?c1 ?c2 ?c3 ?c4 ?c5 ?_)
        case c1 => exact cells_new_at _ #[.int .i64 y, .int .i64 x6] _ _ (by simp)
        case c2 => simp [Value.oneCell']
        case c3 => unfold maxLen; omega
        case c4 => omega
        case c5 => simp; omega
        intro v' w5 hown1 hgrow _
        go_wp2
        go_roundw
        case rel =>
          refine ⟨k + 1, _, by omega, by go_num, ?_, hown1, Hn.out, (b4.alloc s4 _).grown hgrow (by simp; omega) (fun g hg => (o4.lt g hg).1)⟩
          show _ = pC (wPts (L.take (k + 1)) vul); rw [Hs.out, hxs.out]
        case measure => simp [intOf]; omega
    · obtain rfl : k = L.length := by omega
      rw [List.take_length] at hxs
      obtain ⟨A', c', rfl⟩ := own_form hown
      have t0 : decide ((L.length : Int) < (L.length : Int)) = false := decide_eq_false (by omega)
      have hlen := wPts_len L vul
      have HR : Hid (Calls Tryz.prog 67 #[.slice A' L.length c'] wr fun e w' => e = .returned (.bool (rightM (wPts L vul))) ∧ Below wr.heap.size wr w') := Lib.hid (by
        have hrd : Rd wr wr.heap.size 2 A' (wPts L vul).length (pC (wPts L vul)) := by rw [hlen, ← show _ = _ from hxs.out]; exact Rd.of_own hown
        have := rightM_any (wPts L vul) A' c' wr hrd (by omega)
        rw [hlen] at this
        exact this)
      have HW := Lib.hid (show wOk L vul = (decide (vul ≤ 3) && rightM (wPts L vul)) by
        unfold wOk
        have : L.all outB = true := List.all_eq_true.2 (fun x hx => by
          obtain ⟨i, hi, rfl⟩ := List.getElem_of_mem hx
          exact hout.out i hi hi)
        rw [this, decide_eq_true hn4]; simp)
      generalize rightM (wPts L vul) = R at HR HW
      by_cases h3 : 3 < vul
      · have t1 : decide (vul > 3) = true := decide_eq_true h3
        have hf : Hid (wOk L vul = false) := Lib.hid (by rw [HW.out, decide_eq_false (by omega)]; rfl)
        go_wp2
        go_ret2
        exact Or.inl ⟨hf.out, rfl, hbel⟩
      · have t1 : decide (vul > 3) = false := decide_eq_false h3
        have t2 : vul ≤ 3 := by omega
        have HW2 : Hid (wOk L vul = R) := Lib.hid (by rw [HW.out, decide_eq_true t2, Bool.true_and])
        go_wp2_with fail
        refine HR.out.mono ?_
        rintro ee w4 ⟨rfl, hb4⟩
        have b4 := below_via hbel hb4
        have o4 := own_below hown hb4 (Nat.le_refl _)
        cases R
        · go_wp2
          go_ret2
          exact Or.inl ⟨HW2.out, rfl, b4⟩
        · go_wp2
          go_ret2
          exact Or.inr ⟨HW2.out, _, rfl, by rw [← show _ = _ from hxs.out]; exact o4, b4⟩

end Go.Proofs.YtchklobblkddhaaGreatDoor
