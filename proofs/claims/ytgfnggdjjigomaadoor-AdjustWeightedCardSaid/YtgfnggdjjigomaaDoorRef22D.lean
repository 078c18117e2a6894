/- The reference finesseref22: Weighted. -/
import Derived.Test.YtgfnggdjjigomaaDoorRef17S
import Derived.Test.YtgfnggdjjigomaaDoorMatRefW
import Derived.Test.YtgfnggdjjigomaaDoorAdjSideW
namespace Go.Proofs.YtgfnggdjjigomaaDoor
open Go.RowKit

theorem info_partR : (Tryd.prog.info? 81).map (fun i => (i.zero, i.size, i.bytes)) = some (some (.agg #[.int .i64 0, .int .i64 0]), 2, 16) := by kernel_rfl
/-- What the reference's Weighted returns. -/
def WResR (L : List Oc) (vul : Int) (w : World) (e : Ending) (w' : World) : Prop :=
  (wOk L vul = false ∧ e = .returned (.tuple #[.slice none 0 0, .int .i64 2]) ∧ Below w.heap.size w w') ∨
  (wOk L vul = true ∧ ∃ v, e = .returned (.tuple #[v, .int .i64 0]) ∧ w'.ownsRow w.heap.size 81 2 v L.length (pC (wPts L vul)) ∧ Below w.heap.size w w')

set_option maxRecDepth 100000 in
set_option maxHeartbeats 4000000 in
theorem r22weighted (L : List Oc) (vul : Int) (A : Option Addr) (c : Nat) (w : World) (hn : L.length ≤ 100) (hv : 0 ≤ vul ∧ vul ≤ 255) (ho : ∀ x ∈ L, OcOk x) (hA : Rd w w.heap.size 6 A L.length (ocC L)) :
    Calls Tryd.prog 21 #[.slice A L.length c, .int .u8 vul] w fun e w' => WResR L vul w e w' := by
  obtain ⟨i0, hi, hz0, hz1, hz2⟩ := info_parts info_partR
  have HA := Lib.hid hA
  have HO := Lib.hid ho
  clear hA ho
  go_enter Tryd.func21, Tryd.ntmps21
  go_wp2
  go_loopw [6, 7] (fun v i wr => ∃ (k : Nat) (xs : List Value), k ≤ L.length ∧ i = .int .i64 (k : Int) ∧ Hid (xs = pC (wPts (L.take k) vul)) ∧ wr.ownsRow w.heap.size 81 2 v k xs ∧ Hid (∀ i (hi : i < L.length), i < k → outB L[i] = true) ∧ Below w.heap.size w wr) (fun _ i _ => L.length - (intOf i).toNat)
  case atStart => exact ⟨0, [], by omega, rfl, rfl, own_nil, (fun i hi h => absurd h (Nat.not_lt_zero i) : ∀ i (hi : i < L.length), i < 0 → outB L[i] = true), Below.refl _ _⟩
  case round =>
    obtain ⟨k, xs, hk, rfl, hxs, hown, hout, hbel⟩ := hrel
    have hsr := hbel.size
    by_cases hlt : k < L.length
    · obtain ⟨b, off, rfl, hbw, d0, d1, d2, d3, d4, d5⟩ := rd_o HA.out k hlt
      have e0 := (bcell hbel b (off + k * 6) hbw).trans d0
      have e1 := (bcell hbel b (off + k * 6 + 1) hbw).trans d1
      have e2 := (bcell hbel b (off + k * 6 + 2) hbw).trans d2
      have e3 := (bcell hbel b (off + k * 6 + 3) hbw).trans d3
      have e4 := (bcell hbel b (off + k * 6 + 4) hbw).trans d4
      have e5 := (bcell hbel b (off + k * 6 + 5) hbw).trans d5
      have hokx := HO.out _ (List.getElem_mem hlt)
      obtain ⟨h1, h2, h3, h5, h6, h7⟩ := hokx
      have Hs := Lib.hid (show pC (wPts (L.take (k + 1)) vul) = pC (wPts (L.take k) vul) ++ [.int .i64 (scoreI L[k].l L[k].d L[k].r L[k].s L[k].t vul), .int .i64 L[k].w] by rw [wPts_snoc L vul k hlt, pC_snoc]; rfl)
      have HB := Lib.hid (show scB L[k].l L[k].d L[k].r L[k].s L[k].t vul = false → wOk L vul = false from fun h => by
        cases hq : wOk L vul with
        | false => rfl
        | true =>
          have hw := (wOk_iff L vul).1 hq
          unfold scB at h
          rw [decide_eq_true hw.2.1, Bool.and_true, show resultC L[k].l L[k].d L[k].r L[k].s L[k].t = outB L[k] from rfl, hw.2.2.1 _ (List.getElem_mem hlt)] at h
          cases h)
      have HN := Lib.hid (show scB L[k].l L[k].d L[k].r L[k].s L[k].t vul = true → _ from fun h => allOut_take L k hlt hout.out (Bool.and_eq_true_iff.1 h).1)
      have HS := Lib.hid (fun W => r17score_any L[k].l L[k].d L[k].r L[k].s L[k].t vul h1 h2 h3 h5 hv W)
      have HBd := Lib.hid (show scB L[k].l L[k].d L[k].r L[k].s L[k].t vul = true → -7800 ≤ scoreI L[k].l L[k].d L[k].r L[k].s L[k].t vul ∧ scoreI L[k].l L[k].d L[k].r L[k].s L[k].t vul ≤ 7800 from fun h => scoreI_small _ _ _ _ _ vul (Bool.and_eq_true_iff.1 h).1 ⟨h1.1, h3.1⟩)
      generalize L[k] = x at e0 e1 e2 e3 e4 e5 h1 h2 h3 h5 h6 h7 Hs HB HN HS HBd
      obtain ⟨x1, x2, x3, x4, x5, x6⟩ := x
      dsimp only at e0 e1 e2 e3 e4 e5 h1 h2 h3 h5 h6 h7 Hs HS HB HN HBd
      generalize scB x1 x2 x3 x4 x5 vul = sb at HS HB HN HBd
      generalize scoreI x1 x2 x3 x4 x5 vul = y at HS Hs HBd
      obtain ⟨pv, hpv⟩ : ∃ z, (if sb = true then y else 0) = z := ⟨_, rfl⟩
      obtain ⟨ev, hev⟩ : ∃ z : Int, (if sb = true then 0 else 2) = z := ⟨_, rfl⟩
      rw [hpv, hev] at HS
      have HP := Lib.hid hpv
      have HE := Lib.hid hev
      clear hpv hev
      have c1 : (0 : Int) ≤ (k : Int) := by omega
      have c2 : (k : Int) < (L.length : Int) := by omega
      have hbr : b < wr.heap.size := by omega
      have hd : Below wr.heap.size wr wr.drew := (Below.refl _ _).drew
      clear d0 d1 d2 d3 d4 d5
      go_upto_region 5 with fail
      go_region_held3 (fun w' => w'.cell? ⟨b, off + k * 6, none⟩ = some (.int .u8 x1) ∧ w'.cell? ⟨b, off + k * 6 + 1, none⟩ = some (.int .u8 x2) ∧ w'.cell? ⟨b, off + k * 6 + 2, none⟩ = some (.int .u8 x3) ∧ w'.cell? ⟨b, off + k * 6 + 3, none⟩ = some (.int .u8 x4) ∧ w'.cell? ⟨b, off + k * 6 + 4, none⟩ = some (.int .i64 x5)) (first | exact ⟨e0, e1, e2, e3, e4⟩ | exact ⟨keepB0 hbm hbr e0, keepB0 hbm hbr e1, keepB0 hbm hbr e2, keepB0 hbm hbr e3, keepB0 hbm hbr e4⟩)
        ((go_at_call 34; (with_reducible refine (HS.out _).mono ?_); rintro ee wm ⟨rfl, hbm0⟩; have hbm := hd.trans (hbm0.mono hd.size)))
      have b4 := hbel.trans (hbm.mono hsr)
      have o4 := own_below hown hbm (Nat.le_refl _)
      have q5 := keepB0 hbm hbr e5
      have s4 := b4.size
      clear e0 e1 e2 e3 e4 e5 hbm hbm0 hd hown HS
      cases sb
      · have hf := Lib.hid (HB.out rfl)
        obtain rfl : 0 = pv := HP.out
        obtain rfl : 2 = ev := HE.out
        go_wp2
        go_ret2
        exact Or.inl ⟨hf.out, rfl, b4⟩
      · have Hn := Lib.hid (HN.out rfl)
        have hbd := HBd.out rfl
        obtain rfl : y = pv := HP.out
        obtain rfl : 0 = ev := HE.out
        clear HB HN HBd
        go_wp2_with (at_builtin; refine wpList_append_own _ rfl _ _ 36 rfl w.heap.size 81 i0 (.agg #[.int .i64 0, .int .i64 0]) 2 16 Tryd.underlying36 hi hz0 hz1 hz2 rfl (by decide) _ _ _ rfl (o4.alloc _) _ 1 1 [.int .i64 y, .int .i64 x6] rfl rfl ?k1 ?k2 ?k3 ?k4 ?k5 ?_)
        case k2 => simp [Value.oneCell']
        case k3 => unfold maxLen; omega
        case k4 => omega
        case k5 => first | omega | (simp; omega)
        intro v' w5 hown1 hgrow _
        go_wp2
        go_roundw
        case rel =>
          refine ⟨k + 1, _, by omega, by go_num, ?_, hown1, Hn.out, (b4.alloc s4 _).grown hgrow (by simp; omega) (fun g hg => (o4.lt g hg).1)⟩
          show _ = pC (wPts (L.take (k + 1)) vul); rw [Hs.out, hxs.out]
        case measure => simp [intOf]; omega
    · obtain rfl : k = L.length := by omega
      rw [List.take_length] at hxs
      obtain ⟨A', c', rfl⟩ := own_form hown
      have hlen := wPts_len L vul
      have HR : Hid (Calls Tryd.prog 48 #[.slice A' L.length c'] wr fun e w' => e = .returned (.bool (rightM (wPts L vul))) ∧ w' = wr) := Lib.hid (by
        have hrd : Rd wr wr.heap.size 2 A' (wPts L vul).length (pC (wPts L vul)) := by rw [hlen, ← show _ = _ from hxs.out]; exact Rd.of_own hown
        have := rightR_any (wPts L vul) A' c' wr hrd (by omega)
        rw [hlen] at this
        exact this)
      have HW := Lib.hid (show wOk L vul = (decide (vul ≤ 3) && rightM (wPts L vul)) by
        unfold wOk
        have : L.all outB = true := List.all_eq_true.2 (fun x hx => by
          obtain ⟨i, hi, rfl⟩ := List.getElem_of_mem hx
          exact hout.out i hi hi)
        rw [this, Bool.and_true]
        cases hr : rightM (wPts L vul) with
        | false => simp
        | true => rw [decide_eq_true (show L.length ≤ 4 by have := ((rightM_iff _).1 hr).2.1; omega), Bool.true_and])
      have Hown := Lib.hid hown
      generalize rightM (wPts L vul) = R at HR HW
      clear hown hlen
      by_cases h3 : 3 < vul
      · have hf : Hid (wOk L vul = false) := Lib.hid (by rw [HW.out, decide_eq_false (by omega)]; rfl)
        go_wp2
        go_ret2
        exact Or.inl ⟨hf.out, rfl, hbel⟩
      · have t2 : vul ≤ 3 := by omega
        have HW2 : Hid (wOk L vul = R) := Lib.hid (by rw [HW.out, decide_eq_true t2, Bool.true_and])
        go_wp2_with fail
        refine HR.out.mono ?_
        rintro ee w4 ⟨rfl, rfl⟩
        cases R
        · go_wp2
          go_ret2
          exact Or.inl ⟨HW2.out, rfl, hbel⟩
        · go_wp2
          go_ret2
          exact Or.inr ⟨HW2.out, _, rfl, by rw [← show _ = _ from hxs.out]; exact Hown.out, hbel⟩

end Go.Proofs.YtgfnggdjjigomaaDoor
