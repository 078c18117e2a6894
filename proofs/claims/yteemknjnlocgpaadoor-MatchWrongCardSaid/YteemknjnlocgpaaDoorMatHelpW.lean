/- The walks of the statements' helpers on matchpoints: theirs, copied, kept, SameFracs, ones, is. -/
import Derived.Test.YteemknjnlocgpaaDoorMatRefW2
namespace Go.Proofs.YteemknjnlocgpaaDoor
open Go.RowKit

theorem info_res : (Tryd.prog.info? 24).map (fun i => (i.zero, i.size, i.bytes)) = some (some (.slice none 0 0), 1, 24) := by kernel_rfl
theorem info_rres : (Tryd.prog.info? 35).map (fun i => (i.zero, i.size, i.bytes)) = some (some (.slice none 0 0), 1, 24) := by kernel_rfl

/-! ### Copies -/
set_option maxHeartbeats 1000000 in
theorem theirs_any (l : List Pt) (A : Option Addr) (c : Nat) (w : World) (hl : Rd w w.heap.size 2 A l.length (pC l)) (hn : l.length ≤ 1000) :
    Calls Tryd.prog 18 #[.slice A l.length c] w fun e w' => ∃ v, e = .returned v ∧ w'.ownsRow w.heap.size 79 2 v l.length (pC l) ∧ Below w.heap.size w w' := by
  obtain ⟨i0, hi, hz0, hz1, hz2⟩ := info_parts info_rpart
  have Hl := Lib.hid hl
  clear hl
  go_enter Tryd.func18, Tryd.ntmps18
  go_wp2
  go_loopw [3, 8] (fun v i wr => ∃ (k : Nat) (xs : List Value), k ≤ l.length ∧ i = .int .i64 (k : Int) ∧ Hid (xs = pC (l.take k)) ∧ wr.ownsRow w.heap.size 79 2 v k xs ∧ Below w.heap.size w wr) (fun _ i _ => l.length - (intOf i).toNat)
  case atStart => exact ⟨0, [], by omega, rfl, rfl, own_nil, Below.refl _ _⟩
  case round =>
    obtain ⟨k, xs, hk, rfl, hxs, hown, hbel⟩ := hrel
    have hsr := hbel.size
    by_cases hlt : k < l.length
    · obtain ⟨b, off, rfl, hbw, hc1, hc2⟩ := rd_p Hl.out k hlt
      have hd1 := (bcell hbel b (off + k * 2) hbw).trans hc1
      have hd2 := (bcell hbel b (off + k * 2 + 1) hbw).trans hc2
      have Hs := Lib.hid (show pC (l.take (k + 1)) = pC (l.take k) ++ [.int .i64 l[k].1, .int .i64 l[k].2] by rw [List.take_succ_eq_append_getElem hlt, pC_snoc])
      clear hc1 hc2
      generalize l[k].1 = x at hd1 Hs
      generalize l[k].2 = y at hd2 Hs
      go_wp2_with (at_builtin; refine wpList_append_own _ rfl _ _ 35 rfl w.heap.size 79 i0 (.agg #[.int .i64 0, .int .i64 0]) 2 16 Tryd.underlying35 hi hz0 hz1 hz2 rfl (by decide) _ _ _ rfl ((hown.alloc _).alloc _) _ 1 1 [.int .i64 x, .int .i64 y] rfl rfl ?c1 ?c2 ?c3 ?c4 ?c5 ?_)
      case c1 => exact cells_new_at _ #[.int .i64 x, .int .i64 y] _ _ (by simp)
      case c2 => simp [Value.oneCell']
      case c3 => unfold maxLen; omega
      case c4 => omega
      case c5 => simp; omega
      intro v' w3 hown1 hgrow _
      go_wp2
      go_roundw
      case rel =>
        refine ⟨k + 1, _, by omega, by go_num, ?_, hown1, ((hbel.alloc hsr _).alloc (by simp; omega) _).grown hgrow (by simp; omega) (fun g hg => (hown.lt g hg).1)⟩
        show _ = pC (l.take (k + 1)); rw [Hs.out, hxs.out]
      case measure => simp [intOf]; omega
    · obtain rfl : k = l.length := by omega
      rw [List.take_length] at hxs
      go_wp2
      go_ret
      exact ⟨_, rfl, by rw [← show _ = _ from hxs.out]; exact hown, hbel⟩

set_option maxHeartbeats 2000000 in
theorem copied_any (L : List (List Pt)) (A : Option Addr) (c : Nat) (w : World) (hA : RdL w w.heap.size A L) (hn : L.length ≤ 1000) (hlen : ∀ o ∈ L, o.length ≤ 1000) :
    Calls Tryd.prog 11 #[.slice A L.length c] w fun e w' => ∃ v xs, e = .returned v ∧ w'.ownsRow w.heap.size 35 1 v L.length xs ∧ OwnL w' w.heap.size 79 v xs L ∧ Below w.heap.size w w' := by
  obtain ⟨i0, hi, hz0, hz1, hz2⟩ := info_parts info_rres
  have HA := Lib.hid hA
  have Hlen := Lib.hid hlen
  clear hA hlen
  go_enter Tryd.func11, Tryd.ntmps11
  go_wp2
  go_loopw [3, 8] (fun v i wr => ∃ (k : Nat) (xs : List Value), k ≤ L.length ∧ i = .int .i64 (k : Int) ∧ wr.ownsRow w.heap.size 35 1 v k xs ∧ Hid (OwnL wr w.heap.size 79 v xs (L.take k)) ∧ Below w.heap.size w wr) (fun _ i _ => L.length - (intOf i).toNat)
  case atStart => exact ⟨0, [], by omega, rfl, own_nil, OwnL.nil_, Below.refl _ _⟩
  case round =>
    obtain ⟨k, xs, hk, rfl, hown, hol, hbel⟩ := hrel
    have hsr := hbel.size
    by_cases hlt : k < L.length
    · obtain ⟨b, off, Ak, ck, rfl, hbw, hc1, hc2, hc3⟩ := HA.out k hlt
      have hd1 := (bcell hbel b (off + k) hbw).trans hc1
      have HQ := Lib.hid (theirs_any L[k] Ak ck wr ((hc3.below hbel).more hsr) (Hlen.out _ (List.getElem_mem hlt)))
      have Hs := Lib.hid (show L.take (k + 1) = L.take k ++ [L[k]] from List.take_succ_eq_append_getElem hlt)
      obtain ⟨r, hr⟩ : ∃ r, L[k] = r := ⟨_, rfl⟩
      rw [hr] at hd1 HQ Hs
      clear hc1 hc2 hc3 hr
      go_wp2_with fail
      refine HQ.out.mono ?_
      rintro e w1 ⟨v1, rfl, ho1, hb1⟩
      have s1 := hb1.size
      have hown1 := own_below hown hb1 (Nat.le_refl _)
      have hol1 := Lib.hid (hol.out.below hb1)
      have hbel1 := hbel.trans (hb1.mono hsr)
      have sw1 := hbel1.size
      have hap := Lib.hid (apart_new hown ho1 (Nat.le_refl _))
      obtain ⟨A1, c1, rfl⟩ := own_form ho1
      have ho1' := own_mono ho1 hsr
      have hsrc := Lib.hid (own_src ho1)
      clear hown hol hbel ho1 hb1
      go_wp2_with (at_builtin; refine wpList_append_own_at _ rfl _ _ 26 rfl w.heap.size 35 i0 (.slice none 0 0) 1 24 Tryd.underlying26 hi hz0 hz1 hz2 rfl (by decide) _ _ _ rfl (hown1.alloc _) _ 1 1 [.slice A1 r.length c1] rfl rfl ?c1 ?c2 ?c3 ?c4 ?c5 ?_)
      case c1 => exact cell_one_at _ _ _ _ (by simp)
      case c2 => simp [Value.oneCell']
      case c3 => unfold maxLen; omega
      case c4 => omega
      case c5 => simp; omega
      intro v2 w2 hown2 hgrow _ hat
      have hol2 := ((hol1.out.below ((Below.refl _ _).alloc (Nat.le_refl _) _)).snoc hsrc.out (ho1'.alloc _) hap.out).kept hgrow hat (by simp)
      have Hol2 := Lib.hid hol2
      have hb2 := (hbel1.alloc sw1 _).grown hgrow (by simp; omega) (fun g hg => (hown1.lt g hg).1)
      clear hol2
      go_wp2
      go_roundw
      case rel => exact ⟨k + 1, _, by omega, by go_num, hown2, by show OwnL _ _ _ _ _ (L.take (k + 1)); rw [Hs.out]; exact Hol2.out, hb2⟩
      case measure => simp [intOf]; omega
    · obtain rfl : k = L.length := by omega
      rw [List.take_length] at hol
      go_wp2
      go_ret
      exact ⟨_, xs, rfl, hown, hol.out, hbel⟩

/-! ### Equal on equal lists -/
set_option maxHeartbeats 1000000 in
theorem kept_eq (l : List Pt) (n1 n2 : Nat) (h1 : n1 = l.length) (h2 : n2 = l.length) (A A' : Option Addr) (c c' : Nat) (w : World) (hl : Rd w w.heap.size 2 A l.length (pC l)) (hl' : Rd w w.heap.size 2 A' l.length (pC l)) (hn : l.length ≤ 1000) :
    Calls Tryd.prog 14 #[.slice A n1 c, .slice A' n2 c'] w fun e w' => e = .returned (.bool true) ∧ ∃ n, w' = w.drewN n := by
  subst h1; subst h2
  have Hl := Lib.hid hl
  have Hl' := Lib.hid hl'
  clear hl hl'
  go_enter Tryd.func14, Tryd.ntmps14
  go_wp2
  go_loopw [13] (fun i wr => ∃ k nq : Nat, k ≤ l.length ∧ i = .int .i64 (k : Int) ∧ wr = w.drewN nq) (fun i _ => l.length - (intOf i).toNat)
  case atStart => exact ⟨0, 0, by omega, rfl, rfl⟩
  case round =>
    obtain ⟨k, nq, hk, rfl, rfl⟩ := hrel
    by_cases hlt : k < l.length
    · obtain ⟨b, off, rfl, hbw, hc1, hc2⟩ := rd_p Hl.out k hlt
      obtain ⟨b', off', rfl, hbw', hd1, hd2⟩ := rd_p Hl'.out k hlt
      have j1 : (k : Int) < (l.length : Int) := by omega
      have j2 : (0 : Int) ≤ (k : Int) := by omega
      generalize l[k].1 = x at hc1 hd1
      generalize l[k].2 = y at hc2 hd2
      go_wp2
      go_quiet (fail)
      go_wp2
      go_roundw
      case rel => exact ⟨k + 1, _, by omega, by go_num, rfl⟩
      case measure => simp [intOf]; omega
    · obtain rfl : k = l.length := by omega
      go_wp2
      go_ret
      exact ⟨rfl, nq, rfl⟩

set_option maxHeartbeats 1000000 in
theorem fracs_eq (l : List Pt) (n1 n2 : Nat) (h1 : n1 = l.length) (h2 : n2 = l.length) (A A' : Option Addr) (c c' : Nat) (w : World) (hl : Rd w w.heap.size 2 A l.length (pC l)) (hl' : Rd w w.heap.size 2 A' l.length (pC l)) (hn : l.length ≤ 1000) :
    Calls Tryd.prog 15 #[.slice A n1 c, .slice A' n2 c'] w fun e w' => e = .returned (.bool true) ∧ ∃ n, w' = w.drewN n := by
  subst h1; subst h2
  have Hl := Lib.hid hl
  have Hl' := Lib.hid hl'
  clear hl hl'
  go_enter Tryd.func15, Tryd.ntmps15
  go_wp2
  go_loopw [5] (fun i wr => ∃ k nq : Nat, k ≤ l.length ∧ i = .int .i64 (k : Int) ∧ wr = w.drewN nq) (fun i _ => l.length - (intOf i).toNat)
  case atStart => exact ⟨0, 0, by omega, rfl, rfl⟩
  case round =>
    obtain ⟨k, nq, hk, rfl, rfl⟩ := hrel
    by_cases hlt : k < l.length
    · obtain ⟨b, off, rfl, hbw, hc1, hc2⟩ := rd_p Hl.out k hlt
      obtain ⟨b', off', rfl, hbw', hd1, hd2⟩ := rd_p Hl'.out k hlt
      have j1 : (k : Int) < (l.length : Int) := by omega
      have j2 : (0 : Int) ≤ (k : Int) := by omega
      generalize l[k].1 = x at hc1 hd1
      generalize l[k].2 = y at hc2 hd2
      go_wp2
      go_quiet (fail)
      go_wp2
      go_roundw
      case rel => exact ⟨k + 1, _, by omega, by go_num, rfl⟩
      case measure => simp [intOf]; omega
    · obtain rfl : k = l.length := by omega
      go_wp2
      go_ret
      exact ⟨rfl, nq, rfl⟩

/-! ### is, whole, ones -/
set_option maxHeartbeats 400000 in
theorem is_eq (x y : Int) (w : World) : Calls Tryd.prog 35 #[.agg #[.int .i64 x, .int .i64 y], .int .i64 x, .int .i64 y] w fun e w' => e = .returned (.bool true) ∧ Below w.heap.size w w' := by
  go_enter Tryd.func35, Tryd.ntmps35
  go_wp2
  go_ret
  exact ⟨rfl, (by repeat (first | exact Below.refl _ _ | assumption | refine Below.drew ?_ | refine below_drewN ?_ _ | refine Below.alloc ?_ (by first | omega | (simp; done) | (simp; omega)) _ | refine Below.setCell ?_ (by first | omega | (simp; done) | (simp; omega)) _))⟩
set_option maxHeartbeats 400000 in
theorem whole_any (n : Int) (w : World) : Calls Tryd.prog 29 #[.int .i64 n] w fun e w' => e = .returned (fV (n, 1)) ∧ Below w.heap.size w w' := by
  go_enter Tryd.func29, Tryd.ntmps29
  go_wp2
  exact bodyPost_ret (v := .agg #[.int .i64 n, .int .i64 1]) (by simp [results, Tryd.results29, go_sem]) rfl ⟨rfl, (by repeat (first | exact Below.refl _ _ | assumption | refine Below.drew ?_ | refine below_drewN ?_ _ | refine Below.alloc ?_ (by first | omega | (simp; done) | (simp; omega)) _ | refine Below.setCell ?_ (by first | omega | (simp; done) | (simp; omega)) _))⟩

def iC (l : List Int) : List Value := l.map (Value.int .i64)
theorem rd_i {w : World} {B : Nat} {A : Option Addr} {l : List Int} (h : Rd w B 1 A l.length (iC l)) (k : Nat) (hk : k < l.length) :
    ∃ b off, A = some ⟨b, off, none⟩ ∧ b < B ∧ w.cell? ⟨b, off + k, none⟩ = some (.int .i64 l[k]) := by
  obtain ⟨b, off, e, hb, hc⟩ := h.pos (by omega)
  exact ⟨b, off, e, hb, by rw [hc k (by simpa [iC] using hk)]; simp [iC, List.getElem?_map, List.getElem?_eq_getElem hk]⟩
def onesL (l : List Int) : List (List Pt) := l.map fun p => [(p, 100)]

set_option maxHeartbeats 2000000 in
theorem ones_any (l : List Int) (A : Option Addr) (c : Nat) (w : World) (hl : Rd w w.heap.size 1 A l.length (iC l)) (hn : l.length ≤ 1000) :
    Calls Tryd.prog 34 #[.slice A l.length c] w fun e w' => ∃ v xs, e = .returned v ∧ w'.ownsRow w.heap.size 24 1 v l.length xs ∧ OwnL w' w.heap.size 44 v xs (onesL l) ∧ Below w.heap.size w w' := by
  obtain ⟨i0, hi, hz0, hz1, hz2⟩ := info_parts info_res
  have Hl := Lib.hid hl
  clear hl
  go_enter Tryd.func34, Tryd.ntmps34
  go_wp2
  go_loopw [3, 8] (fun v i wr => ∃ (k : Nat) (xs : List Value), k ≤ l.length ∧ i = .int .i64 (k : Int) ∧ wr.ownsRow w.heap.size 24 1 v k xs ∧ Hid (OwnL wr w.heap.size 44 v xs (onesL (l.take k))) ∧ Below w.heap.size w wr) (fun _ i _ => l.length - (intOf i).toNat)
  case atStart => exact ⟨0, [], by omega, rfl, own_nil, OwnL.nil_, Below.refl _ _⟩
  case round =>
    obtain ⟨k, xs, hk, rfl, hown, hol, hbel⟩ := hrel
    have hsr := hbel.size
    by_cases hlt : k < l.length
    · obtain ⟨b, off, rfl, hbw, hc1⟩ := rd_i Hl.out k hlt
      have hd1 := (bcell hbel b (off + k) hbw).trans hc1
      have Hs := Lib.hid (show onesL (l.take (k + 1)) = onesL (l.take k) ++ [[(l[k], 100)]] by unfold onesL; rw [List.take_succ_eq_append_getElem hlt, List.map_append]; rfl)
      clear hc1
      generalize l[k] = x at hd1 Hs
      have ho1 : (wr.alloc (.cells #[.int .i64 x, .int .i64 100] 44)).ownsRow wr.heap.size 44 2 (.slice (some ⟨wr.heap.size, 0, none⟩) 1 1) 1 (pC [(x, 100)]) :=
        ⟨by simp [pC], .inr ⟨wr.heap.size, 1, #[.int .i64 x, .int .i64 100], rfl, Nat.le_refl _, heap_alloc_new _ _, by omega, by unfold maxLen; omega, by simp, by simp [pC]⟩⟩
      have hap := Lib.hid (apart_new hown ho1 (Nat.le_refl _))
      have Ho1 := Lib.hid (own_mono ho1 hsr)
      clear ho1
      go_wp2_with (at_builtin; refine wpList_append_own_at _ rfl _ _ 22 rfl w.heap.size 24 i0 (.slice none 0 0) 1 24 Tryd.underlying22 hi hz0 hz1 hz2 rfl (by decide) _ _ _ rfl ((hown.alloc _).alloc _) _ 1 1 [.slice (some ⟨wr.heap.size, 0, none⟩) 1 1] rfl rfl ?c1 ?c2 ?c3 ?c4 ?c5 ?_)
      case c1 => exact cell_one_at _ _ _ _ (by simp)
      case c2 => simp [Value.oneCell']
      case c3 => unfold maxLen; omega
      case c4 => omega
      case c5 => simp; omega
      intro v2 w2 hown2 hgrow _ hat
      have hol2 := (((hol.out.below ((Below.refl _ _).alloc (Nat.le_refl _) (.cells #[.int .i64 x, .int .i64 100] 44))).snoc (r := [(x, 100)]) (c := 1) (by simp) Ho1.out hap.out).below ((Below.refl _ _).alloc (Nat.le_refl _) (.cells #[.slice (some ⟨wr.heap.size, 0, none⟩) 1 1] 24))).kept hgrow hat (by simp)
      have Hol2 := Lib.hid hol2
      have hb2 := ((hbel.alloc hsr _).alloc (by simp; omega) _).grown hgrow (by simp; omega) (fun g hg => (hown.lt g hg).1)
      clear hol2
      go_wp2
      go_roundw
      case rel => exact ⟨k + 1, _, by omega, by go_num, hown2, by show OwnL _ _ _ _ _ (onesL (l.take (k + 1))); rw [Hs.out]; exact Hol2.out, hb2⟩
      case measure => simp [intOf]; omega
    · obtain rfl : k = l.length := by omega
      rw [List.take_length] at hol
      go_wp2
      go_ret
      exact ⟨_, xs, rfl, hown, hol.out, hbel⟩

end Go.Proofs.YteemknjnlocgpaaDoor
