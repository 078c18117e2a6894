/- The walks of the results of small numbers: Made, All. -/
import Derived.Test.YtlobdeakgoicpaaDoorMatBits
namespace Go.Proofs.YtlobdeakgoicpaaDoor
open Go.RowKit

/-! ### Made -/
abbrev Sm := Int × Int × List Int
def md (p : Int) : Int := p.tmod 10001
theorem md_bd (p : Int) : -10000 ≤ md p ∧ md p ≤ 10000 := by
  unfold md
  have h1 := Int.tmod_lt_of_pos p (show (0 : Int) < 10001 by omega)
  have h2 := Int.tmod_lt_of_pos (-p) (show (0 : Int) < 10001 by omega)
  rw [Int.neg_tmod] at h2
  omega
/-- The parts of the others, up to the k-th of n: all but the last one have the weight 1. -/
def othTo (o : List Int) (w n : Nat) (k : Nat) : List Pt := (List.range k).map fun (i : Nat) => (md (o.getD i 0), if i + 1 = n then 100 - (w : Int) - ((n : Int) - 1) else 1)
theorem othTo_succ (o : List Int) (w n k : Nat) : othTo o w n (k + 1) = othTo o w n k ++ [(md (o.getD k 0), if k + 1 = n then 100 - (w : Int) - ((n : Int) - 1) else 1)] := by
  unfold othTo; rw [List.range_succ, List.map_append]; rfl
theorem othTo_len (o : List Int) (w n k : Nat) : (othTo o w n k).length = k := by simp [othTo]
/-- The weight of the first part, where there are n others. -/
def wgt (wt : Int) (n : Nat) : Nat := (1 + wt % (100 - (n : Int))).toNat
def madeL (s : Sm) : List Pt :=
  if s.2.2.length = 0 then [(md s.1, 100)] else (md s.1, (wgt s.2.1 (min s.2.2.length 3) : Int)) :: othTo s.2.2 (wgt s.2.1 (min s.2.2.length 3)) (min s.2.2.length 3) (min s.2.2.length 3)
theorem wgt_bd (wt : Int) (n : Nat) (hn : 1 ≤ n ∧ n ≤ 3) : 1 ≤ wgt wt n ∧ wgt wt n ≤ 100 - n ∧ (wgt wt n : Int) = 1 + wt % (100 - (n : Int)) := by
  unfold wgt
  have h1 := Int.emod_nonneg wt (show (100 - (n : Int)) ≠ 0 by omega)
  have h2 := Int.emod_lt_of_pos wt (show (0 : Int) < 100 - (n : Int) by omega)
  omega
theorem oth_sum (o : List Int) (w n k : Nat) (hk : k < n) : sumF (othTo o w n k) (fun p => p.2) = k := by
  induction k with
  | zero => rfl
  | succ k ih =>
    rw [othTo_succ, sumF_app, ih (by omega), if_neg (by omega)]; simp [sumF]
theorem oth_sum_all (o : List Int) (w n : Nat) (hn : 1 ≤ n) : sumF (othTo o w n n) (fun p => p.2) = 100 - w := by
  obtain ⟨m, rfl⟩ : ∃ m, n = m + 1 := ⟨n - 1, by omega⟩
  rw [othTo_succ, sumF_app, oth_sum o w (m + 1) m (by omega), if_pos rfl]
  simp [sumF]; omega
theorem made_right (s : Sm) : rightM (madeL s) = true := by
  rw [rightM_iff]
  unfold madeL
  by_cases h : s.2.2.length = 0
  · rw [if_pos h]
    refine ⟨by simp, by simp, fun p hp => ?_, by simp [sumW, sumF]⟩
    obtain rfl : p = (md s.1, 100) := by simpa using hp
    have := md_bd s.1
    rw [okPt_iff]; exact ⟨⟨by show (1 : Int) ≤ 100; decide, by show (100 : Int) ≤ 100; decide⟩, this⟩
  · rw [if_neg h]
    obtain ⟨n, hn⟩ : ∃ n, min s.2.2.length 3 = n := ⟨_, rfl⟩
    rw [hn]
    have hn1 : 1 ≤ n ∧ n ≤ 3 := by omega
    have hw := wgt_bd s.2.1 n hn1
    generalize wgt s.2.1 n = w at hw
    refine ⟨by simp, by rw [List.length_cons, othTo_len]; omega, fun p hp => ?_, ?_⟩
    · rcases List.mem_cons.1 hp with rfl | hp
      · have := md_bd s.1
        rw [okPt_iff]; exact ⟨by show 1 ≤ (w : Int) ∧ (w : Int) ≤ 100; omega, this⟩
      · unfold othTo at hp
        obtain ⟨i, hi, rfl⟩ := List.mem_map.1 hp
        have := md_bd (s.2.2.getD i 0)
        rw [okPt_iff]
        refine ⟨?_, this⟩
        show 1 ≤ (if i + 1 = n then 100 - (w : Int) - ((n : Int) - 1) else 1) ∧ (if i + 1 = n then 100 - (w : Int) - ((n : Int) - 1) else 1) ≤ 100
        split <;> omega
    · have := oth_sum_all s.2.2 w n hn1.1
      show sumF (_ :: _) _ = 100
      rw [sumF_cons, this]; show (w : Int) + (100 - w) = 100; omega
theorem made_len (s : Sm) : 1 ≤ (madeL s).length ∧ (madeL s).length ≤ 4 := by
  have := (rightM_iff _).1 (made_right s); exact ⟨this.1, this.2.1⟩

theorem own_parts {w : World} {g t n base : Nat} {cs : Array Value} {l : List Pt} (h : w.heap[g]? = some (.cells cs t (0, 0))) (hc : cs.toList = pC l) (hn : n = l.length) (hb : base ≤ g) (hm : n ≤ maxLen) : w.ownsRow base t 2 (.slice (some ⟨g, 0, none⟩) n n) n (pC l) := by
  subst hn
  have hl := pC_len l
  exact ⟨by omega, .inr ⟨g, l.length, cs, rfl, hb, h, Nat.le_refl _, hm, by rw [← Array.length_toList, hc]; omega, by rw [hc, List.take_of_length_le (by omega)]⟩⟩

theorem blk_alloc_last (w : World) (o : Obj) {g : Nat} (h : g = w.heap.size) : (w.alloc o).heap[g]? = some o := blk_new o h
def i16C (l : List Int) : List Value := l.map (Value.int .i16)
theorem rd_i16 {w : World} {B : Nat} {A : Option Addr} {l : List Int} (h : Rd w B 1 A l.length (i16C l)) (k : Nat) (hk : k < l.length) :
    ∃ b off, A = some ⟨b, off, none⟩ ∧ b < B ∧ w.cell? ⟨b, off + k, none⟩ = some (.int .i16 l[k]) := by
  obtain ⟨b, off, e, hb, hc⟩ := h.pos (by omega)
  exact ⟨b, off, e, hb, by rw [hc k (by simpa [i16C] using hk)]; simp [i16C, List.getElem?_map, List.getElem?_eq_getElem hk]⟩
/-- What small numbers can be. -/
def SmOk (s : Sm) : Prop := (-32768 ≤ s.1 ∧ s.1 ≤ 32767) ∧ (0 ≤ s.2.1 ∧ s.2.1 ≤ 255) ∧ (∀ x ∈ s.2.2, -32768 ≤ x ∧ x ≤ 32767) ∧ s.2.2.length ≤ 9223372036854775807
def smV (s : Sm) (A : Option Addr) (c : Nat) : Value := .agg #[.int .i16 s.1, .int .u8 s.2.1, .slice A s.2.2.length c]

set_option maxHeartbeats 4000000 in
set_option maxRecDepth 100000 in
theorem made_any (p wt : Int) (o : List Int) (A : Option Addr) (c : Nat) (w : World) (hs : SmOk (p, wt, o)) (hl : Rd w w.heap.size 1 A o.length (i16C o)) (hc : o.length ≤ c) :
    Calls Tryd.prog 51 #[.agg #[.int .i16 p, .int .u8 wt, .slice A o.length c]] w fun e w' => ∃ v, e = .returned v ∧ w'.ownsRow w.heap.size 80 2 v (madeL (p, wt, o)).length (pC (madeL (p, wt, o))) ∧ Below w.heap.size w w' := by
  obtain ⟨i0, hi, hz0, hz1, hz2⟩ := info_parts info_part
  obtain ⟨h1, h2, h3, h4⟩ := hs
  have h1' : -32768 ≤ p ∧ p ≤ 32767 := h1
  have h2' : 0 ≤ wt ∧ wt ≤ 255 := h2
  have h4' : o.length ≤ 9223372036854775807 := h4
  have hmd := md_bd p
  have hmt : p.tmod 10001 = md p := rfl
  by_cases h0 : o.length = 0
  · have HM := Lib.hid (show madeL (p, wt, o) = [(md p, 100)] by unfold madeL; rw [if_pos h0])
    have hif : (if (3 : Int) < (o.length : Int) then 3 else (o.length : Int)) = 0 := by split <;> omega
    clear h1 h2 h3 h4
    go_enter Tryd.func51, Tryd.ntmps51
    go_wp2
    go_ret
    exact ⟨_, rfl, by rw [HM.out]; exact own_parts (blk_alloc_last _ _ (by simp)) (by simp [pC]) rfl (by simp) (by unfold maxLen; decide), (by repeat (first | exact Below.refl _ _ | assumption | refine Below.drew ?_ | refine below_drewN ?_ _ | refine Below.alloc ?_ (by first | omega | (simp; done) | (simp; omega)) _ | refine Below.setCell ?_ (by first | omega | (simp; done) | (simp; omega)) _))⟩
  · obtain ⟨N, hN⟩ : ∃ N, min o.length 3 = N := ⟨_, rfl⟩
    have hN1 : 1 ≤ N ∧ N ≤ 3 ∧ N ≤ o.length := by omega
    have hif : (if (3 : Int) < (o.length : Int) then 3 else (o.length : Int)) = (N : Int) := by split <;> omega
    obtain ⟨hw1, hw2, hw3⟩ := wgt_bd wt N ⟨hN1.1, hN1.2.1⟩
    obtain ⟨W, hW⟩ : ∃ W, wgt wt N = W := ⟨_, rfl⟩
    rw [hW] at hw1 hw2 hw3
    have HM := Lib.hid (show madeL (p, wt, o) = (md p, (W : Int)) :: othTo o W N N by unfold madeL; rw [if_neg h0]; show (md p, ((wgt wt (min o.length 3) : Nat) : Int)) :: othTo o (wgt wt (min o.length 3)) (min o.length 3) (min o.length 3) = _; rw [hN, hW])
    have hz : ((N : Int) == 0) = false := beq_eq_false_iff_ne.2 (by omega)
    have hq : (1 : Int) + wt % (100 - (N : Int)) = (W : Int) := hw3.symm
    have hcN : (N : Int) ≤ (c : Int) := by omega
    have hN0 : (0 : Int) ≤ (N : Int) := by omega
    have Ho := Lib.hid h3
    have Hl := Lib.hid hl
    have hm0 : 0 ≤ wt % (100 - (N : Int)) := Int.emod_nonneg wt (by omega)
    have hm1 : wt % (100 - (N : Int)) ≤ 100 := by have := Int.emod_lt_of_pos wt (show (0 : Int) < 100 - (N : Int) by omega); omega
    have hdiv : (1 : Int) ≤ 100 - (N : Int) := by omega
    have Hq := Lib.hid hq
    clear h1 h2 h3 h4 hN hW hl hw3 hq h0
    go_enter Tryd.func51, Tryd.ntmps51
    go_wp2
    rw [Hq.out]
    go_loopw [5, 40] (fun v i wr => ∃ (k : Nat) (xs : List Value), k ≤ N ∧ i = .int .i64 (k : Int) ∧ Hid (xs = pC ((md p, (W : Int)) :: othTo o W N k)) ∧ wr.ownsRow w.heap.size 80 2 v (k + 1) xs ∧ Below w.heap.size w wr) (fun _ i _ => N - (intOf i).toNat)
    case atStart => exact ⟨0, pC [(md p, (W : Int))], by omega, rfl, rfl, own_parts (blk_alloc_last _ _ (by simp)) (by simp [pC]) rfl (by simp) (by unfold maxLen; decide), (by repeat (first | exact Below.refl _ _ | assumption | refine Below.drew ?_ | refine below_drewN ?_ _ | refine Below.alloc ?_ (by first | omega | (simp; done) | (simp; omega)) _ | refine Below.setCell ?_ (by first | omega | (simp; done) | (simp; omega)) _))⟩
    case round =>
      obtain ⟨k, xs, hk, rfl, hxs, hown, hbel⟩ := hrel
      have hsr := hbel.size
      by_cases hlt : k < N
      · obtain ⟨b, off, rfl, hbw, hcc⟩ := rd_i16 Hl.out k (by omega)
        have hd := (bcell hbel b (off + k) hbw).trans hcc
        have hx := Ho.out (o[k]'(by omega)) (List.getElem_mem (by omega))
        have Hs := Lib.hid (show pC ((md p, (W : Int)) :: othTo o W N (k + 1)) = pC ((md p, (W : Int)) :: othTo o W N k) ++ [.int .i64 (md (o[k]'(by omega))), .int .i64 (if k + 1 = N then 100 - (W : Int) - ((N : Int) - 1) else 1)] by
          rw [othTo_succ, ← List.cons_append, pC_snoc, List.getD_eq_getElem?_getD, List.getElem?_eq_getElem (by omega)]; rfl)
        clear hcc
        generalize (o[k]'(by omega)) = x at hd hx Hs
        have hmx := md_bd x
        have hxt : x.tmod 10001 = md x := rfl
        generalize md x = y at hxt hmx Hs
        by_cases hlast : k + 1 = N
        · have hb : ((k : Int) == (N : Int) - 1) = true := beq_iff_eq.2 (by omega)
          rw [if_pos hlast] at Hs
          clear hlast
          go_wp2_with (at_builtin; refine wpList_append_own _ rfl _ _ 35 rfl w.heap.size 80 i0 (.agg #[.int .i64 0, .int .i64 0]) 2 16 Tryd.underlying35 hi hz0 hz1 hz2 rfl (by decide) _ _ _ rfl (hown.alloc _) _ 1 1 [.int .i64 y, .int .i64 (100 - (W : Int) - ((N : Int) - 1))] rfl rfl ?c1 ?c2 ?c3 ?c4 ?c5 ?_)
          case c1 => exact cells_new_at _ #[.int .i64 y, .int .i64 (100 - (W : Int) - ((N : Int) - 1))] _ _ (by simp)
          case c2 => simp [Value.oneCell']
          case c3 => unfold maxLen; omega
          case c4 => omega
          case c5 => simp; omega
          intro v' w3 hown1 hgrow _
          go_wp2
          go_roundw
          case rel => exact ⟨k + 1, _, by omega, by go_num, by show _ = _; rw [Hs.out, hxs.out], hown1, (hbel.alloc hsr _).grown hgrow (by simp; omega) (fun g hg => (hown.lt g hg).1)⟩
          case measure => simp [intOf]; omega
        · have hb : ((k : Int) == (N : Int) - 1) = false := beq_eq_false_iff_ne.2 (by omega)
          rw [if_neg hlast] at Hs
          clear hlast
          go_wp2_with (at_builtin; refine wpList_append_own _ rfl _ _ 35 rfl w.heap.size 80 i0 (.agg #[.int .i64 0, .int .i64 0]) 2 16 Tryd.underlying35 hi hz0 hz1 hz2 rfl (by decide) _ _ _ rfl (hown.alloc _) _ 1 1 [.int .i64 y, .int .i64 1] rfl rfl ?d1 ?d2 ?d3 ?d4 ?d5 ?_)
          case d1 => exact cells_new_at _ #[.int .i64 y, .int .i64 1] _ _ (by simp)
          case d2 => simp [Value.oneCell']
          case d3 => unfold maxLen; omega
          case d4 => omega
          case d5 => simp; omega
          intro v' w3 hown1 hgrow _
          go_wp2
          go_roundw
          case rel => exact ⟨k + 1, _, by omega, by go_num, by show _ = _; rw [Hs.out, hxs.out], hown1, (hbel.alloc hsr _).grown hgrow (by simp; omega) (fun g hg => (hown.lt g hg).1)⟩
          case measure => simp [intOf]; omega
      · obtain rfl : k = N := by omega
        go_wp2
        go_ret
        exact ⟨_, rfl, by rw [HM.out, List.length_cons, othTo_len, ← show _ = _ from hxs.out]; exact hown, hbel⟩

/-! ### All -/
/-- The slice with address A reads as the small numbers S. -/
def RdS (w : World) (B : Nat) (A : Option Addr) (S : List Sm) : Prop :=
  ∀ k (h : k < S.length), ∃ b off Ak ck, A = some ⟨b, off, none⟩ ∧ b < B ∧ w.cell? ⟨b, off + k * 3, none⟩ = some (.int .i16 S[k].1) ∧ w.cell? ⟨b, off + k * 3 + 1, none⟩ = some (.int .u8 S[k].2.1) ∧
    w.cell? ⟨b, off + k * 3 + 2, none⟩ = some (.slice Ak (S[k].2.2).length ck) ∧ (S[k].2.2).length ≤ ck ∧ Rd w B 1 Ak (S[k].2.2).length (i16C S[k].2.2)
theorem RdS.below {w w' : World} {B : Nat} {A : Option Addr} {S : List Sm} (h : RdS w B A S) (hb : Below B w w') : RdS w' B A S := fun k hk => by
  obtain ⟨b, off, Ak, ck, h1, h2, h3, h4, h5, h6, h7⟩ := h k hk
  exact ⟨b, off, Ak, ck, h1, h2, (bcell hb _ _ h2).trans h3, (bcell hb _ _ h2).trans h4, (bcell hb _ _ h2).trans h5, h6, h7.below hb⟩
def allL (S : List Sm) (most : Nat) : List (List Pt) := (S.take most).map madeL
theorem allL_right (S : List Sm) (most : Nat) : ∀ o ∈ allL S most, rightM o = true := fun o ho => by
  obtain ⟨s, _, rfl⟩ := List.mem_map.1 ho; exact made_right s
theorem allL_len (S : List Sm) (most : Nat) : (allL S most).length = min most S.length := by simp [allL]

set_option maxHeartbeats 4000000 in
set_option maxRecDepth 100000 in
theorem all_any (S : List Sm) (most : Nat) (A : Option Addr) (c : Nat) (w : World) (hS : RdS w w.heap.size A S) (hok : ∀ s ∈ S, SmOk s) (hc : S.length ≤ c) (hm : c ≤ 9223372036854775807) (hmost : most ≤ 24) :
    Calls Tryd.prog 27 #[.slice A S.length c, .int .i64 (most : Int)] w fun e w' => ∃ v xs, e = .returned v ∧ w'.ownsRow w.heap.size 35 1 v (allL S most).length xs ∧ OwnL w' w.heap.size 80 v xs (allL S most) ∧ Below w.heap.size w w' := by
  obtain ⟨i0, hi, hz0, hz1, hz2⟩ := info_parts info_res
  obtain ⟨N, hN⟩ : ∃ N, min most S.length = N := ⟨_, rfl⟩
  have hN1 : N ≤ 24 ∧ N ≤ S.length := by omega
  have hif : (if most < S.length then (most : Int) else (S.length : Int)) = (N : Int) := by split <;> omega
  have hcN : (N : Int) ≤ (c : Int) := by omega
  have hN0 : (0 : Int) ≤ (N : Int) := by omega
  have HT := Lib.hid (show allL S most = allL S N by
    unfold allL
    by_cases h : most ≤ S.length
    · rw [show N = most by omega]
    · rw [List.take_of_length_le (by omega), List.take_of_length_le (by omega)])
  have HTl := Lib.hid (show (allL S N).length = N by rw [allL_len]; omega)
  have HS := Lib.hid hS
  have Hok := Lib.hid hok
  clear hS hok hN
  go_enter Tryd.func27, Tryd.ntmps27
  go_wp2
  go_loopw [5, 15] (fun v i wr => ∃ (k : Nat) (xs : List Value), k ≤ N ∧ i = .int .i64 (k : Int) ∧ wr.ownsRow w.heap.size 35 1 v k xs ∧ Hid (OwnL wr w.heap.size 80 v xs (allL S k)) ∧ Below w.heap.size w wr) (fun _ i _ => N - (intOf i).toNat)
  case atStart => exact ⟨0, [], by omega, rfl, own_nil, OwnL.nil_, Below.refl _ _⟩
  case round =>
    obtain ⟨k, xs, hk, rfl, hown, hol, hbel⟩ := hrel
    have hsr := hbel.size
    by_cases hlt : k < N
    · obtain ⟨b, off, Ak, ck, rfl, hbw, hc1, hc2, hc3, hc4, hc5⟩ := HS.out k (by omega)
      have hd1 := (bcell hbel b _ hbw).trans hc1
      have hd2 := (bcell hbel b _ hbw).trans hc2
      have hd3 := (bcell hbel b _ hbw).trans hc3
      obtain ⟨⟨x, y, o⟩, hs⟩ : ∃ s, S[k]'(by omega) = s := ⟨_, rfl⟩
      have HQ := Lib.hid (fun (W : World) (hW : Below wr.heap.size wr W) => made_any x y o Ak ck W (by rw [← hs]; exact Hok.out _ (List.getElem_mem _)) ((((by rw [hs] at hc5; exact hc5 : Rd w w.heap.size 1 Ak o.length (i16C o)).below hbel).more hsr).go hW) (by rw [hs] at hc4; exact hc4))
      have Hs := Lib.hid (show allL S (k + 1) = allL S k ++ [madeL (x, y, o)] by unfold allL; rw [List.take_succ_eq_append_getElem (by omega), List.map_append, hs]; rfl)
      rw [hs] at hd1 hd2 hd3
      clear hc1 hc2 hc3 hc4 hc5 hs
      have e1 : wr.cell? ⟨b, off + k * 3, none⟩ = some (.int .i16 x) := hd1
      have e2 : wr.cell? ⟨b, off + k * 3 + 1, none⟩ = some (.int .u8 y) := hd2
      have e3 : wr.cell? ⟨b, off + k * 3 + 2, none⟩ = some (.slice Ak o.length ck) := hd3
      clear hd1 hd2 hd3
      generalize hnk : o.length = nk at e3 HQ
      clear hnk
      go_wp2_with fail
      refine (HQ.out _ (by repeat (first | exact Below.refl _ _ | assumption | refine Below.drew ?_ | refine below_drewN ?_ _ | refine Below.alloc ?_ (by first | omega | (simp; done) | (simp; omega)) _ | refine Below.setCell ?_ (by first | omega | (simp; done) | (simp; omega)) _))).mono ?_
      rintro e w1 ⟨v1, rfl, ho1, hb1⟩
      have hb1' : Below wr.heap.size wr w1 := ((Below.refl _ _).alloc (Nat.le_refl _) _).trans (hb1.mono (by simp))
      have s1 := hb1'.size
      have hown1 := own_below hown hb1' (Nat.le_refl _)
      have hol1 := Lib.hid (hol.out.below hb1')
      have hbel1 := hbel.trans (hb1'.mono hsr)
      have sw1 := hbel1.size
      have hap := Lib.hid (apart_new hown ho1 (by simp))
      have ho1' := own_mono (base' := w.heap.size) ho1 (by simp; omega)
      obtain ⟨r, hr⟩ : ∃ r, madeL (x, y, o) = r := ⟨_, rfl⟩
      rw [hr] at ho1 ho1' Hs
      obtain ⟨A1, c1, rfl⟩ := own_form ho1
      have hsrc := Lib.hid (own_src ho1)
      clear hown hol hbel ho1 hb1 hr
      go_wp2_with (at_builtin; refine wpList_append_own_at _ rfl _ _ 33 rfl w.heap.size 35 i0 (.slice none 0 0) 1 24 Tryd.underlying33 hi hz0 hz1 hz2 rfl (by decide) _ _ _ rfl (hown1.alloc _) _ 1 1 [.slice A1 r.length c1] rfl rfl ?c1 ?c2 ?c3 ?c4 ?c5 ?_)
      case c1 => exact cell_one_at _ _ _ _ (by simp)
      case c2 => simp [Value.oneCell']
      case c3 => unfold maxLen; omega
      case c4 => omega
      case c5 => simp; omega
      intro v2 w2 hown2 hgrow _ hat
      have hol2 := ((hol1.out.below ((Below.refl _ _).alloc (Nat.le_refl _) _)).snoc hsrc.out (ho1'.alloc _) hap.out).kept hgrow hat (by simp)
      have Hol2 := Lib.hid hol2
      have hb2 := (hbel1.alloc sw1 _).grown hgrow (by simp; omega) (fun g hg => (hown1.lt g hg).1)
      clear hol2
      go_wp2
      go_roundw
      case rel => exact ⟨k + 1, _, by omega, by go_num, hown2, by show OwnL _ _ _ _ _ (allL S (k + 1)); rw [Hs.out]; exact Hol2.out, hb2⟩
      case measure => simp [intOf]; omega
    · obtain rfl : k = N := by omega
      go_wp2
      go_ret
      exact ⟨_, xs, rfl, by rw [HT.out, HTl.out]; exact hown, by rw [HT.out]; exact hol.out, hbel⟩

end Go.Proofs.YtlobdeakgoicpaaDoor
