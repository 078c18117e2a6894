/- The walk of the statement FoulSums. -/
import Derived.Test.YtchklobblkddhaaDoorFouSuA
namespace Go.Proofs.YtchklobblkddhaaDoor
open Go.RowKit Go.Shelf

def cnt4 (L : List Ent) (k : Nat) : Array Value := #[.int .i64 (cntE L k 0 : Int), .int .i64 (cntE L k 1 : Int), .int .i64 (cntE L k 2 : Int), .int .i64 (cntE L k 3 : Int)]
theorem cnt4_get (L : List Ent) (k j : Nat) (hj : j < 4) : (cnt4 L k)[j]? = some (.int .i64 (cntE L k (j : Int) : Int)) := by
  rcases (show j = 0 ∨ j = 1 ∨ j = 2 ∨ j = 3 by omega) with rfl | rfl | rfl | rfl <;> rfl
theorem selE_f (e : Ent) (f : Int) (h : cmpB e = true) (hf : e.f = f) : selE f e = true := Bool.and_eq_true_iff.2 ⟨h, decide_eq_true hf⟩
theorem cnt4_keep (L : List Ent) (k : Nat) (h : k < L.length) (hc : cmpB L[k] = false) : cnt4 L (k + 1) = cnt4 L k := by
  have e : ∀ f, cntE L (k + 1) f = cntE L k f := fun f => by
    rw [cntE_succ L k h f]
    unfold selE
    rw [hc]; rfl
  unfold cnt4
  rw [e, e, e, e]
theorem cnt4_set (L : List Ent) (k : Nat) (h : k < L.length) (hc : cmpB L[k] = true) (j : Nat) (hj : j < 4) (hf : (L[k]).f = (j : Int)) : (cnt4 L k).setIfInBounds j (.int .i64 ((cntE L k (j : Int) : Int) + 1)) = cnt4 L (k + 1) := by
  have e : ∀ f, cntE L (k + 1) f = cntE L k f + (if f = (j : Int) then 1 else 0) := fun f => by
    rw [cntE_succ L k h f]
    unfold selE
    rw [hc, hf]
    by_cases hx : f = (j : Int)
    · subst hx; simp
    · rw [if_neg hx, if_neg (by simp; exact fun h => hx h.symm)]
  unfold cnt4
  rw [e, e, e, e]
  rcases (show j = 0 ∨ j = 1 ∨ j = 2 ∨ j = 3 by omega) with rfl | rfl | rfl | rfl <;> simp
/-- What stands between two rounds of the loop. -/
def SumI (L : List Ent) (V : Int) (B g5 g6 g7 : Nat) (W8 : World) (k j : Nat) (wr : World) : Prop :=
  Below B W8 wr ∧ wr.heap[g5]? = some (.cells (cnt4 L j) 34 (0, 0)) ∧
  wr.heap[g6]? = some (.cells #[.int .i64 (fr (nS L V 0 k) (denS L)).1, .int .i64 (fr (nS L V 0 k) (denS L)).2] 42 (0, 0)) ∧
  wr.heap[g7]? = some (.cells #[.int .i64 (fr (nS L V 1 k) (denS L)).1, .int .i64 (fr (nS L V 1 k) (denS L)).2] 42 (0, 0))
theorem SumI.below {L : List Ent} {V : Int} {B g5 g6 g7 : Nat} {W8 : World} {k j : Nat} {w w' : World} (h : SumI L V B g5 g6 g7 W8 k j w) (hB : B ≤ g5) (hb : Below w.heap.size w w') : SumI L V B g5 g6 g7 W8 k j w' :=
  ⟨h.1.trans (hb.mono (Nat.le_trans hB (Nat.le_of_lt (blk_lt h.2.1)))), blk_below h.2.1 hb (blk_lt h.2.1), blk_below h.2.2.1 hb (blk_lt h.2.2.1), blk_below h.2.2.2 hb (blk_lt h.2.2.2)⟩

theorem line_void (L : List Ent) (V : Int) (k : Nat) (h : k < L.length) (h0 : (L[k]).k = 0) : lineE L V k = ((0, 0), (0, 0), false) := by
  unfold lineE
  rw [XB_void L V _ k 0 h h0, XB_void L V _ k 1 h h0, List.getElem?_eq_getElem h]
  show (_, _, decide ((L[k]).k ≠ 0) && _) = _
  rw [h0]; rfl
theorem SumI.void {L : List Ent} {V : Int} {B g5 g6 g7 : Nat} {W8 : World} {k : Nat} {w : World} (h : SumI L V B g5 g6 g7 W8 k k w) (_ : L.length ≤ 24) (hk : k < L.length) (h0 : (L[k]).k = 0) : SumI L V B g5 g6 g7 W8 (k + 1) (k + 1) w := by
  obtain ⟨h1, h2, h3, h4⟩ := h
  have e : ∀ t, nS L V t (k + 1) = nS L V t k := fun t => by rw [nS_succ L V t k hk, numE_void L V _ t _ h0]; omega
  refine ⟨h1, ?_, ?_, ?_⟩
  · rw [cnt4_keep L k hk (decide_eq_false (fun x => x.1 h0))]; exact h2
  · rw [e]; exact h3
  · rw [e]; exact h4

theorem line_num (L : List Ent) (hO : ∀ e ∈ L, e.Ok) (hR : ∀ e ∈ L, e.right = true) (hn : L.length ≤ 24) (V : Int) (hv : 0 ≤ V ∧ V ≤ 3) (k : Nat) (h : k < L.length) (h0 : (L[k]).k ≠ 0) :
    lineE L V k = (fr (numE L V (notVoid L : Int) 0 L[k]) (denS L), fr (numE L V (notVoid L : Int) 1 L[k]) (denS L), decide ((notVoid L : Int) > 1)) := by
  unfold lineE
  rw [XB_num L hO hR hn V hv k 0 h h0, XB_num L hO hR hn V hv k 1 h h0, List.getElem?_eq_getElem h]
  show (_, _, decide ((L[k]).k ≠ 0) && _) = _
  rw [decide_eq_true h0]; rfl
theorem SumI.skip {L : List Ent} {V : Int} {B g5 g6 g7 : Nat} {W8 : World} {k : Nat} {w : World} (h : SumI L V B g5 g6 g7 W8 k k w) (hk : k < L.length) (h0 : cmpB L[k] = false) : SumI L V B g5 g6 g7 W8 k (k + 1) w := by
  obtain ⟨h1, h2, h3, h4⟩ := h
  refine ⟨h1, ?_, h3, h4⟩
  rw [cnt4_keep L k hk h0]; exact h2
theorem SumI.count {L : List Ent} {V : Int} {B g5 g6 g7 : Nat} {W8 : World} {k : Nat} {w : World} (h : SumI L V B g5 g6 g7 W8 k k w) (hB : B ≤ g5) (h6 : g5 ≠ g6) (h7 : g5 ≠ g7) (hk : k < L.length) (hc : cmpB L[k] = true) (j : Nat) (hj : j < 4) (hf : (L[k]).f = (j : Int)) :
    SumI L V B g5 g6 g7 W8 k (k + 1) (w.setCell ⟨g5, j, none⟩ (.int .i64 ((cntE L k (j : Int) : Int) + 1))) := by
  obtain ⟨h1, h2, h3, h4⟩ := h
  refine ⟨h1.setCell hB _, ?_, blk_far h3 (fun e => h6 e.symm) _, blk_far h4 (fun e => h7 e.symm) _⟩
  rw [← cnt4_set L k hk hc j hj hf]
  exact blk_set h2 j _
theorem SumI.done {L : List Ent} (hn : L.length ≤ 24) {V : Int} {B g5 g6 g7 : Nat} {W8 : World} {k : Nat} {w : World} (h : SumI L V B g5 g6 g7 W8 k (k + 1) w) (hB : B ≤ g6) (hB7 : B ≤ g7) (h5 : g5 ≠ g6) (h57 : g5 ≠ g7) (h67 : g6 ≠ g7) (hk : k < L.length) {w1 w2 : World}
    (p q : Pt) (hp : p = addF (fr (nS L V 0 k) (denS L)) (fr (numE L V (notVoid L : Int) 0 L[k]) (denS L))) (hq : q = addF (fr (nS L V 1 k) (denS L)) (fr (numE L V (notVoid L : Int) 1 L[k]) (denS L)))
    (hb1 : Below w.heap.size w w1) (hb2 : Below w.heap.size ((w1.setCell ⟨g6, 0, none⟩ (.int .i64 p.1)).setCell ⟨g6, 1, none⟩ (.int .i64 p.2)) w2) :
    SumI L V B g5 g6 g7 W8 (k + 1) (k + 1) ((w2.setCell ⟨g7, 0, none⟩ (.int .i64 q.1)).setCell ⟨g7, 1, none⟩ (.int .i64 q.2)) := by
  obtain ⟨h1, h2, h3, h4⟩ := h
  have l5 := blk_lt h2
  have l6 := blk_lt h3
  have l7 := blk_lt h4
  have hd := (denS_bd L hn).2.1
  have e0 : p = fr (nS L V 0 (k + 1)) (denS L) := by rw [hp, add_frD _ _ _ hd, nS_succ L V 0 k hk]
  have e1 : q = fr (nS L V 1 (k + 1)) (denS L) := by rw [hq, add_frD _ _ _ hd, nS_succ L V 1 k hk]
  refine ⟨(((h1.trans (hb1.mono (by omega))).setCell hB _).setCell hB _ |>.trans (hb2.mono (by omega))).setCell hB7 _ |>.setCell hB7 _, ?_, ?_, ?_⟩
  · exact blk_far (blk_far (blk_below (blk_far (blk_far (blk_below h2 hb1 l5) h5 _) h5 _) hb2 l5) h57 _) h57 _
  · rw [← e0]
    exact blk_far (blk_far (blk_below (blk_set (blk_set (blk_below h3 hb1 l6) 0 _) 1 _) hb2 l6) h67 _) h67 _
  · rw [← e1]
    exact blk_set (blk_set (blk_below (blk_far (blk_far (blk_below h4 hb1 l7) (fun e => h67 e.symm) _) (fun e => h67 e.symm) _) hb2 l7) 0 _) 1 _

theorem both_all (L : List Ent) (hO : ∀ e ∈ L, e.Ok) (hR : ∀ e ∈ L, e.right = true) (hn : L.length ≤ 24) (V : Int) (hv : 0 ≤ V ∧ V ≤ 3) (k : Nat) (h : k < L.length) (hk : (L[k]).k = 1 ∨ (L[k]).k = 2) (ha : aloneTo L (L[k]).f L.length = true) :
    addF (fr (numE L V (notVoid L : Int) 0 L[k]) (denS L)) (fr (numE L V (notVoid L : Int) 1 L[k]) (denS L)) = (2 * ((notVoid L : Int) - 1), 1) := by
  have hd := (denS_bd L hn).2.1
  rw [add_frD _ _ _ hd, both_num L hO hR V hv k h hk (fun e he h3 hf => by
    unfold aloneTo at ha
    rw [List.take_length] at ha
    have := List.all_eq_true.1 ha e he
    rw [decide_eq_true h3, decide_eq_true hf] at this
    cases this), whole_frD _ _ hd]

set_option maxRecDepth 100000 in
set_option maxHeartbeats 4000000 in
theorem fsums_walk (S : List SmE) (A : Option Addr) (c : Nat) (vul : Int) (hvu : 0 ≤ vul ∧ vul ≤ 255) (w : World) (hL : LaidS w) (hLm : Laid w) (hA : Rd w w.heap.size 14 A S.length (smL S)) (hok : ∀ x ∈ S, x.Ok) (hc : S.length ≤ c) (hm : c ≤ 9223372036854775807) :
    Calls Tryd.prog 4 #[.slice A S.length c, .int .u8 vul] w fun e w' => e = .returned (.bool true) ∧ Below w.heap.size w w' := by
  have HM := Lib.hid (fmade23 S A c w hA hok hc hm)
  have HO := Lib.hid (madeLE_ok S hok)
  have HR := Lib.hid (madeLE_right S hok)
  have hl24 : (madeLE S).length ≤ 24 := by rw [madeLE_len]; omega
  generalize madeLE S = L at HM HO HR hl24
  have HL := Lib.hid hL
  have HLm := Lib.hid hLm
  obtain ⟨V, hV⟩ : ∃ V, vul % 4 = V := ⟨_, rfl⟩
  have hVb : 0 ≤ V ∧ V ≤ 3 := by omega
  have hchk : chkE L = 0 := by unfold chkE; rw [if_pos (List.all_eq_true.2 HR.out), if_neg (by omega)]
  obtain ⟨nv, hnv⟩ : ∃ nv : Nat, notVoid L = nv := ⟨_, rfl⟩
  have hnvl : nv ≤ 24 := by have : notVoid L ≤ L.length := List.length_filter_le _ _; omega
  have Hnv := Lib.hid hnv
  have HQ := Lib.hid q23_any
  clear hL hLm hA hok hc hm
  go_enter Tryd.func4, Tryd.ntmps4
  go_wp2_with fail
  refine HM.out.mono ?_
  rintro ee w1 ⟨v, rfl, ho1, hb1⟩
  obtain ⟨A1, ca, rfl⟩ := own_form ho1
  have HRd1 := Lib.hid (show Rd w1 w1.heap.size 33 A1 L.length (enL L) from Rd.of_own ho1)
  have HB1 := Lib.hid hb1
  clear ho1 hb1 HM
  go_wp2_with fail
  rw [hV]
  refine (fboard_ok L A1 ca V w1 HO.out HRd1.out hl24 (HL.out.go HB1.out) (HLm.out.below HB1.out HLm.out.lt) HR.out hVb).mono ?_
  rintro ee w2 ⟨v, rfl, ho2, hb2⟩
  obtain ⟨A2, c2, rfl⟩ := own_form ho2
  have HRd2 := Lib.hid (HRd1.out.go hb2)
  have HB2 := Lib.hid (below_via HB1.out hb2)
  have HLn2 := Lib.hid (show Rd w2 w2.heap.size 5 A2 (boardTo L V L.length).length (lnC (boardTo L V L.length)) by rw [boardTo_len]; exact Rd.of_own ho2)
  clear ho2 hb2 HRd1 HB1
  go_wp2_with fail
  have HFA := Lib.hid (fall_ok L A1 ca w2 HO.out HRd2.out (by omega) (HL.out.go HB2.out) hchk)
  rw [hnv] at HFA
  have hcc : cntC L = cnt4 L L.length := by unfold cntC cnt4; rw [cntE_all, cntE_all, cntE_all, cntE_all]
  rw [hcc] at HFA
  have Hcc := Lib.hid hcc
  clear hnv hcc
  obtain ⟨C9, hC9⟩ : ∃ C, cnt4 L L.length = C := ⟨_, rfl⟩
  rw [hC9] at HFA
  have HC9 := Lib.hid hC9
  have hC9s : C9 = #[.int .i64 (cntE L L.length 0 : Int), .int .i64 (cntE L L.length 1 : Int), .int .i64 (cntE L L.length 2 : Int), .int .i64 (cntE L L.length 3 : Int)] := hC9.symm
  clear hC9
  generalize (cntE L L.length 0 : Int) = n0, (cntE L L.length 1 : Int) = n1, (cntE L L.length 2 : Int) = n2, (cntE L L.length 3 : Int) = n3 at hC9s
  subst hC9s
  refine HFA.out.mono ?_
  rintro ee w3 ⟨rfl, hb3⟩
  clear HFA
  go_upto_region 4 with fail
  obtain ⟨g9, hg9⟩ : ∃ g, w3.heap.size = g := ⟨_, rfl⟩
  obtain ⟨W3, hW3⟩ : ∃ V, w3.alloc (.cells #[.int .i64 n0, .int .i64 n1, .int .i64 n2, .int .i64 n3] 34) = V := ⟨_, rfl⟩
  have K9 := Lib.hid (show W3.heap[g9]? = some (.cells #[.int .i64 n0, .int .i64 n1, .int .i64 n2, .int .i64 n3] 34 (0, 0)) by rw [← hW3]; exact blk_new _ hg9.symm)
  have hb23 : Below w2.heap.size w2 W3 := by rw [← hW3]; exact hb3.alloc hb3.size _
  have HB3 := Lib.hid (below_via HB2.out hb23)
  have HRd3 := Lib.hid (HRd2.out.go hb23)
  have HLn3 := Lib.hid (HLn2.out.go hb23)
  rw [hW3, hg9]
  clear hW3 hg9 hb23 hb3 HRd2 HLn2 HB2
  have HD := Lib.hid (fdemand_ok L A1 ca W3 HO.out HRd3.out hl24 (HL.out.go HB3.out) HR.out)
  have hs0 := sum_all L HO.out HR.out hl24 V hVb 0
  have hs1 := sum_all L HO.out HR.out hl24 V hVb 1
  rw [← hs0, ← hs1] at HD
  unfold fV at HD
  clear hs0 hs1
  generalize hx0 : (fr (nS L V 0 L.length) (denS L)).1 = x0 at HD
  generalize hy0 : (fr (nS L V 0 L.length) (denS L)).2 = y0 at HD
  generalize hx1 : (fr (nS L V 1 L.length) (denS L)).1 = x1 at HD
  generalize hy1 : (fr (nS L V 1 L.length) (denS L)).2 = y1 at HD
  have Hx0 := Lib.hid hx0
  have Hx1 := Lib.hid hx1
  have Hy0 := Lib.hid hy0
  have Hy1 := Lib.hid hy1
  clear hx0 hx1 hy0 hy1
  go_wp2_with fail
  refine HD.out.mono ?_
  rintro ee w4 ⟨rfl, hb4⟩
  clear HD
  go_upto_region 5 with fail
  obtain ⟨g11, hg11⟩ : ∃ g, w4.heap.size = g := ⟨_, rfl⟩
  obtain ⟨W4, hW4⟩ : ∃ V, (w4.alloc (.cells #[.int .i64 x0, .int .i64 y0] 42)).alloc (.cells #[.int .i64 x1, .int .i64 y1] 42) = V := ⟨_, rfl⟩
  have K11 := Lib.hid (show W4.heap[g11]? = some (.cells #[.int .i64 x0, .int .i64 y0] 42 (0, 0)) by rw [← hW4]; exact blk_alloc (blk_new _ hg11.symm) _)
  have K12 := Lib.hid (show W4.heap[g11 + 1]? = some (.cells #[.int .i64 x1, .int .i64 y1] 42 (0, 0)) by rw [← hW4]; exact blk_new _ (by simp; omega))
  have hb34 : Below W3.heap.size W3 W4 := by rw [← hW4]; exact (hb4.alloc hb4.size _).alloc (by have := hb4.size; simp; omega) _
  have HB4 := Lib.hid (below_via HB3.out hb34)
  have K9b := Lib.hid (blk_below K9.out hb34 (blk_lt K9.out))
  have HRd4 := Lib.hid (HRd3.out.go hb34)
  have HLn4 := Lib.hid (HLn3.out.go hb34)
  rw [hW4, hg11]
  clear hW4 hg11 hb34 hb4 HRd3 HLn3 HB3 K9
  obtain ⟨T, hT⟩ : ∃ T : Int, 2 * ((nv : Int) - 1) = T := ⟨_, rfl⟩
  have HT := Lib.hid hT
  have a1 : IntKind.i64.wrap ((nv : Int) - 1) = (nv : Int) - 1 := IntWalk.i64_in _ (by omega)
  have a2 : IntKind.i64.wrap (2 * ((nv : Int) - 1)) = T := by rw [hT]; exact IntWalk.i64_in _ (by omega)
  have hTb : -2 ≤ T ∧ T ≤ 46 := by omega
  clear hT
  go_wp2_with fail
  refine (HQ.out T 1 _).mono ?_
  rintro ee w5 ⟨rfl, hb5⟩
  clear a1 a2
  go_upto_region 8 with fail
  obtain ⟨gT, hgT⟩ : ∃ g, w5.heap.size = g := ⟨_, rfl⟩
  obtain ⟨W6, hW6⟩ : ∃ V, (w5.alloc (.cells #[.int .i64 T, .int .i64 1] 42)).alloc (.cells #[.int .i64 0, .int .i64 0, .int .i64 0, .int .i64 0] 34) = V := ⟨_, rfl⟩
  have KT := Lib.hid (show W6.heap[gT]? = some (.cells #[.int .i64 T, .int .i64 1] 42 (0, 0)) by rw [← hW6]; exact blk_alloc (blk_new _ hgT.symm) _)
  have K15 := Lib.hid (show W6.heap[gT + 1]? = some (.cells #[.int .i64 0, .int .i64 0, .int .i64 0, .int .i64 0] 34 (0, 0)) by rw [← hW6]; exact blk_new _ (by simp; omega))
  have hb46 : Below W4.heap.size W4 W6 := by rw [← hW6]; exact (hb5.alloc hb5.size _).alloc (by have := hb5.size; simp; omega) _
  have h4T : W4.heap.size ≤ gT := by rw [← hgT]; exact hb5.size
  have hw4 := HB4.out.size
  have HB6 := Lib.hid (below_via HB4.out hb46)
  have K9c := Lib.hid (blk_below K9b.out hb46 (blk_lt K9b.out))
  have K11c := Lib.hid (blk_below K11.out hb46 (blk_lt K11.out))
  have K12c := Lib.hid (blk_below K12.out hb46 (blk_lt K12.out))
  have l9 := blk_lt K9b.out
  have l11 := blk_lt K12.out
  have HRd6 := Lib.hid (HRd4.out.below hb46)
  have HLn6 := Lib.hid (HLn4.out.below hb46)
  rw [hW6, hgT]
  clear hW6 hgT hb46 hb5 HRd4 HLn4 HB4 K9b K11 K12
  go_wp2_with fail
  refine (HQ.out 0 1 _).mono ?_
  rintro ee w7 ⟨rfl, hb7⟩
  go_wp2_with fail
  refine (HQ.out 0 1 _).mono ?_
  rintro ee w8 ⟨rfl, hb8⟩
  go_upto_region 9 with fail
  obtain ⟨g16, hg16⟩ : ∃ g, w8.heap.size = g := ⟨_, rfl⟩
  obtain ⟨W8, hW8⟩ : ∃ V, (w8.alloc (.cells #[.int .i64 0, .int .i64 1] 42)).alloc (.cells #[.int .i64 0, .int .i64 1] 42) = V := ⟨_, rfl⟩
  have hb68' := below_via hb7 hb8
  have hb68 : Below W6.heap.size W6 W8 := by rw [← hW8]; exact (hb68'.alloc hb68'.size _).alloc (by have := hb68'.size; simp; omega) _
  have l15 := blk_lt K15.out
  have h616 : W6.heap.size ≤ g16 := by rw [← hg16]; exact hb68'.size
  have HI0 := Lib.hid (show SumI L V (gT + 1) (gT + 1) g16 (g16 + 1) W8 0 0 W8 from by
    refine ⟨Below.refl _ _, blk_below K15.out hb68 l15, ?_, ?_⟩
    · rw [nS_zero L hl24, ← hW8]; exact blk_alloc (blk_new _ hg16.symm) _
    · rw [nS_zero L hl24, ← hW8]; exact blk_new _ (by simp; omega))
  have HB8 := Lib.hid (below_via HB6.out hb68)
  have K9 := Lib.hid (blk_below K9c.out hb68 (blk_lt K9c.out))
  have K11 := Lib.hid (blk_below K11c.out hb68 (blk_lt K11c.out))
  have K12 := Lib.hid (blk_below K12c.out hb68 (blk_lt K12c.out))
  have KT8 := Lib.hid (blk_below KT.out hb68 (blk_lt KT.out))
  have HRd8 := Lib.hid (HRd6.out.below (hb68.mono (by omega)))
  have HLn8 := Lib.hid (HLn6.out.below (hb68.mono (by omega)))
  have HRd := Lib.hid (HRd8.out.more (show W4.heap.size ≤ gT by omega))
  have HLn := Lib.hid (HLn8.out.more (show W4.heap.size ≤ gT by omega))
  have hw8 := HB8.out.size
  have h16l : g16 + 1 < W8.heap.size := blk_lt HI0.out.2.2.2
  have hwT : w.heap.size ≤ gT + 1 := by omega
  rw [hW8, hg16]
  clear hW8 hg16 hb68 hb68' hb7 hb8 HRd6 HLn6 HRd8 HLn8 HB6 K9c K11c K12c KT K15
  go_wp2
  go_loopw [70] (fun i wr => ∃ k : Nat, k ≤ L.length ∧ i = .int .i64 (k : Int) ∧ SumI L V (gT + 1) (gT + 1) g16 (g16 + 1) W8 k k wr) (fun i _ => L.length - (intOf i).toNat)
  case atStart => exact ⟨0, by omega, rfl, HI0.out⟩
  case round =>
    obtain ⟨k, hk, rfl, hI⟩ := hrel
    have HI := Lib.hid hI
    have l16 : g16 + 1 < wr.heap.size := blk_lt hI.2.2.2
    have l15r : gT + 1 < wr.heap.size := blk_lt hI.2.1
    clear hI
    by_cases hlt : k < L.length
    · obtain ⟨b, off, rfl, hbw, hr⟩ := rd_e (fun e he => (HO.out e he).1.1) HRd.out k hlt
      have hm := List.getElem_mem hlt
      have hok := HO.out _ hm
      have c1 : (0 : Int) ≤ (k : Int) := by omega
      have c2 : (k : Int) < (L.length : Int) := by omega
      have hf3 := right_f (HR.out _ hm)
      have hf0 := hok.2.2.2.1.1
      have hc4 : W8.cell? ⟨b, off + k * 33 + 4, none⟩ = some (.int .u8 (L[k]).k) := hr 4 _ (by have h5 := hok.1.2.1; simpa using h5)
      have hc5 : W8.cell? ⟨b, off + k * 33 + 5, none⟩ = some (.int .u8 (L[k]).f) := hr 5 _ (by have h5 := hok.1.2.2.1; simpa using h5)
      obtain ⟨bl, ol, hA2, hbl, l0, l1, l2, l3, l4⟩ := rd_ln HLn.out k (by rw [boardTo_len]; exact hlt)
      subst hA2
      have hgetk : (boardTo L V L.length)[k]'(by rw [boardTo_len]; exact hlt) = lineE L V k := boardTo_get L V L.length k hlt
      rw [hgetk] at l0 l1 l2 l3 l4
      have HLk := LnAt.below (x := lineE L V k) ⟨l0, l1, l2, l3, l4⟩ HI.out.1 (by omega)
      have HE4 := Lib.hid ((bcell HI.out.1 b _ (by omega)).trans hc4)
      have HE5 := Lib.hid ((bcell HI.out.1 b _ (by omega)).trans hc5)
      clear hr hm l0 l1 l2 l3 l4 hgetk hc4 hc5
      obtain ⟨y, hy⟩ : ∃ y, lineE L V k = y := ⟨_, rfl⟩
      rw [hy] at HLk
      have Hy := Lib.hid hy
      clear hy
      obtain ⟨⟨p0, p1⟩, ⟨p2, p3⟩, p4⟩ := y
      dsimp only [LnAt] at HLk
      go_upto_region 12 with fail
      obtain ⟨W5, hW5⟩ : ∃ V, wr.alloc (.cells #[.int .i64 p0, .int .i64 p1, .int .i64 p2, .int .i64 p3, .bool p4] 49) = V := ⟨_, rfl⟩
      obtain ⟨G, hG⟩ : ∃ g, wr.heap.size = g := ⟨_, rfl⟩
      have KG := Lib.hid (show W5.heap[G]? = some (.cells #[.int .i64 p0, .int .i64 p1, .int .i64 p2, .int .i64 p3, .bool p4] 49 (0, 0)) by rw [← hW5]; exact blk_new _ hG.symm)
      have hb5 : Below wr.heap.size wr W5 := by rw [← hW5]; exact (by repeat (first | exact Below.refl _ _ | assumption | refine Below.drew ?_ | refine below_drewN ?_ _ | refine Below.alloc ?_ (by first | omega | (simp; done) | (simp; omega)) _ | refine Below.setCell ?_ (by first | omega | (simp; done) | (simp; omega)) _))
      have HI5 := Lib.hid (HI.out.below (Nat.le_refl _) hb5)
      have q4 := (bcell hb5 b _ (by omega)).trans HE4.out
      have q5 := (bcell hb5 b _ (by omega)).trans HE5.out
      have hGb : g16 + 1 < G := by rw [← hG]; exact l16
      rw [hW5, hG]
      clear hW5 hG HE4 HE5 HLk hb5 l16 l15r HI
      by_cases h0 : (L[k]).k = 0
      · rw [h0] at q4
        have hyv := line_void L V k hlt h0
        rw [Hy.out] at hyv
        injection hyv with e1 e2
        injection e1 with e1 e3
        injection e2 with e2 e4
        injection e2 with e2 e5
        subst e1 e3 e2 e5 e4
        have HIn := Lib.hid (HI5.out.void hl24 hlt h0)
        have g0 := blk_cell KG.out 0
        have g1 := blk_cell KG.out 1
        have g2 := blk_cell KG.out 2
        have g3 := blk_cell KG.out 3
        have g4 := blk_cell KG.out 4
        have hq := eqLn 0 0 0 0 false
        clear h0 q5
        go_wp2_with fail
        go_roundw
        case rel => exact ⟨k + 1, hlt, by go_num, HIn.out⟩
        case measure => simp [intOf]; omega
      · have t0 : ((L[k]).k == 0) = false := beq_eq_false_iff_ne.2 h0
        have HLN := Lib.hid (line_num L HO.out HR.out hl24 V hVb k hlt h0)
        rw [Hy.out, Hnv.out] at HLN
        have hk4 : (L[k]).k = 4 ∨ ((L[k]).k = 1 ∨ (L[k]).k = 2 ∨ (L[k]).k = 3) := (right_k23 (HR.out _ (List.getElem_mem hlt))).resolve_left h0
        obtain ⟨kd, hkd⟩ : ∃ kd, (L[k]).k = kd := ⟨_, rfl⟩
        rw [hkd] at q4 t0 hk4
        have Hkd := Lib.hid hkd
        have hkb : (kd != 0) = true := by rw [bne_iff_ne]; omega
        clear h0 hkd
        go_upto_if 86 with fail
        go_cut [] (fun wz => SumI L V (gT + 1) (gT + 1) g16 (g16 + 1) W8 k (k + 1) wz ∧ wz.heap[G]? = some (.cells #[.int .i64 p0, .int .i64 p1, .int .i64 p2, .int .i64 p3, .bool p4] 49 (0, 0)))
        case first =>
          rcases hk4 with rfl | hk3
          · have HJ := Lib.hid (HI5.out.skip hlt (decide_eq_false (fun x => x.2 Hkd.out)))
            go_wp2_with fail
            go_meet
            exact ⟨HJ.out, KG.out⟩
          · have tk4 : (kd != 4) = true := by rw [bne_iff_ne]; omega
            have hcmp : cmpB L[k] = true := decide_eq_true (by rw [Hkd.out]; omega)
            obtain ⟨j, hj⟩ : ∃ j : Nat, (L[k]).f = (j : Int) := ⟨(L[k]).f.toNat, by omega⟩
            have hj4 : j < 4 := by omega
            have d1 : (0 : Int) ≤ (j : Int) := by omega
            have d2 : (j : Int) < 4 := by omega
            have HJ := Lib.hid (HI5.out.count (Nat.le_refl _) (by omega) (by omega) hlt hcmp j hj4 hj)
            have q15 := (blk_cell HI5.out.2.1 j).trans (cnt4_get L k j hj4)
            have f15 := blk_free HI5.out.2.1 j
            have hcl := cntE_le L k (j : Int)
            have hw := IntWalk.i64_in ((cntE L k (j : Int) : Int) + 1) (by omega)
            have hneG : G ≠ gT + 1 := by omega
            generalize (cntE L k (j : Int) : Int) = cv at q15 hw HJ hcl
            rw [hj] at q5
            clear hk3 hj hcmp
            go_wp2_with fail
            go_meet
            exact ⟨HJ.out, blk_far KG.out hneG _⟩
        case rest =>
          obtain ⟨hJ, hKG⟩ := hcut
          have HJ := Lib.hid hJ
          have KGc := Lib.hid hKG
          have q0 := blk_cell hKG 0
          have q1 := blk_cell hKG 1
          have q2 := blk_cell hKG 2
          have q3 := blk_cell hKG 3
          have lGc := blk_lt hKG
          have hln := HLN.out
          injection hln with eP hln
          injection hln with eQ e4
          have wP : wdF (p0, p1) := by rw [eP, ← Hnv.out]; exact num_wd L HO.out HR.out hl24 V hVb k 0 hlt
          have wQ : wdF (p2, p3) := by rw [eQ, ← Hnv.out]; exact num_wd L HO.out HR.out hl24 V hVb k 1 hlt
          have HAd := Lib.hid (fun W => fadd_wd (p0, p1) (p2, p3) wP wQ W)
          obtain ⟨⟨b1, b2⟩, hBo⟩ : ∃ B : Pt, addF (p0, p1) (p2, p3) = B := ⟨_, rfl⟩
          rw [hBo] at HAd
          have HBo := Lib.hid hBo
          have w01 : wdF (0, 1) := wd_of (sm_whole 0 (by omega))
          have wT1 : wdF (T, 1) := wd_of (sm_whole T (by omega))
          have HCa := Lib.hid (fun W => fcmp_wd (p0, p1) (0, 1) wP w01 W)
          have HCb := Lib.hid (fun W => fcmp_wd (p0, p1) (T, 1) wP wT1 W)
          have hu : 0 ≤ cmpF (p0, p1) (0, 1) := by rw [eP, ← Hnv.out]; exact low_num L HO.out HR.out hl24 V hVb k 0 hlt
          have hv : cmpF (p0, p1) (T, 1) ≤ 0 := by
            have h0 : (L[k]).k ≠ 0 := by rw [Hkd.out]; omega
            have := high_num L HO.out HR.out hl24 V hVb k 0 hlt h0
            rw [Hnv.out, HT.out] at this
            rw [eP]; exact this
          generalize cmpF (p0, p1) (0, 1) = u at HCa hu
          generalize cmpF (p0, p1) (T, 1) = v at HCb hv
          unfold fV at HAd HCa HCb
          dsimp only at HAd HCa HCb
          have HeP := Lib.hid eP
          have HeQ := Lib.hid eQ
          have He4 := Lib.hid e4
          have HwP := Lib.hid wP
          have HwQ := Lib.hid wQ
          clear hJ hKG eP eQ e4 wP wQ hBo w01 wT1 HLN q4 q5 HI5 KG
          go_wp2_with fail
          refine (HAd.out _).mono ?_
          rintro ee wa ⟨rfl, hba⟩
          go_upto_region 19 with fail
          obtain ⟨gB, hgB⟩ : ∃ g, wa.heap.size = g := ⟨_, rfl⟩
          obtain ⟨W9, hW9⟩ : ∃ V, wa.alloc (.cells #[.int .i64 b1, .int .i64 b2] 42) = V := ⟨_, rfl⟩
          have KB := Lib.hid (show W9.heap[gB]? = some (.cells #[.int .i64 b1, .int .i64 b2] 42 (0, 0)) by rw [← hW9]; exact blk_new _ hgB.symm)
          have hb9 : Below wc.heap.size wc W9 := by rw [← hW9]; exact hba.alloc hba.size _
          have HB9 := Lib.hid hb9
          have q0 := (bcell hb9 G 0 lGc).trans q0
          have q1 := (bcell hb9 G 1 lGc).trans q1
          have lG9 : G < W9.heap.size := by have := hb9.size; omega
          have lB9 := blk_lt KB.out
          have KSq := Lib.hid (fun (wq : World) (h : Below W9.heap.size W9 wq) => (show wq.cell? ⟨G, 0, none⟩ = some (.int .i64 p0) ∧ wq.cell? ⟨G, 1, none⟩ = some (.int .i64 p1) from ⟨(bcell h G 0 lG9).trans q0, (bcell h G 1 lG9).trans q1⟩))
          rw [hW9, hgB]
          clear hW9 hgB hb9 hba q2 q3 HAd
          refine wp_region_held_drew (S := (fun wq => Below W9.heap.size W9 wq ∧ wq.cell? ⟨G, 0, none⟩ = some (.int .i64 p0) ∧ wq.cell? ⟨G, 1, none⟩ = some (.int .i64 p1))) (by kernel_rfl) ⟨(Below.refl _ _).drew, q0, q1⟩ (fun hHeldR => ?_)
          refine take_named23 (i := 0) (d := 105) (v := ?vR0) rfl (by kernel_rfl) (by kernel_rfl) (by kernel_rfl) (by kernel_rfl) (fun _ _ _ h => h) (Or.inl ⟨by kernel_rfl, ?yR0⟩) (by assumption) ?_
          case yR0 => intro wq hSw; (try dsimp only at hSw); go_simp; (try with_reducible rfl)
          (try simp only [Act.put, List.setIfInBounds_toArray, List.set_cons_zero, List.set_cons_succ])
          refine take_named23 (i := 1) (d := 106) (v := ?vR1) rfl (by kernel_rfl) (by kernel_rfl) (by kernel_rfl) (by kernel_rfl) (fun _ _ _ h => h) (Or.inl ⟨by kernel_rfl, ?yR1⟩) (by assumption) ?_
          case yR1 => intro wq hSw; (try dsimp only at hSw); go_simp; (try with_reducible rfl)
          (try simp only [Act.put, List.setIfInBounds_toArray, List.set_cons_zero, List.set_cons_succ])
          refine wpAnyH_ready (rs := [2]) (by kernel_rfl) (by simp) ?_
          refine AllReadyH.cons rfl (fun K hK => ?_) AllReadyH.nil
          go_simp
          refine (HQ.out 0 1 _).mono ?_
          rintro ee wq2 ⟨rfl, hbq2⟩
          refine hK.out _ _ (⟨hHeldR.1.trans (hbq2.mono hHeldR.1.size), KSq.out _ (hHeldR.1.trans (hbq2.mono hHeldR.1.size))⟩) (fun hHeldR2 => ?_)
          clear hK K hHeldR
          (try simp only [Act.put, List.setIfInBounds_toArray, List.set_cons_zero, List.set_cons_succ])
          refine wpAnyH_ready (rs := [3]) (by kernel_rfl) (by simp) ?_
          refine AllReadyH.cons rfl (fun K hK => ?_) AllReadyH.nil
          go_simp
          refine (HCa.out _).mono ?_
          rintro ee wq3 ⟨rfl, hbq3⟩
          refine hK.out _ _ (⟨hHeldR2.1.trans (hbq3.mono hHeldR2.1.size), KSq.out _ (hHeldR2.1.trans (hbq3.mono hHeldR2.1.size))⟩) (fun hHeldR3 => ?_)
          clear hK K hHeldR2
          (try simp only [Act.put, List.setIfInBounds_toArray, List.set_cons_zero, List.set_cons_succ])
          refine take_named23 (i := 4) (d := 104) (v := ?vR4) rfl (by kernel_rfl) (by kernel_rfl) (by kernel_rfl) (by kernel_rfl) (fun _ _ _ h => h) (Or.inl ⟨by kernel_rfl, ?yR4⟩) (by assumption) ?_
          case yR4 => intro wq hSw; (try dsimp only at hSw); go_simp; (try with_reducible rfl)
          (try simp only [Act.put, List.setIfInBounds_toArray, List.set_cons_zero, List.set_cons_succ])
          refine take_named23 (i := 5) (d := 109) (v := ?vR5) rfl (by kernel_rfl) (by kernel_rfl) (by kernel_rfl) (by kernel_rfl) (fun _ _ _ h => h) (Or.inl ⟨by kernel_rfl, ?yR5⟩) (by assumption) ?_
          case yR5 => intro wq hSw; (try dsimp only at hSw); go_simp; (try with_reducible rfl)
          (try simp only [Act.put, List.setIfInBounds_toArray, List.set_cons_zero, List.set_cons_succ])
          refine take_named23 (i := 6) (d := 110) (v := ?vR6) rfl (by kernel_rfl) (by kernel_rfl) (by kernel_rfl) (by kernel_rfl) (fun _ _ _ h => h) (Or.inl ⟨by kernel_rfl, ?yR6⟩) (by assumption) ?_
          case yR6 => intro wq hSw; (try dsimp only at hSw); go_simp; (try with_reducible rfl)
          (try simp only [Act.put, List.setIfInBounds_toArray, List.set_cons_zero, List.set_cons_succ])
          refine take_named23 (i := 7) (d := 23) (v := ?vR7) rfl (by kernel_rfl) (by kernel_rfl) (by kernel_rfl) (by kernel_rfl) (fun _ _ _ h => h) (Or.inl ⟨by kernel_rfl, ?yR7⟩) (by assumption) ?_
          case yR7 => intro wq hSw; (try dsimp only at hSw); go_simp; (try with_reducible rfl)
          (try simp only [Act.put, List.setIfInBounds_toArray, List.set_cons_zero, List.set_cons_succ])
          refine take_named23 (i := 8) (d := 24) (v := ?vR8) rfl (by kernel_rfl) (by kernel_rfl) (by kernel_rfl) (by kernel_rfl) (fun _ _ _ h => h) (Or.inl ⟨by kernel_rfl, ?yR8⟩) (by assumption) ?_
          case yR8 => intro wq hSw; (try dsimp only at hSw); go_simp; (try with_reducible rfl)
          (try simp only [Act.put, List.setIfInBounds_toArray, List.set_cons_zero, List.set_cons_succ])
          have hb19 := hHeldR3.1
          refine wpAnyH_done (by kernel_rfl) ?_ _
          have hb19' := hb19
          have HB19 := Lib.hid (HB9.out.trans (hb19.mono HB9.out.size))
          have q0 := hHeldR3.2.1
          have q1 := hHeldR3.2.2
          clear hHeldR3
          have hT0 := blk_below (blk_below KT8.out HJ.out.1 (Nat.lt_succ_self _)) HB19.out (Nat.lt_of_succ_lt (blk_lt HJ.out.2.1))
          have qt0 := blk_cell hT0 0
          have qt1 := blk_cell hT0 1
          clear hb19
          go_wp2_with fail
          refine (HCb.out _).mono ?_
          rintro ee w20 ⟨rfl, hb20⟩
          have HB20 := Lib.hid (HB19.out.trans (hb20.mono HB19.out.size))
          have KG20 := Lib.hid (blk_below KGc.out HB20.out lGc)
          have KB20 := Lib.hid (blk_below (blk_below KB.out hb19' lB9) hb20 (Nat.lt_of_lt_of_le lB9 hb19'.size))
          have KT20 := Lib.hid (blk_below hT0 hb20 (blk_lt hT0))
          have hTc : gT ≤ wc.heap.size := Nat.le_of_lt (Nat.lt_of_succ_lt (blk_lt HJ.out.2.1))
          have hT20 : gT ≤ w20.heap.size := Nat.le_trans hTc HB20.out.size
          clear hb20 hb19' q0 q1 qt0 qt1 hT0 HCa HCb HB19 HB9 KSq
          go_upto_region 21 with fail
          go_cut [156] (fun x wz => x = .bool false ∧ Below w20.heap.size w20 wz)
          case first =>
            have q4 := blk_cell KG20.out 4
            have qb0 := blk_cell KB20.out 0
            have qb1 := blk_cell KB20.out 1
            have qt0 := blk_cell KT20.out 0
            have qt1 := blk_cell KT20.out 1
            have s1 : decide (u < 0) = false := decide_eq_false (by omega)
            have s2 : decide (v > 0) = false := decide_eq_false (by omega)
            have s3 : decide (0 < v) = false := decide_eq_false (by omega)
            have HA20 := Lib.hid (((HRd.out.below (HJ.out.1.mono (Nat.le_succ _))).below (HB20.out.mono hTc)).more hT20)
            have HAl := Lib.hid (alone_any L (some ⟨b, off, none⟩) ca k hlt w20 HO.out HA20.out (by omega))
            obtain ⟨al, hal⟩ : ∃ al, aloneTo L (L[k]).f L.length = al := ⟨_, rfl⟩
            rw [hal] at HAl
            have Hab := Lib.hid (show al = true → (kd = 1 ∨ kd = 2) → b1 = T ∧ b2 = 1 from fun h1 h2 => by
              have h3 := both_all L HO.out HR.out hl24 V hVb k hlt (by rw [Hkd.out]; exact h2) (hal.trans h1)
              rw [Hnv.out, ← HeP.out, ← HeQ.out, HBo.out, HT.out] at h3
              injection h3 with h4 h5
              exact ⟨h4, h5⟩)
            have e4 := He4.out
            clear hal
            rcases (show kd = 4 ∨ kd = 3 ∨ (kd = 1 ∨ kd = 2) by omega) with rfl | rfl | h12
            · subst e4
              go_wp2_with fail
              go_meet
              exact ⟨rfl, Below.refl _ _⟩
            · subst e4
              go_wp2_with fail
              go_meet
              exact ⟨rfl, Below.refl _ _⟩
            · have HX := Lib.hid (fun h => Hab.out h h12)
              have lB20 := blk_lt KB20.out
              have lT20 := blk_lt KT20.out
              rcases h12 with rfl | rfl
              · subst e4
                go_wp2_with fail
                refine HAl.out.mono ?_
                rintro ee w21 ⟨rfl, hb21⟩
                have qb0 := (bcell hb21 gB 0 lB20).trans qb0
                have qb1 := (bcell hb21 gB 1 lB20).trans qb1
                have qt0 := (bcell hb21 gT 0 lT20).trans qt0
                have qt1 := (bcell hb21 gT 1 lT20).trans qt1
                have Hb21 := Lib.hid hb21
                clear hb21 q4
                cases al
                · clear HX
                  go_wp2_with fail
                  go_meet
                  exact ⟨rfl, Hb21.out⟩
                · obtain ⟨hb1e, hb2e⟩ := HX.out rfl
                  subst hb1e hb2e
                  go_wp2_with fail
                  go_meet
                  exact ⟨rfl, Hb21.out⟩
              · subst e4
                go_wp2_with fail
                refine HAl.out.mono ?_
                rintro ee w21 ⟨rfl, hb21⟩
                have qb0 := (bcell hb21 gB 0 lB20).trans qb0
                have qb1 := (bcell hb21 gB 1 lB20).trans qb1
                have qt0 := (bcell hb21 gT 0 lT20).trans qt0
                have qt1 := (bcell hb21 gT 1 lT20).trans qt1
                have Hb21 := Lib.hid hb21
                clear hb21 q4
                cases al
                · clear HX
                  go_wp2_with fail
                  go_meet
                  exact ⟨rfl, Hb21.out⟩
                · obtain ⟨hb1e, hb2e⟩ := HX.out rfl
                  subst hb1e hb2e
                  go_wp2_with fail
                  go_meet
                  exact ⟨rfl, Hb21.out⟩
          case rest =>
            obtain ⟨rfl, hb22⟩ := hcut
            have HB22 := Lib.hid (HB20.out.trans (hb22.mono HB20.out.size))
            have HJ2 := Lib.hid (HJ.out.below (Nat.le_refl _) HB22.out)
            have KG22 := Lib.hid (blk_below KG20.out hb22 (blk_lt KG20.out))
            clear hb22 KG20 KB20 KT20 HB20 HB22 HJ KGc lGc KB
            rename World => Wz
            have hd := denS_bd L hl24
            have HA1 := Lib.hid (fun W => fadd_wd _ _ (nS_wd L HO.out HR.out hl24 V hVb 0 k hk) HwP.out W)
            have HA2 := Lib.hid (fun W => fadd_wd _ _ (nS_wd L HO.out HR.out hl24 V hVb 1 k hk) HwQ.out W)
            obtain ⟨sp, hsp⟩ : ∃ sp, addF (fr (nS L V 0 k) (denS L)) (p0, p1) = sp := ⟨_, rfl⟩
            obtain ⟨sq, hsq⟩ : ∃ sq, addF (fr (nS L V 1 k) (denS L)) (p2, p3) = sq := ⟨_, rfl⟩
            rw [hsp] at HA1
            rw [hsq] at HA2
            rw [HeP.out, ← Hnv.out] at hsp
            rw [HeQ.out, ← Hnv.out] at hsq
            have Hsp := Lib.hid hsp
            have Hsq := Lib.hid hsq
            unfold fV at HA1 HA2
            dsimp only at HA1 HA2
            clear hsp hsq hd
            have qa0 := blk_cell HJ2.out.2.2.1 0
            have qa1 := blk_cell HJ2.out.2.2.1 1
            have q0 := blk_cell KG22.out 0
            have q1 := blk_cell KG22.out 1
            have l16 := blk_lt HJ2.out.2.2.1
            have l17 := blk_lt HJ2.out.2.2.2
            have lG := blk_lt KG22.out
            go_wp2_with fail
            refine (HA1.out _).mono ?_
            rintro ee w23 ⟨rfl, hb23⟩
            have K16 := blk_below HJ2.out.2.2.1 hb23 l16
            have qa0 := blk_cell K16 0
            have qa1 := blk_cell K16 1
            have fa0 := blk_free K16 0
            have fa1 := blk_free K16 1
            have K17 := blk_below HJ2.out.2.2.2 hb23 l17
            have KG23 := blk_below KG22.out hb23 lG
            have Hb23 := Lib.hid hb23
            have s23 := hb23.size
            clear hb23 q0 q1 HA1
            go_upto_region 24 with fail
            obtain ⟨W23, hW23⟩ : ∃ V, ((w23.setCell ⟨g16, 0, none⟩ (.int .i64 sp.1)).setCell ⟨g16, 1, none⟩ (.int .i64 sp.2)) = V := ⟨_, rfl⟩
            have k17 : W23.heap[g16 + 1]? = some (.cells #[.int .i64 (fr (nS L V 1 k) (denS L)).1, .int .i64 (fr (nS L V 1 k) (denS L)).2] 42 (0, 0)) := by rw [← hW23]; exact blk_far (blk_far K17 (by show g16 + 1 ≠ g16; omega) _) (by show g16 + 1 ≠ g16; omega) _
            have kG : W23.heap[G]? = some (.cells #[.int .i64 p0, .int .i64 p1, .int .i64 p2, .int .i64 p3, .bool p4] 49 (0, 0)) := by rw [← hW23]; exact blk_far (blk_far KG23 (by show G ≠ g16; omega) _) (by show G ≠ g16; omega) _
            have qb0 := blk_cell k17 0
            have qb1 := blk_cell k17 1
            have q2 := blk_cell kG 2
            have q3 := blk_cell kG 3
            rw [hW23]
            have HW23 := Lib.hid hW23
            have l17b := blk_lt k17
            clear hW23 K16 K17 KG23 qa0 qa1 fa0 fa1 kG
            have K17 := Lib.hid k17
            clear k17
            go_wp2_with fail
            refine (HA2.out _).mono ?_
            rintro ee w24 ⟨rfl, hb24⟩
            have K17b := blk_below K17.out hb24 l17b
            have qb0 := blk_cell K17b 0
            have qb1 := blk_cell K17b 1
            have fb0 := blk_free K17b 0
            have fb1 := blk_free K17b 1
            have HIn := Lib.hid (HJ2.out.done hl24 (by omega) (by omega) (by omega) (by omega) (by omega) hlt sp sq Hsp.out.symm Hsq.out.symm Hb23.out (by rw [HW23.out]; exact hb24.mono (by rw [← HW23.out]; simp; omega)))
            clear hb24 q2 q3 K17b HA2
            go_wp2_with fail
            go_roundw
            case rel => exact ⟨k + 1, hlt, by go_num, HIn.out⟩
            case measure => simp [intOf]; omega
    · obtain rfl : k = L.length := by omega
      have hcn : cnt4 L L.length = _ := HC9.out
      have K15 := Lib.hid HI.out.2.1
      rw [hcn] at K15
      have k16 := HI.out.2.2.1
      have k17 := HI.out.2.2.2
      rw [Hx0.out, Hy0.out] at k16
      rw [Hx1.out, Hy1.out] at k17
      have a0 := blk_cell k16 0
      have a1 := blk_cell k16 1
      have b0 := blk_cell k17 0
      have b1 := blk_cell k17 1
      have d0 := blk_cell K15.out 0
      have d1 := blk_cell K15.out 1
      have d2 := blk_cell K15.out 2
      have d3 := blk_cell K15.out 3
      have hb8 := HI.out.1
      have e9 := blk_below K9.out hb8 (by omega)
      have e11 := blk_below K11.out hb8 (by omega)
      have e12 := blk_below K12.out hb8 (by omega)
      have f0 := blk_cell e9 0
      have f1 := blk_cell e9 1
      have f2 := blk_cell e9 2
      have f3 := blk_cell e9 3
      have g0 := blk_cell e11 0
      have g1 := blk_cell e11 1
      have h0 := blk_cell e12 0
      have h1 := blk_cell e12 1
      have HBe := Lib.hid (HB8.out.trans (hb8.mono hwT))
      have heq := eq4 n0 n1 n2 n3 n0 n1 n2 n3
      have hnn : (n0 == n0 && n1 == n1 && n2 == n2 && n3 == n3) = true := by simp
      rw [hnn] at heq
      clear k16 k17 hb8 e9 e11 e12 hcn hnn
      go_wp2_with fail
      refine (awake23 wr (HL.out.go HBe.out) (HLm.out.below HBe.out HLm.out.lt)).mono ?_
      rintro ee we ⟨rfl, hbe⟩
      go_wp2_with fail
      go_ret
      exact ⟨rfl, HBe.out.trans (hbe.mono HBe.out.size)⟩

end Go.Proofs.YtchklobblkddhaaDoor
