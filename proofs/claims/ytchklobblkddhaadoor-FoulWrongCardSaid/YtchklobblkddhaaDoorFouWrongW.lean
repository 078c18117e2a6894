/- The walk of the statement FoulWrong. -/
import Derived.Test.YtchklobblkddhaaDoorFouMadeW
import Derived.Test.YtchklobblkddhaaDoorAppend
namespace Go.Proofs.YtchklobblkddhaaDoor
open Go.RowKit Go.Shelf

theorem sp_bad (t : Int) (ht : 14 ≤ t) : (spE 4 t 0).right = false := by
  have h : resultC 4 3 0 0 t = false := by
    unfold resultC
    exact decide_eq_false (fun h => by have := h.2.2.1; omega)
  have h2 : wholeB ((spE 4 t 0).o 0) = false := by
    show (resultC 4 3 0 0 t && decide ((0 : Int) = 0)) = false
    rw [h]; rfl
  show (decide ((0 : Int) ≤ 3) && playedB (spE 4 t 0).o 0 0) = false
  unfold playedB
  rw [h2]; rfl
theorem enL_one (L : List Ent) (h : ∀ e ∈ L, e.Ok) : ∀ u ∈ enL L, u.oneCell' = true := fun u hu => by
  obtain ⟨e, he, hue⟩ := List.mem_flatMap.1 hu
  exact Array.all_eq_true_iff_forall_mem.1 (h e he).2.1 u (by simpa using hue)
theorem chk_bad (L : List Ent) (e : Ent) (he : e ∈ L) (h : e.right = false) : chkE L = 2 := by
  unfold chkE
  rw [if_neg (fun hall => by have := List.all_eq_true.1 hall e he; rw [h] at this; cases this)]
theorem chk_many (L : List Ent) (h : ∀ e ∈ L, e.right = true) (hn : 24 < L.length) : chkE L = 5 := by
  unfold chkE
  rw [if_pos (List.all_eq_true.2 h), if_pos hn]
/-- The last entry of a list and another one exchanged. -/
def swapE (L : List Ent) (e : Ent) (k : Nat) : List Ent := ((L ++ [e]).set k e).set L.length ((L ++ [e])[k]?.getD e)
theorem swapE_len (L : List Ent) (e : Ent) (k : Nat) : (swapE L e k).length = L.length + 1 := by unfold swapE; rw [List.length_set, List.length_set, List.length_append]; rfl
theorem swapE_mem (L : List Ent) (e : Ent) (k : Nat) (hk : k ≤ L.length) : e ∈ swapE L e k := by
  unfold swapE
  by_cases h : k = L.length
  · have e1 : (L ++ [e])[k]? = some e := by rw [h, List.getElem?_append_right (Nat.le_refl _), Nat.sub_self]; rfl
    rw [e1]
    exact List.mem_set (by rw [List.length_set, List.length_append]; simp) _
  · rw [List.mem_iff_getElem?]
    refine ⟨k, ?_⟩
    rw [List.getElem?_set_ne (fun e => h e.symm), List.getElem?_set_self (by rw [List.length_append]; simp; omega)]
theorem swapE_sub (L : List Ent) (e : Ent) (k : Nat) (x : Ent) (hx : x ∈ swapE L e k) : x ∈ L ∨ x = e := by
  unfold swapE at hx
  have key : ∀ y, y ∈ L ++ [e] → y ∈ L ∨ y = e := fun y hy => by
    rcases List.mem_append.1 hy with h | h
    · exact .inl h
    · exact .inr (List.mem_singleton.1 h)
  rcases List.mem_or_eq_of_mem_set hx with h | h
  · rcases List.mem_or_eq_of_mem_set h with h | h
    · exact key x h
    · exact .inr h
  · cases hg : (L ++ [e])[k]? with
    | none => rw [hg] at h; exact .inr h
    | some y => rw [hg] at h; rw [h]; exact key y (List.mem_of_getElem? hg)

theorem step_load_mid23 {P : Program} {ops : Array Oper} {op : Oper} {a : Act} {w : World} {K : Act → World → Prop} {Q : Exit → Act → World → Prop} {E : Prop} {d' : Nat} (hw : Region.wanted op (yielded ops a.tmps) = true) (hd' : op.dst = some d') (ty : TypeId) (x : Operand) (ho : op.op = .load ty x)
    (b o : Nat) (hx : a.eval x = .pointer (some ⟨b, o, none⟩)) (cs : Array Value) (d : TypeDesc) (hc : w.rangeAt b o cs.toList)
    (hu : P.underlying ty = some d) (hd : d.isRow = true) (hi : (P.info? ty).map (·.size) = some cs.size)
    (h : K (a.put (some d') (.agg cs)) w) : if Region.wanted op (yielded ops a.tmps) = true then Oper.wp P op a w K Q else E := by
  rw [if_pos hw]
  exact wp_load_mid ty x ho b o hx cs.toList d hc hu hd (by simpa using hi) (by rw [hd']; simpa using h)
theorem step_store_mid23 {P : Program} {ops : Array Oper} {op : Oper} {a : Act} {w : World} {K : Act → World → Prop} {Q : Exit → Act → World → Prop} {E : Prop} (hw : Region.wanted op (yielded ops a.tmps) = true) (hd' : op.dst = none) (ty : TypeId) (x y : Operand) (ho : op.op = .store ty x y)
    (b o : Nat) (cells : Array Value) (hx : a.eval x = .pointer (some ⟨b, o, none⟩)) (hy : a.eval y = .agg cells)
    (ht : w.there b o cells.size) (hi : (P.info? ty).map (·.size) = some cells.size) (h1 : cells.all (·.oneCell') = true)
    (h : K a (w.setCells b o cells.toList)) : if Region.wanted op (yielded ops a.tmps) = true then Oper.wp P op a w K Q else E := by
  rw [if_pos hw]
  exact wp_store_mid ty x y ho b o cells hx hy ht hi h1 (by rw [hd']; exact h)
theorem take_any23 {P : Program} {ops : Array Oper} {Q : Exit → Act → World → Prop} {md : Region.Mode} {i d : Nat} {oi : Oper} {v : Value} {fuel : Nat} {listed : Array Bool} {a : Act} {w : World} (hi : ops[i]? = some oi) (hd : oi.dst = some d)
    (hs : Region.noSelect ops = true) (hf : Region.free md ops listed i = true) (hr : (Region.ready md ops listed).contains i = true)
    (hQ : ∀ c a w, Q (.panic c) (a.put (some d) v) w → Q (.panic c) a w) (hy : Yields P ops oi v a)
    (h : wpAny P md ops Q fuel (listed.setIfInBounds i true) (a.put (some d) v) w) : wpAny P md ops Q (fuel + 1) listed a w := by
  rw [← hd] at h hQ
  exact wpAny_take hi hs hf hr hQ hy h

/-- All, Board and Demand of entries that are not right, or too many. -/
theorem bad3 (L : List Ent) (n : Nat) (hl : L.length = n) (hn : n ≤ 1000) (hO : ∀ e ∈ L, e.Ok) (E : Int) (hE : chkE L = E) (h0 : E ≠ 0) (A : Option Addr) (c : Nat) (w : World) (hA : Rd w w.heap.size 33 A n (enL L)) (hL : LaidS w) :
    (Calls Tryd.prog 10 #[.slice A n c] w fun e w' => e = .returned (.tuple #[.int .i64 0, .agg #[.int .i64 0, .int .i64 0, .int .i64 0, .int .i64 0], .int .i64 E]) ∧ Below w.heap.size w w') ∧
    (∀ vul : Int, vul ≤ 3 → Calls Tryd.prog 11 #[.slice A n c, .int .u8 vul] w fun e w' => e = .returned (.tuple #[.slice none 0 0, .int .i64 E]) ∧ Below w.heap.size w w') ∧
    (Calls Tryd.prog 12 #[.slice A n c] w fun e w' => e = .returned (.tuple #[.agg #[.int .i64 0, .int .i64 0], .agg #[.int .i64 0, .int .i64 0], .int .i64 E]) ∧ Below w.heap.size w w') := by
  subst hl hE
  exact ⟨fall_bad L A c w hO hA (by omega) hL h0, fun vul hv => fboard_bad L A c vul w hO hA (by omega) hL h0 hv, fdemand_bad L A c w hO hA (by omega) hL h0⟩
theorem vul3 (n : Nat) (A : Option Addr) (c : Nat) (vul : Int) (w : World) (hv : 3 < vul) :
    Calls Tryd.prog 11 #[.slice A n c, .int .u8 vul] w fun e w' => e = .returned (.tuple #[.slice none 0 0, .int .i64 2]) ∧ Below w.heap.size w w' := by
  have h := fboard_vul (List.replicate n awE) A c vul w hv
  rw [List.length_replicate] at h
  exact h

set_option maxRecDepth 100000 in
set_option maxHeartbeats 4000000 in
theorem fwrong_walk (S : List SmE) (A : Option Addr) (c : Nat) (at_ n : Int) (hat : 0 ≤ at_ ∧ at_ ≤ 255) (hn : -9223372036854775808 ≤ n ∧ n ≤ 9223372036854775807) (w : World) (hL : LaidS w) (hLm : Laid w) (hA : Rd w w.heap.size 14 A S.length (smL S)) (hok : ∀ x ∈ S, x.Ok) (hc : S.length ≤ c) (hm : c ≤ 9223372036854775807) :
    Calls Tryd.prog 3 #[.slice A S.length c, .int .u8 at_, .int .i64 n] w fun e w' => e = .returned (.bool true) ∧ Below w.heap.size w w' := by
  obtain ⟨i0, hi, hz0, hz1, hz2⟩ := info_parts info_entry23
  have HM := Lib.hid (fmade23 S A c w hA hok hc hm)
  have hO := madeLE_ok S hok
  have hR := madeLE_right S hok
  have hl24 : (madeLE S).length ≤ 24 := by rw [madeLE_len]; omega
  generalize madeLE S = L at HM hO hR hl24
  have HL := Lib.hid hL
  have HLm := Lib.hid hLm
  have HO := Lib.hid hO
  have HR := Lib.hid hR
  obtain ⟨t, ht⟩ : ∃ t, max n 14 = t := ⟨_, rfl⟩
  have htb : 14 ≤ t ∧ t ≤ 9223372036854775807 := by omega
  have hBO := Lib.hid (spE_ok 4 t 0 (by decide) (by omega) (by decide))
  have hBR := Lib.hid (sp_bad t htb.1)
  have HS := Lib.hid fspades23
  clear hL hLm hA hok hc hm hO hR
  go_enter Tryd.func3, Tryd.ntmps3
  go_wp2_with fail
  refine HM.out.mono ?_
  rintro ee w1 ⟨v, rfl, ho1, hb1⟩
  obtain ⟨A1, c1, rfl⟩ := own_form ho1
  have hrd1 : Rd w1 w1.heap.size 33 A1 L.length (enL L) := Rd.of_own ho1
  have hA0 : A1 = none → c1 = 0 := own_src ho1
  have HO1 := Lib.hid ho1
  have HRd1 := Lib.hid hrd1
  have HB1 := Lib.hid hb1
  have HE := Lib.hid (enL_one L HO.out)
  clear ho1 hrd1 hb1
  go_wp2_with (at_builtin; refine wpList_append_src rfl (.tmp 33) (.tmp 34) 23 rfl w1.heap.size 32 i0 (.agg enZ) 33 152 Tryd.underlying23 hi hz0 hz1 hz2 rfl (by decide) _ 0 [] rfl (own_empty _ _ _ _ rfl) A1 L.length c1 w1.heap.size (enL L) rfl (HRd1.out.alloc (Nat.le_refl _) _) hA0 HE.out ?x3 ?x4 ?x5 ?_)
  case x3 => unfold maxLen; omega
  case x4 => omega
  case x5 => simp
  intro v2 w2 hown2 hgr2 hat2
  have hb2 : Below w1.heap.size w1 w2 := ((Below.refl _ _).alloc (Nat.le_refl _) _).grown hgr2 (by simp) (fun k e => by have := (own_empty w1 32 33 _ rfl).lt k e; omega)
  have HO2 := Lib.hid hown2
  have HB2 := Lib.hid hb2
  obtain ⟨A2, c2, rfl⟩ := own_form hown2
  have hA20 : A2 = none → c2 = 0 := own_src hown2
  clear hown2 hgr2 hat2 hb2
  go_wp2_with fail
  refine (HS.out 4 _ 0 _).mono ?_
  rintro ee w3 ⟨rfl, hb3⟩
  have HO3 := Lib.hid (own_below HO2.out hb3 (Nat.le_refl _))
  have HB3 := Lib.hid (HB2.out.trans (hb3.mono HB2.out.size))
  have hs3 : w1.heap.size ≤ w3.heap.size := Nat.le_trans HB2.out.size hb3.size
  clear hb3 HO2 HB2
  have HCs := Lib.hid (show (spE 4 t 0).C.size = 33 from rfl)
  have HFi := Lib.hid (fills_one (size := 33) (Z := enZ) (C := (spE 4 t 0).C) HCs.out)
  have HCl := Lib.hid (show (spE 4 t 0).C.toList.length = 33 by simp [HCs.out])
  have HCo := Lib.hid (show ∀ u ∈ (spE 4 t 0).C.toList, u.oneCell' = true from fun u hu => Array.all_eq_true_iff_forall_mem.1 hBO.out.2.1 u (by simpa using hu))
  have HL2 := Lib.hid (show enL (L ++ [spE 4 t 0]) = enL L ++ (spE 4 t 0).C.toList by rw [enL_app]; congr 1)
  obtain ⟨cs, hcs⟩ : ∃ C, (spE 4 t 0).C = C := ⟨_, rfl⟩
  have HCse := Lib.hid hcs
  rw [hcs] at HCs HFi HCl HCo HL2 ⊢
  clear hcs
  go_wp2_with (first | (refine wpList_buildSlice_to rfl 23 32 1 _ rfl i0 (.agg enZ) 33 cs Tryd.underlying23 hi hz0 hz1 (by decide) (by decide) ?hf ?_) | (at_builtin; refine wpList_append_lies _ (by rfl) (.tmp 35) (.tmp 39) 23 (by rfl) w1.heap.size 32 i0 (.agg enZ) 33 152 Tryd.underlying23 hi hz0 hz1 hz2 rfl (by decide) (.slice A2 L.length c2) L.length (enL L) (by rfl) ?b1 ⟨w3.heap.size, 0, none⟩ 1 1 cs.toList (by rfl) ?b0 ?b2 HCo.out (by decide) ?b4 ?b5 ?b6 (w3.heap.size + 1) ?b7 ?_))
  case hf => exact HFi.out
  case b0 => rw [HCl.out]
  case b1 => exact HO3.out.alloc _
  case b2 => exact World.news_of_block (blk_new _ rfl)
  case b4 => unfold maxLen; omega
  case b5 => omega
  case b6 => simp; omega
  case b7 => simp
  intro gb cap4 w4 hown4 hgr4 hat4 hlt4
  have hb4 := below_grown23 (HO3.out.alloc _) hgr4 (by simp; omega)
  have hb14 : Below w1.heap.size w1 w4 := ((HB3.out.alloc hs3 _).trans hb4)
  have HLB := Lib.hid (show w4.ownsRow w1.heap.size 32 33 (.slice (some ⟨gb, 0, none⟩) (L.length + 1) cap4) (L.length + 1) (enL (L ++ [spE 4 t 0])) by rw [HL2.out]; exact hown4)
  have hgb1 : w1.heap.size ≤ gb := (hown4.lt gb rfl).1
  have HB4 := Lib.hid hb14
  clear hown4 hgr4 hat4 hlt4 hb4 hb14 HO3 HB3 hs3 HFi HCl HCo HL2
  obtain ⟨k, hk⟩ : ∃ k : Nat, at_ % ((L.length : Int) + 1) = (k : Int) := ⟨(at_ % ((L.length : Int) + 1)).toNat, by have := Int.emod_nonneg at_ (show (L.length : Int) + 1 ≠ 0 by omega); omega⟩
  have hkl : k ≤ L.length := by have := Int.emod_lt_of_pos at_ (show (0 : Int) < (L.length : Int) + 1 by omega); omega
  have hzb : ((L.length : Int) + 1 == 0) = false := beq_eq_false_iff_ne.2 (by omega)
  have hzn : ¬ (L.length : Int) + 1 = 0 := by omega
  go_upto_region 4 with fail
  rw [hk]
  have Hk := Lib.hid hk
  clear hk hzb hzn
  have hSz : ∀ e ∈ L ++ [spE 4 t 0], e.C.size = 33 := fun e he => by
    rcases List.mem_append.1 he with h | h
    · exact (HO.out e h).1.1
    · rw [List.mem_singleton.1 h]; rfl
  have hlB : (L ++ [spE 4 t 0]).length = L.length + 1 := by rw [List.length_append]; rfl
  have hrB : Rd w4 w4.heap.size 33 (some ⟨gb, 0, none⟩) (L ++ [spE 4 t 0]).length (enL (L ++ [spE 4 t 0])) := by rw [hlB]; exact Rd.of_own HLB.out
  have hkB : k < (L ++ [spE 4 t 0]).length := by omega
  have hmB : L.length < (L ++ [spE 4 t 0]).length := by omega
  have hrk := ranges_of_rd hSz hrB k hkB
  have hrm := ranges_of_rd hSz hrB L.length hmB
  have hem : (L ++ [spE 4 t 0])[L.length] = spE 4 t 0 := by rw [List.getElem_append_right (Nat.le_refl _)]; simp
  rw [hem, Nat.zero_add, HCse.out] at hrm
  rw [Nat.zero_add] at hrk
  obtain ⟨ek, hek⟩ : ∃ x, (L ++ [spE 4 t 0])[k] = x := ⟨_, rfl⟩
  have hekO : ek.Ok := by
    rw [← hek]
    rcases List.mem_append.1 (List.getElem_mem hkB) with h | h
    · exact HO.out _ h
    · rw [List.mem_singleton.1 h]; exact hBO.out
  rw [hek] at hrk
  have hsw : swapE L (spE 4 t 0) k = ((L ++ [spE 4 t 0]).set k (spE 4 t 0)).set L.length ek := by
    unfold swapE
    rw [List.getElem?_eq_getElem hkB, hek]; rfl
  have hth : ∀ j, j ≤ L.length → w4.there gb (j * 33) 33 := fun j hj => by
    rcases HLB.out.2 with ⟨_, h⟩ | ⟨g, cap, cur, hv, _, hh, hnc, _, hcs, _⟩
    · omega
    · injection hv with h1
      injection h1 with h1
      injection h1 with h1
      subst h1
      exact there_of_blk hh _ _ (by rw [hcs]; omega)
  have Hth := Lib.hid hth
  have HRk := Lib.hid hrk
  have HRm := Lib.hid hrm
  have HRB := Lib.hid hrB
  have HSz := Lib.hid hSz
  have HSw := Lib.hid hsw
  have HEk := Lib.hid hekO
  clear hth hrk hrm hrB hSz hsw hek hem hekO hkB hmB
  have hw1 : IntKind.i64.wrap (L.length : Int) = (L.length : Int) := IntWalk.i64_in _ (by omega)
  have m0 : (0 : Int) ≤ (k : Int) := by omega
  have m1 : (k : Int) < (L.length : Int) + 1 := by omega
  have m2 : (0 : Int) ≤ (L.length : Int) := by omega
  have m3 : (L.length : Int) < (L.length : Int) + 1 := by omega
  have hpost : Rd ((w4.drew.setCells gb (k * 33) cs.toList).setCells gb (L.length * 33) ek.C.toList) ((w4.drew.setCells gb (k * 33) cs.toList).setCells gb (L.length * 33) ek.C.toList).heap.size 33 (some ⟨gb, 0, none⟩) (L.length + 1) (enL (swapE L (spE 4 t 0) k)) ∧ Below w1.heap.size w1 ((w4.drew.setCells gb (k * 33) cs.toList).setCells gb (L.length * 33) ek.C.toList) := by
    refine ⟨?_, below_setCells23 hgb1 _ _ _ (below_setCells23 hgb1 _ _ _ HB4.out.drew)⟩
    rw [size_setCells23, size_setCells23, HSw.out]
    have h1 := rd_store (w := w4.drew) (e := spE 4 t 0) HSz.out rfl HRB.out (by omega : k < (L ++ [spE 4 t 0]).length) (Hth.out k hkl)
    rw [HCse.out] at h1
    have hs2 : ∀ e ∈ (L ++ [spE 4 t 0]).set k (spE 4 t 0), e.C.size = 33 := fun e he => by
      rcases List.mem_or_eq_of_mem_set he with h | h
      · exact HSz.out e h
      · rw [h]; rfl
    have hl2 : ((L ++ [spE 4 t 0]).set k (spE 4 t 0)).length = L.length + 1 := by rw [List.length_set]; exact hlB
    rw [← List.length_set (i := k) (a := spE 4 t 0)] at h1
    have h2 := rd_store (e := ek) hs2 HEk.out.1.1 h1 (by omega : L.length < ((L ++ [spE 4 t 0]).set k (spE 4 t 0)).length) (World.there_setCells (w := w4.drew) (Hth.out L.length (Nat.le_refl _)) _ _ _)
    rw [hl2] at h2
    exact h2
  have HPost := Lib.hid hpost
  clear hpost
  go_cut [46] (fun _ wz => Rd wz wz.heap.size 33 (some ⟨gb, 0, none⟩) (L.length + 1) (enL (swapE L (spE 4 t 0) k)) ∧ Below w1.heap.size w1 wz)
  case first =>
    refine wp_region_any (by kernel_rfl) ?_
    change wpAny _ _ _ _ _ _ _ (World.drew _)
    refine take_any23 (i := 0) (d := 46) (v := ?va0) rfl (by kernel_rfl) (by kernel_rfl) (by kernel_rfl) (by kernel_rfl) (fun _ _ _ h => h) (Or.inl ⟨by kernel_rfl, ?ya0⟩) ?_
    case ya0 => intro wq; go_simp; (try with_reducible rfl)
    (try simp only [Act.put, List.setIfInBounds_toArray, List.set_cons_zero, List.set_cons_succ])
    refine take_any23 (i := 1) (d := 47) (v := ?va1) rfl (by kernel_rfl) (by kernel_rfl) (by kernel_rfl) (by kernel_rfl) (fun _ _ _ h => h) (Or.inl ⟨by kernel_rfl, ?ya1⟩) ?_
    case ya1 => intro wq; go_simp; (try with_reducible rfl)
    (try simp only [Act.put, List.setIfInBounds_toArray, List.set_cons_zero, List.set_cons_succ])
    refine take_any23 (i := 2) (d := 48) (v := ?va2) rfl (by kernel_rfl) (by kernel_rfl) (by kernel_rfl) (by kernel_rfl) (fun _ _ _ h => h) (Or.inl ⟨by kernel_rfl, ?ya2⟩) ?_
    case ya2 => intro wq; go_simp; (try with_reducible rfl)
    (try simp only [Act.put, List.setIfInBounds_toArray, List.set_cons_zero, List.set_cons_succ])
    refine take_any23 (i := 3) (d := 49) (v := ?va3) rfl (by kernel_rfl) (by kernel_rfl) (by kernel_rfl) (by kernel_rfl) (fun _ _ _ h => h) (Or.inl ⟨by kernel_rfl, ?ya3⟩) ?_
    case ya3 => intro wq; go_simp; (try with_reducible rfl)
    (try simp only [Act.put, List.setIfInBounds_toArray, List.set_cons_zero, List.set_cons_succ])
    refine take_any23 (i := 4) (d := 50) (v := ?va4) rfl (by kernel_rfl) (by kernel_rfl) (by kernel_rfl) (by kernel_rfl) (fun _ _ _ h => h) (Or.inl ⟨by kernel_rfl, ?ya4⟩) ?_
    case ya4 => intro wq; go_simp; (try with_reducible rfl)
    (try simp only [Act.put, List.setIfInBounds_toArray, List.set_cons_zero, List.set_cons_succ])
    refine take_any23 (i := 5) (d := 51) (v := ?va5) rfl (by kernel_rfl) (by kernel_rfl) (by kernel_rfl) (by kernel_rfl) (fun _ _ _ h => h) (Or.inl ⟨by kernel_rfl, ?ya5⟩) ?_
    case ya5 => intro wq; go_simp; (try with_reducible rfl)
    (try simp only [Act.put, List.setIfInBounds_toArray, List.set_cons_zero, List.set_cons_succ])
    refine take_any23 (i := 6) (d := 52) (v := ?va6) rfl (by kernel_rfl) (by kernel_rfl) (by kernel_rfl) (by kernel_rfl) (fun _ _ _ h => h) (Or.inl ⟨by kernel_rfl, ?ya6⟩) ?_
    case ya6 => intro wq; go_simp; (try with_reducible rfl)
    (try simp only [Act.put, List.setIfInBounds_toArray, List.set_cons_zero, List.set_cons_succ])
    refine take_any23 (i := 7) (d := 53) (v := ?va7) rfl (by kernel_rfl) (by kernel_rfl) (by kernel_rfl) (by kernel_rfl) (fun _ _ _ h => h) (Or.inl ⟨by kernel_rfl, ?ya7⟩) ?_
    case ya7 => intro wq; go_simp; (try with_reducible rfl)
    (try simp only [Act.put, List.setIfInBounds_toArray, List.set_cons_zero, List.set_cons_succ])
    refine take_any23 (i := 8) (d := 54) (v := ?va8) rfl (by kernel_rfl) (by kernel_rfl) (by kernel_rfl) (by kernel_rfl) (fun _ _ _ h => h) (Or.inl ⟨by kernel_rfl, ?ya8⟩) ?_
    case ya8 => intro wq; go_simp; (try with_reducible rfl)
    (try simp only [Act.put, List.setIfInBounds_toArray, List.set_cons_zero, List.set_cons_succ])
    refine take_any23 (i := 9) (d := 55) (v := ?va9) rfl (by kernel_rfl) (by kernel_rfl) (by kernel_rfl) (by kernel_rfl) (fun _ _ _ h => h) (Or.inl ⟨by kernel_rfl, ?ya9⟩) ?_
    case ya9 => intro wq; go_simp; (try with_reducible rfl)
    (try simp only [Act.put, List.setIfInBounds_toArray, List.set_cons_zero, List.set_cons_succ])
    refine take_any23 (i := 10) (d := 56) (v := ?va10) rfl (by kernel_rfl) (by kernel_rfl) (by kernel_rfl) (by kernel_rfl) (fun _ _ _ h => h) (Or.inl ⟨by kernel_rfl, ?ya10⟩) ?_
    case ya10 => intro wq; go_simp; (try with_reducible rfl)
    (try simp only [Act.put, List.setIfInBounds_toArray, List.set_cons_zero, List.set_cons_succ])
    refine take_any23 (i := 12) (d := 58) (v := ?va12) rfl (by kernel_rfl) (by kernel_rfl) (by kernel_rfl) (by kernel_rfl) (fun _ _ _ h => h) (Or.inl ⟨by kernel_rfl, ?ya12⟩) ?_
    case ya12 => intro wq; go_simp; (try with_reducible rfl)
    (try simp only [Act.put, List.setIfInBounds_toArray, List.set_cons_zero, List.set_cons_succ])
    refine take_any23 (i := 13) (d := 59) (v := ?va13) rfl (by kernel_rfl) (by kernel_rfl) (by kernel_rfl) (by kernel_rfl) (fun _ _ _ h => h) (Or.inl ⟨by kernel_rfl, ?ya13⟩) ?_
    case ya13 => intro wq; go_simp; (try with_reducible rfl)
    (try simp only [Act.put, List.setIfInBounds_toArray, List.set_cons_zero, List.set_cons_succ])
    refine take_any23 (i := 14) (d := 60) (v := ?va14) rfl (by kernel_rfl) (by kernel_rfl) (by kernel_rfl) (by kernel_rfl) (fun _ _ _ h => h) (Or.inl ⟨by kernel_rfl, ?ya14⟩) ?_
    case ya14 => intro wq; go_simp; (try with_reducible rfl)
    (try simp only [Act.put, List.setIfInBounds_toArray, List.set_cons_zero, List.set_cons_succ])
    have HCi2 := Lib.hid (show (Tryd.prog.info? 32).map (·.size) = some cs.size by rw [HCs.out]; exact info_entry)
    have HCn := Lib.hid (show cs.all (·.oneCell') = true by rw [← HCse.out]; exact hBO.out.2.1)
    have HEi2 := Lib.hid HEk.out.1.size
    refine wpAny_ready (rs := [11, 15]) (by kernel_rfl) (by simp) ?_
    refine AllReady.cons rfl (fun K hK => ?_) (AllReady.cons rfl (fun K hK => ?_) AllReady.nil)
    · skip
      refine step_load_mid23 (d' := 57) (by kernel_rfl) rfl 32 (.tmp 56) rfl gb (L.length * 33) rfl cs _ (show World.rangeAt (World.drew w4) gb (L.length * 33) cs.toList from HRm.out) Tryd.underlying32 rfl HCi2.out ?_
      refine hK _ _ ?_
      clear hK K
      (try simp only [Act.put, List.setIfInBounds_toArray, List.set_cons_zero, List.set_cons_succ])
      refine wpAny_ready (rs := [15]) (by kernel_rfl) (by simp) ?_
      refine AllReady.cons rfl (fun K hK => ?_) AllReady.nil
      refine step_load_mid23 (d' := 61) (by kernel_rfl) rfl 32 (.tmp 60) rfl gb (k * 33) rfl ek.C _ (show World.rangeAt (World.drew w4) gb (k * 33) ek.C.toList from HRk.out) Tryd.underlying32 rfl HEi2.out ?_
      refine hK _ _ ?_
      clear hK K
      (try simp only [Act.put, List.setIfInBounds_toArray, List.set_cons_zero, List.set_cons_succ])
      refine take_any23 (i := 16) (d := 62) (v := ?vb16) rfl (by kernel_rfl) (by kernel_rfl) (by kernel_rfl) (by kernel_rfl) (fun _ _ _ h => h) (Or.inl ⟨by kernel_rfl, ?yb16⟩) ?_
      case yb16 => intro wq; go_simp; (try with_reducible rfl)
      (try simp only [Act.put, List.setIfInBounds_toArray, List.set_cons_zero, List.set_cons_succ])
      refine wpAny_ready (rs := [17]) (by kernel_rfl) (by simp) ?_
      refine AllReady.cons rfl (fun K hK => ?_) AllReady.nil
      refine step_store_mid23 (by kernel_rfl) rfl 32 (.tmp 62) (.tmp 57) rfl gb (k * 33) cs rfl rfl (by rw [HCs.out]; exact Hth.out k hkl) HCi2.out HCn.out ?_
      refine hK _ _ ?_
      clear hK K
      (try simp only [Act.put, List.setIfInBounds_toArray, List.set_cons_zero, List.set_cons_succ])
      refine take_any23 (i := 18) (d := 63) (v := ?vb18) rfl (by kernel_rfl) (by kernel_rfl) (by kernel_rfl) (by kernel_rfl) (fun _ _ _ h => h) (Or.inl ⟨by kernel_rfl, ?yb18⟩) ?_
      case yb18 => intro wq; go_simp; (try with_reducible rfl)
      (try simp only [Act.put, List.setIfInBounds_toArray, List.set_cons_zero, List.set_cons_succ])
      refine wpAny_ready (rs := [19]) (by kernel_rfl) (by simp) ?_
      refine AllReady.cons rfl (fun K hK => ?_) AllReady.nil
      refine step_store_mid23 (by kernel_rfl) rfl 32 (.tmp 63) (.tmp 61) rfl gb (L.length * 33) ek.C rfl rfl (by rw [HEk.out.1.1]; exact World.there_setCells (w := w4.drew) (Hth.out L.length (Nat.le_refl _)) _ _ _) HEi2.out HEk.out.2.1 ?_
      refine hK _ _ ?_
      clear hK K
      (try simp only [Act.put, List.setIfInBounds_toArray, List.set_cons_zero, List.set_cons_succ])
      refine wpAny_done (by kernel_rfl) ?_ _
      go_wp2_with fail
      go_meet
      exact HPost.out
    · skip
      refine step_load_mid23 (d' := 61) (by kernel_rfl) rfl 32 (.tmp 60) rfl gb (k * 33) rfl ek.C _ (show World.rangeAt (World.drew w4) gb (k * 33) ek.C.toList from HRk.out) Tryd.underlying32 rfl HEi2.out ?_
      refine hK _ _ ?_
      clear hK K
      (try simp only [Act.put, List.setIfInBounds_toArray, List.set_cons_zero, List.set_cons_succ])
      refine wpAny_ready (rs := [11]) (by kernel_rfl) (by simp) ?_
      refine AllReady.cons rfl (fun K hK => ?_) AllReady.nil
      refine step_load_mid23 (d' := 57) (by kernel_rfl) rfl 32 (.tmp 56) rfl gb (L.length * 33) rfl cs _ (show World.rangeAt (World.drew w4) gb (L.length * 33) cs.toList from HRm.out) Tryd.underlying32 rfl HCi2.out ?_
      refine hK _ _ ?_
      clear hK K
      (try simp only [Act.put, List.setIfInBounds_toArray, List.set_cons_zero, List.set_cons_succ])
      refine take_any23 (i := 16) (d := 62) (v := ?vc16) rfl (by kernel_rfl) (by kernel_rfl) (by kernel_rfl) (by kernel_rfl) (fun _ _ _ h => h) (Or.inl ⟨by kernel_rfl, ?yc16⟩) ?_
      case yc16 => intro wq; go_simp; (try with_reducible rfl)
      (try simp only [Act.put, List.setIfInBounds_toArray, List.set_cons_zero, List.set_cons_succ])
      refine wpAny_ready (rs := [17]) (by kernel_rfl) (by simp) ?_
      refine AllReady.cons rfl (fun K hK => ?_) AllReady.nil
      refine step_store_mid23 (by kernel_rfl) rfl 32 (.tmp 62) (.tmp 57) rfl gb (k * 33) cs rfl rfl (by rw [HCs.out]; exact Hth.out k hkl) HCi2.out HCn.out ?_
      refine hK _ _ ?_
      clear hK K
      (try simp only [Act.put, List.setIfInBounds_toArray, List.set_cons_zero, List.set_cons_succ])
      refine take_any23 (i := 18) (d := 63) (v := ?vc18) rfl (by kernel_rfl) (by kernel_rfl) (by kernel_rfl) (by kernel_rfl) (fun _ _ _ h => h) (Or.inl ⟨by kernel_rfl, ?yc18⟩) ?_
      case yc18 => intro wq; go_simp; (try with_reducible rfl)
      (try simp only [Act.put, List.setIfInBounds_toArray, List.set_cons_zero, List.set_cons_succ])
      refine wpAny_ready (rs := [19]) (by kernel_rfl) (by simp) ?_
      refine AllReady.cons rfl (fun K hK => ?_) AllReady.nil
      refine step_store_mid23 (by kernel_rfl) rfl 32 (.tmp 63) (.tmp 61) rfl gb (L.length * 33) ek.C rfl rfl (by rw [HEk.out.1.1]; exact World.there_setCells (w := w4.drew) (Hth.out L.length (Nat.le_refl _)) _ _ _) HEi2.out HEk.out.2.1 ?_
      refine hK _ _ ?_
      clear hK K
      (try simp only [Act.put, List.setIfInBounds_toArray, List.set_cons_zero, List.set_cons_succ])
      refine wpAny_done (by kernel_rfl) ?_ _
      go_wp2_with fail
      go_meet
      exact HPost.out
  case rest =>
    obtain ⟨hr5, hb5⟩ := hcut
    rename World => w5
    have HBw := Lib.hid (show Below w.heap.size w w5 from below_via HB1.out hb5)
    have HR5 := Lib.hid hr5
    have HO5 := Lib.hid (show ∀ e ∈ swapE L (spE 4 t 0) k, e.Ok from fun e he => by
      rcases swapE_sub L _ k e he with h | h
      · exact HO.out e h
      · rw [h]; exact hBO.out)
    have HX := Lib.hid (fun W h1 h2 => bad3 (swapE L (spE 4 t 0) k) (L.length + 1) (swapE_len _ _ _) (by omega) HO5.out 2 (chk_bad _ _ (swapE_mem L _ k hkl) hBR.out) (by decide) (some ⟨gb, 0, none⟩) cap4 W h1 h2)
    clear hr5 hb5 HPost HRk HRm HRB HSz HSw HEk Hth
    go_wp2_with fail
    refine (HX.out w5 HR5.out (HL.out.go HBw.out)).1.mono ?_
    rintro ee w6 ⟨rfl, hb6⟩
    have HR6 := Lib.hid (HR5.out.go hb6)
    have HB6 := Lib.hid (below_via HBw.out hb6)
    clear hb6
    go_wp2_with fail
    refine ((HX.out _ (HR6.out.go ((Below.refl _ _).alloc (Nat.le_refl _) _)) (HL.out.go (HB6.out.alloc HB6.out.size _))).2.1 0 (by decide)).mono ?_
    rintro ee w7 ⟨rfl, hb7⟩
    have HR7 := Lib.hid ((HR6.out.go ((Below.refl _ _).alloc (Nat.le_refl _) _)).go hb7)
    have HB7 := Lib.hid (below_via (HB6.out.alloc HB6.out.size _) hb7)
    clear hb7 HR6 HB6
    go_wp2_with fail
    refine ((HX.out w7 HR7.out (HL.out.go HB7.out)).2.2).mono ?_
    rintro ee w8 ⟨rfl, hb8⟩
    have HB8 := Lib.hid (below_via HB7.out hb8)
    clear hb8 HR7 HB7 HX
    have hm200 : at_ % 200 ≤ 199 ∧ 0 ≤ at_ % 200 := by omega
    have hw4 : IntKind.u8.wrap (4 + at_ % 200) = 4 + at_ % 200 := by unfold IntKind.wrap; simp [IntKind.signed, IntKind.bits]; omega
    go_wp2_with fail
    refine (vul3 L.length A1 c1 (4 + at_ % 200) _ (by omega)).mono ?_
    rintro ee w9 ⟨rfl, hb9⟩
    have HB9 := Lib.hid (below_via ((HB8.out.alloc HB8.out.size _).alloc (by simp; exact Nat.le_succ_of_le HB8.out.size) _) hb9)
    clear hb9 HB8 hm200 hw4
    have H10 := Lib.hid (spE_ok 4 10 0 (by decide) (by decide) (by decide))
    have HR10 := Lib.hid (show (spE 4 10 0).right = true from by decide)
    go_wp2_with fail
    go_loopw [20, 89] (fun v i wr => ∃ (j : Nat), j ≤ 25 ∧ i = .int .i64 (j : Int) ∧ wr.ownsRow w9.heap.size 32 33 v j (enL (List.replicate j (spE 4 10 0))) ∧ Below w9.heap.size w9 wr) (fun _ i _ => 25 - (intOf i).toNat)
    case atStart => exact ⟨0, Nat.zero_le _, rfl, own_nil, Below.refl _ _⟩
    case round =>
      obtain ⟨j, hj, rfl, hown, hbel⟩ := hrel
      have Hown := Lib.hid hown
      have Hbel := Lib.hid hbel
      obtain ⟨Av, cv, rfl⟩ := own_form hown
      have hsr := hbel.size
      clear hown hbel
      by_cases hlt : j < 25
      · have HCs := Lib.hid (show (spE 4 10 0).C.size = 33 from rfl)
        have HFi := Lib.hid (fills_one (size := 33) (Z := enZ) (C := (spE 4 10 0).C) HCs.out)
        have HCl := Lib.hid (show (spE 4 10 0).C.toList.length = 33 by simp [HCs.out])
        have HCo := Lib.hid (show ∀ u ∈ (spE 4 10 0).C.toList, u.oneCell' = true from fun u hu => Array.all_eq_true_iff_forall_mem.1 H10.out.2.1 u (by simpa using hu))
        have HSu := Lib.hid (show enL (List.replicate (j + 1) (spE 4 10 0)) = enL (List.replicate j (spE 4 10 0)) ++ (spE 4 10 0).C.toList by rw [List.replicate_succ', enL_app]; congr 1)
        have HSp := Lib.hid (fun W => HS.out 4 10 0 W)
        have c1 : (0 : Int) ≤ (j : Int) := by omega
        have c2 : (j : Int) < 25 := by omega
        generalize hcm : (spE 4 10 0).C = cm at HSp HSu HFi HCo HCl
        clear hcm HCs
        go_wp2_with fail
        refine (HSp.out _).mono ?_
        rintro ee wa ⟨rfl, hba⟩
        have HOa := Lib.hid (own_below Hown.out hba (Nat.le_refl _))
        have HBa := Lib.hid (below_via Hbel.out hba)
        have hsa : w9.heap.size ≤ wa.heap.size := Nat.le_trans Hbel.out.size hba.size
        clear hba Hown Hbel
        go_wp2_with (first | (refine wpList_buildSlice_to rfl 23 32 1 _ rfl i0 (.agg enZ) 33 cm Tryd.underlying23 hi hz0 hz1 (by decide) (by decide) ?hf ?_) | (at_builtin; refine wpList_append_lies _ (by rfl) (.tmp 91) (.tmp 93) 23 (by rfl) w9.heap.size 32 i0 (.agg enZ) 33 152 Tryd.underlying23 hi hz0 hz1 hz2 rfl (by decide) (.slice Av j cv) j (enL (List.replicate j (spE 4 10 0))) (by rfl) ?g1 ⟨wa.heap.size, 0, none⟩ 1 1 cm.toList (by rfl) ?g0 ?g2 HCo.out (by decide) ?g4 ?g5 ?g6 (wa.heap.size + 1) ?g7 ?_))
        case hf => exact HFi.out
        case g0 => rw [HCl.out]
        case g1 => exact HOa.out.alloc _
        case g2 => exact World.news_of_block (blk_new _ rfl)
        case g4 => unfold maxLen; omega
        case g5 => omega
        case g6 => simp; omega
        case g7 => simp
        intro g5 cap5 wb hownb hgrb hatb hltb
        have hbb := below_grown23 (HOa.out.alloc _) hgrb (by simp; omega)
        have HBb := Lib.hid ((HBa.out.alloc hsa _).trans hbb)
        have HOb := Lib.hid (show wb.ownsRow w9.heap.size 32 33 (.slice (some ⟨g5, 0, none⟩) (j + 1) cap5) (j + 1) (enL (List.replicate (j + 1) (spE 4 10 0))) by rw [HSu.out]; exact hownb)
        clear hownb hgrb hatb hltb hbb
        go_wp2
        go_roundw
        case rel => exact ⟨j + 1, hlt, by go_num, HOb.out, HBb.out⟩
        case measure => simp [intOf]; omega
      · obtain rfl : j = 25 := by omega
        have HOm := Lib.hid (show ∀ e ∈ List.replicate 25 (spE 4 10 0), e.Ok from fun e he => by rw [List.eq_of_mem_replicate he]; exact H10.out)
        have HRm := Lib.hid (show ∀ e ∈ List.replicate 25 (spE 4 10 0), e.right = true from fun e he => by rw [List.eq_of_mem_replicate he]; exact HR10.out)
        have HLe := Lib.hid (show (List.replicate 25 (spE 4 10 0)).length = 25 from List.length_replicate)
        have HRd := Lib.hid (show Rd wr wr.heap.size 33 Av 25 (enL (List.replicate 25 (spE 4 10 0))) from Rd.of_own Hown.out)
        have HBr := Lib.hid (below_via HB9.out Hbel.out)
        clear Hown Hbel
        generalize List.replicate 25 (spE 4 10 0) = M at HOm HRm HLe HRd
        have HX := Lib.hid (fun W h1 h2 => bad3 M 25 HLe.out (by decide) HOm.out 5 (chk_many M HRm.out (by rw [HLe.out]; decide)) (by decide) Av cv W h1 h2)
        have HAw := Lib.hid awake23
        go_wp2_with fail
        refine (HX.out wr HRd.out (HL.out.go HBr.out)).1.mono ?_
        rintro ee wc ⟨rfl, hbc⟩
        have HRc := Lib.hid (HRd.out.go hbc)
        have HBc := Lib.hid (below_via HBr.out hbc)
        clear hbc HRd HBr
        go_wp2_with fail
        refine ((HX.out _ (HRc.out.go ((Below.refl _ _).alloc (Nat.le_refl _) _)) (HL.out.go (HBc.out.alloc HBc.out.size _))).2.1 0 (by decide)).mono ?_
        rintro ee wd ⟨rfl, hbd⟩
        have HRd := Lib.hid ((HRc.out.go ((Below.refl _ _).alloc (Nat.le_refl _) _)).go hbd)
        have HBd := Lib.hid (below_via (HBc.out.alloc HBc.out.size _) hbd)
        clear hbd HRc HBc
        go_wp2_with fail
        refine ((HX.out wd HRd.out (HL.out.go HBd.out)).2.2).mono ?_
        rintro ee we ⟨rfl, hbe⟩
        have HBe := Lib.hid (below_via HBd.out hbe)
        clear hbe HRd HBd HX
        go_wp2_with fail
        refine (vul3 25 Av cv 4 _ (by decide)).mono ?_
        rintro ee wf ⟨rfl, hbf⟩
        have HBf := Lib.hid (below_via ((HBe.out.alloc HBe.out.size _).alloc (by simp; exact Nat.le_succ_of_le HBe.out.size) _) hbf)
        clear hbf HBe
        go_wp2_with fail
        refine (HAw.out wf (HL.out.go HBf.out) (HLm.out.below HBf.out HLm.out.lt)).mono ?_
        rintro ee wg ⟨rfl, hbg⟩
        have HBg := Lib.hid (below_via HBf.out hbg)
        clear hbg HBf
        go_wp2
        go_ret
        exact ⟨rfl, HBg.out⟩

end Go.Proofs.YtchklobblkddhaaDoor
