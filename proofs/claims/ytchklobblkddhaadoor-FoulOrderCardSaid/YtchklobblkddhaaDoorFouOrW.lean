/- The walk of the statement FoulOrder. -/
import Derived.Test.YtchklobblkddhaaDoorFouMadeW
import Derived.Test.YtchklobblkddhaaDoorFouOrL
import Derived.Test.YtchklobblkddhaaDoorFouRow
import Derived.Deep.AppendLies
namespace Go.Proofs.YtchklobblkddhaaDoor
open Go.RowKit Go.Shelf

/-- append onto a row of the call's own, as a step of a region that draws: the sum is not empty. -/
theorem step_append_any23 {P : Program} {w : World} {ops : Array Oper} {o : Oper} {a : Act} {K : Act → World → Prop} {Q : Exit → Act → World → Prop} {E : Prop} (hgd : o.guard = none) (s x : Operand) (t : TypeId)
    (ho : o.op = .call { callee := .builtin .append, args := #[s, x], argTypes := #[t, t] })
    (base : Nat) (e : TypeId) (i : TypeInfo) (z : Value) (size bytes : Nat) (ht : P.underlying t = some (.slice e)) (hi : P.info? e = some i) (hz : i.zero = some z)
    (hsize : i.size = size) (hby : i.bytes = bytes) (hzs : z.cells.size = size) (hsz : 0 < size)
    (v : Value) (n : Nat) (xs : List Value) (hs : a.eval s = v) (hown : w.ownsRow base e size v n xs)
    (ad : Addr) (m c : Nat) (news : List Value) (hx : a.eval x = .slice (some ad) m c) (hl : news.length = m * size) (hnews : ∀ j u, news[j]? = some u → w.cell? (ad.add j) = some u) (h1 : ∀ u ∈ news, u.oneCell' = true)
    (hm : 0 < n + m) (h63 : n + m ≤ maxLen) (hbytes : (n + m) * bytes ≤ 140737488355328) (hbase : base ≤ w.heap.size)
    (h : ∀ g cap w', w'.ownsRow base e size (.slice (some ⟨g, 0, none⟩) (n + m) cap) (n + m) (xs ++ news) → w.grownBy w' v.ownBlock → K (a.put o.dst (.slice (some ⟨g, 0, none⟩) (n + m) cap)) w') :
    if Region.wanted o (yielded ops a.tmps) = true then Oper.wp P o a w K Q else E := by
  have hw : Region.wanted o (yielded ops a.tmps) = true := by simp [Region.wanted, hgd]
  rw [if_pos hw]
  obtain ⟨v', w', hr, h2, h3, -, -⟩ := run_append_own_at (P := P) w base t o.type e i z size bytes ht hi hz hsize hby hzs hsz v n xs hown ad m c news hl hnews h1 h63 hbytes hbase
  obtain ⟨g, cap, rfl, -, -⟩ := h2.form hm
  unfold Oper.wp execOp
  simp only [ho, resolve, invoke, builtin, Sem.run_bind, Sem.run_pure, Result.andThen_ok, List.map_toArray, List.map_cons, List.map_nil, hs, hx, hr]
  exact h g cap w' h2 h3
theorem add_at23 (b o j : Nat) : (⟨b, o, none⟩ : Addr).add j = ⟨b, o + j, none⟩ := by
  unfold Addr.add
  split
  · rename_i h; subst h; rfl
  · rfl
theorem enL_one23 (L : List Ent) (h : ∀ e ∈ L, e.Ok) : ∀ u ∈ enL L, u.oneCell' = true := fun u hu => by
  obtain ⟨e, he, hue⟩ := List.mem_flatMap.1 hu
  exact Array.all_eq_true_iff_forall_mem.1 (h e he).2.1 u (by simpa using hue)
theorem enL_rot (L : List Ent) (h : ∀ e ∈ L, e.C.size = 33) (k : Nat) (hk : k ≤ L.length) : (enL L).drop (k * 33) ++ (enL L).take (k * 33) = enL (rotE L k) ∧ ((enL L).drop (k * 33)).length = (L.length - k) * 33 ∧ ((enL L).take (k * 33)).length = k * 33 := by
  have hl := enL_len L h
  have h1 : enL L = enL (L.take k) ++ enL (L.drop k) := by rw [← enL_app, List.take_append_drop]
  have h2 : (enL (L.take k)).length = k * 33 := by rw [enL_len _ (fun e he => h e (List.mem_of_mem_take he)), List.length_take]; congr 1; omega
  have hle : k * 33 ≤ L.length * 33 := Nat.mul_le_mul_right _ hk
  refine ⟨?_, ?_, ?_⟩
  · unfold rotE
    rw [enL_app, h1, ← h2, List.drop_left, List.take_left]
  · rw [List.length_drop, hl, Nat.sub_mul]
  · rw [List.length_take, hl]; omega

set_option maxRecDepth 100000 in
set_option maxHeartbeats 4000000 in
theorem forder_walk (S : List SmE) (A : Option Addr) (c : Nat) (vul by_ tu : Int) (hvu : 0 ≤ vul ∧ vul ≤ 255) (hby_ : 0 ≤ by_ ∧ by_ ≤ 255) (htu : 0 ≤ tu ∧ tu ≤ 255) (w : World) (hL : LaidS w) (hLm : Laid w) (hA : Rd w w.heap.size 14 A S.length (smL S)) (hok : ∀ x ∈ S, x.Ok) (hc : S.length ≤ c) (hm : c ≤ 9223372036854775807) :
    Calls Tryd.prog 5 #[.slice A S.length c, .int .u8 vul, .int .u8 by_, .int .u8 tu] w fun e w' => e = .returned (.bool true) ∧ Below w.heap.size w w' := by
  obtain ⟨i0, hi, hz0, hz1, hz2⟩ := info_parts info_entry23
  have HM := Lib.hid (fmade23 S A c w hA hok hc hm)
  have HO := Lib.hid (madeLE_ok S hok)
  have HR := Lib.hid (madeLE_right S hok)
  have hl24 : (madeLE S).length ≤ 24 := by rw [madeLE_len]; omega
  generalize madeLE S = L at HM HO HR hl24
  have HL := Lib.hid hL
  have HLm := Lib.hid hLm
  obtain ⟨V, hV⟩ : ∃ V, vul % 4 = V := ⟨_, rfl⟩
  have hVb : 0 ≤ V ∧ V ≤ 3 := by omega
  obtain ⟨T, hT⟩ : ∃ T, tu % 4 = T := ⟨_, rfl⟩
  have hTb : 0 ≤ T ∧ T ≤ 3 := by omega
  have HV := Lib.hid hV
  have HT := Lib.hid hT
  clear hL hLm hA hok hc hm hV hT
  go_enter Tryd.func5, Tryd.ntmps5
  go_wp2_with fail
  refine HM.out.mono ?_
  rintro ee w1 ⟨v, rfl, ho1, hb1⟩
  have HB1 := Lib.hid hb1
  clear hb1 HM
  by_cases hz : L.length = 0
  · obtain ⟨B, cb, rfl⟩ := own_form ho1
    have hzi : (L.length : Int) = 0 := by omega
    have hzb : ((L.length : Int) == 0) = true := by rw [hzi]; rfl
    clear ho1 hz
    go_wp2_with fail
    refine (awake23 _ (HL.out.go HB1.out) (HLm.out.below HB1.out HLm.out.lt)).mono ?_
    rintro ee we ⟨rfl, hbe⟩
    go_wp2_with fail
    go_ret
    exact ⟨rfl, below_via HB1.out hbe⟩
  obtain ⟨b, cb, rfl⟩ := own_at' ho1 (by omega)
  have HRd1 := Lib.hid (show Rd w1 w1.heap.size 33 (some ⟨b, 0, none⟩) L.length (enL L) from Rd.of_own ho1)
  have hcb : L.length ≤ cb := by
    rcases ho1.2 with ⟨hv, _⟩ | ⟨g, cap, cur, hv, _, _, hncap, _⟩
    · injection hv with h; cases h
    · injection hv with h1 h2 h3; omega
  clear ho1
  have hzb : ((L.length : Int) == 0) = false := beq_eq_false_iff_ne.2 (by omega)
  have hzn : ¬ (L.length : Int) = 0 := by omega
  obtain ⟨k, hk⟩ : ∃ k : Nat, by_ % (L.length : Int) = (k : Int) := ⟨(by_ % (L.length : Int)).toNat, by have := Int.emod_nonneg by_ (show (L.length : Int) ≠ 0 by omega); omega⟩
  have hkl : k < L.length := by have := Int.emod_lt_of_pos by_ (show (0 : Int) < (L.length : Int) by omega); omega
  go_upto_region 5 with fail
  rw [hk]
  have Hk := Lib.hid hk
  clear hk
  have c1 : (0 : Int) ≤ (k : Int) := by omega
  have c2 : (k : Int) ≤ (L.length : Int) := by omega
  have c3 : (L.length : Int) ≤ (cb : Int) := by omega
  have c4 : (k : Int) ≤ (cb : Int) := by omega
  have c5 : ¬ cb = k := by omega
  have hd : Below w1.heap.size w1 w1.drew := (Below.refl _ _).drew
  have hown0 : ((w1.alloc (.cells #[] 32)).drew).ownsRow w1.heap.size 32 33 (.slice (some ⟨w1.heap.size, 0, none⟩) 0 0) 0 [] := (own_empty w1 _ _ _ rfl).drew
  have hb0 : Below w1.heap.size w1 ((w1.alloc (.cells #[] 32)).drew) := ((Below.refl _ _).alloc (Nat.le_refl _) _).drew
  obtain ⟨hx, hl1, hl2⟩ := enL_rot L (fun e he => (HO.out e he).1.1) k (Nat.le_of_lt hkl)
  have hone := enL_one23 L HO.out
  have HN1 := Lib.hid (fun (W : World) (hW : Below w1.heap.size w1 W) => (show ∀ j u, ((enL L).drop (k * 33))[j]? = some u → W.cell? ((⟨b, k * 33, none⟩ : Addr).add j) = some u from fun j u hu => by
    obtain ⟨b', o', e1, e2, e3⟩ := HRd1.out.pos (by omega)
    obtain ⟨rfl, rfl⟩ : b = b' ∧ 0 = o' := by injection e1 with e1; injection e1 with e1 e2; exact ⟨e1, e2⟩
    rw [List.getElem?_drop] at hu
    have hlt := (List.getElem?_eq_some_iff.1 hu).1
    have := (e3 (k * 33 + j) hlt).trans hu
    rw [add_at23, bcell hW b _ e2, ← this, Nat.zero_add]))
  have HN2 := Lib.hid (fun (W : World) (hW : Below w1.heap.size w1 W) => (show ∀ j u, ((enL L).take (k * 33))[j]? = some u → W.cell? ((⟨b, 0, none⟩ : Addr).add j) = some u from fun j u hu => by
    obtain ⟨b', o', e1, e2, e3⟩ := HRd1.out.pos (by omega)
    obtain ⟨rfl, rfl⟩ : b = b' ∧ 0 = o' := by injection e1 with e1; injection e1 with e1 e2; exact ⟨e1, e2⟩
    have hjk : j < k * 33 := by have h := (List.getElem?_eq_some_iff.1 hu).1; rw [List.length_take] at h; omega
    rw [List.getElem?_take_of_lt hjk] at hu
    have hlt := (List.getElem?_eq_some_iff.1 hu).1
    have := (e3 j hlt).trans hu
    rw [add_at23, bcell hW b _ e2, ← this]))
  have ho1 : ∀ u ∈ (enL L).drop (k * 33), u.oneCell' = true := fun u hu => hone u (List.mem_of_mem_drop hu)
  have ho2 : ∀ u ∈ (enL L).take (k * 33), u.oneCell' = true := fun u hu => hone u (List.mem_of_mem_take hu)
  have Hx := Lib.hid hx
  clear hx hone
  generalize (enL L).drop (k * 33) = xd at HN1 hl1 ho1 Hx
  generalize (enL L).take (k * 33) = xt at HN2 hl2 ho2 Hx
  have hm1 : 0 < 0 + (L.length - k) := by omega
  have h631 : 0 + (L.length - k) ≤ maxLen := by unfold maxLen; omega
  have hby1 : (0 + (L.length - k)) * 152 ≤ 140737488355328 := by omega
  have hbase0 : w1.heap.size ≤ ((w1.alloc (.cells #[] 32)).drew).heap.size := hb0.size
  have hrow0 : ∀ g, (Value.slice (some ⟨w1.heap.size, 0, none⟩) 0 0).ownBlock = some g → w1.heap.size ≤ g := fun g hg => by simp [Value.ownBlock] at hg; omega
  have hm2 : 0 < 0 + (L.length - k) + k := by omega
  have h632 : 0 + (L.length - k) + k ≤ maxLen := by unfold maxLen; omega
  have hby2 : (0 + (L.length - k) + k) * 152 ≤ 140737488355328 := by omega
  have Hln := Lib.hid (show 0 + (L.length - k) + k = L.length by omega)
  go_region_held3 (fun w' => Below w1.heap.size w1 w') ((first | exact hd | exact hb0 | exact hba | exact hbb))
    ((first
      | (refine step_append_any23 (by rfl) _ _ _ (by rfl) w1.heap.size 32 i0 (.agg enZ) 33 152 Tryd.underlying23 hi hz0 hz1 hz2 (by rfl) (by decide) _ 0 [] (by rfl) hown0 ⟨b, k * 33, none⟩ (L.length - k) (cb - k) xd (by rfl) hl1 (HN1.out _ hb0) ho1 hm1 h631 hby1 hbase0 ?_; intro g1 cap1 wa hn1 hgr1; have hba := hb0.grown hgr1 hbase0 hrow0)
      | (refine step_append_any23 (by rfl) _ _ _ (by rfl) w1.heap.size 32 i0 (.agg enZ) 33 152 Tryd.underlying23 hi hz0 hz1 hz2 (by rfl) (by decide) _ (0 + (L.length - k)) ([] ++ xd) (by rfl) hn1 ⟨b, 0, none⟩ k cb xt (by rfl) hl2 (HN2.out _ hba) ho2 hm2 h632 hby2 hba.size ?_; intro g2 cap2 wb hn2 hgr2; have hbb := hba.grown hgr2 hba.size (fun g hg => (hn1.lt g hg).1))))
  have hg2 : w1.heap.size ≤ g2 := (hn2.lt g2 rfl).1
  have hrl := rotE_len L k (Nat.le_of_lt hkl)
  have hE0 : EB wb g2 (rotE L k) := by
    refine EB.of_own (base := w1.heap.size) (n := 0 + (L.length - k) + k) rfl (by rw [hrl]; exact Hln.out) ?_ (cap := cap2)
    rw [← Hx.out]; exact hn2
  rw [show L.length - k + k = L.length from Nat.sub_add_cancel (Nat.le_of_lt hkl)]
  have HE0 := Lib.hid hE0
  have HBb := Lib.hid hbb
  have HOr := Lib.hid (show ∀ e ∈ rotE L k, e.Ok from fun e he => HO.out e (rotE_mem L k e he))
  have HRr := Lib.hid (show ∀ e ∈ rotE L k, e.right = true from fun e he => HR.out e (rotE_mem L k e he))
  clear hE0 hn2 hgr2 hbb hn1 hgr1 hba hown0 hb0 hd HN1 HN2 hl1 hl2 ho1 ho2 hm1 h631 hby1 hbase0 hrow0 hm2 h632 hby2 Hx Hln c1 c2 c3 c4 c5 hzb hzn hcb
  obtain ⟨Ro, hRo⟩ : ∃ R, rotE L k = R := ⟨_, rfl⟩
  rw [hRo] at HE0 HOr HRr hrl
  have HRo := Lib.hid hRo
  have Hrl := Lib.hid hrl
  clear hRo hrl
  go_wp2_with fail
  go_loopw [40] (fun i wr => ∃ m : Nat, m ≤ L.length ∧ i = .int .i64 (m : Int) ∧ EB wr g2 (mapTo (fun _ e => fldE e (tF T e.f)) m Ro) ∧ Below w1.heap.size w1 wr) (fun i _ => L.length - (intOf i).toNat)
  case atStart => exact ⟨0, by omega, rfl, HE0.out, HBb.out⟩
  case round =>
    obtain ⟨m, hm, rfl, hE, hbel⟩ := hrel
    have HE := Lib.hid hE
    have Hbel := Lib.hid hbel
    clear hE hbel
    by_cases hlt : m < L.length
    · have hmR : m < Ro.length := by rw [Hrl.out]; exact hlt
      have hOm := mapTo_all (fun _ e => fldE e (tF T e.f)) Ro Ent.Ok HOr.out (fun _ e h => fldE_ok h _ (by unfold tF; omega)) m
      have h33 : ∀ e ∈ mapTo (fun _ e => fldE e (tF T e.f)) m Ro, e.C.size = 33 := fun e he => (hOm e he).1.1
      have hml : m < (mapTo (fun _ e => fldE e (tF T e.f)) m Ro).length := by rw [mapTo_len]; exact hmR
      have hgm := mapTo_at Ro (fun _ e => fldE e (tF T e.f)) m hmR
      have hc5 := HE.out.cell h33 m hml 5 (by decide)
      rw [hgm, (HOr.out _ (List.getElem_mem hmR)).1.2.2.1] at hc5
      have hfr := HE.out.free (m * 33 + 5)
      have hfb : 0 ≤ (Ro[m]).f ∧ (Ro[m]).f ≤ 3 := ⟨(HOr.out _ (List.getElem_mem hmR)).2.2.2.1.1, right_f (HRr.out _ (List.getElem_mem hmR))⟩
      have HS := Lib.hid (HE.out.set h33 m hml 5 (by decide) (.int .u8 (tF T (Ro[m]).f)) (fldE Ro[m] (tF T (Ro[m]).f)) (by rw [hgm]; rfl))
      rw [mapTo_succ Ro (fun _ e => fldE e (tF T e.f)) m hmR] at HS
      obtain ⟨f, hf⟩ : ∃ f, (Ro[m]).f = f := ⟨_, rfl⟩
      rw [hf] at hc5 HS hfb
      have hw1 : IntKind.u8.wrap (f + T) = f + T := by unfold IntKind.wrap; simp [IntKind.signed, IntKind.bits]; omega
      have hT := HT.out
      have htf : tF T f = (f + T) % 4 := rfl
      rw [htf] at HS
      have c1 : (0 : Int) ≤ (m : Int) := by omega
      have c2 : (m : Int) < (L.length : Int) := by omega
      clear hf hgm hml h33 hOm htf
      go_wp2_with fail
      go_roundw
      case rel => exact ⟨m + 1, hlt, by go_num, HS.out, Hbel.out.setCell hg2 _⟩
      case measure => simp [intOf]; omega
    · obtain rfl : m = L.length := by omega
      have hro : mapTo (fun _ e => fldE e (tF T e.f)) L.length Ro = ordE L k T := by
        have h := mapTo_const (fun e => fldE e (tF T e.f)) Ro
        rw [Hrl.out] at h
        rw [h, ← HRo.out]; rfl
      have hE2 := HE.out
      rw [hro] at hE2
      have HO2 := Lib.hid (ordE_ok L k T HO.out)
      have HR2 := Lib.hid (ordE_right L k T HR.out)
      have hl2 : (ordE L k T).length = L.length := ordE_len L k T (Nat.le_of_lt hkl)
      have Hl2 := Lib.hid hl2
      have HLine := Lib.hid (fun i (h : i < L.length) => line_ord L HO.out HR.out V T k i hkl h)
      have hrd2 := hE2.rd (fun e he => (HO2.out e he).1.1)
      generalize ordE L k T = O at HO2 HR2 Hl2 HLine hrd2 hl2
      have HRo2 := Lib.hid (show Rd wr wr.heap.size 33 (some ⟨g2, 0, none⟩) O.length (enL O) from hrd2)
      have HRw := Lib.hid (HRd1.out.go Hbel.out)
      have HBw := Lib.hid (below_via HB1.out Hbel.out)
      clear hro hE2 hrd2 HE Hbel HRd1 hl2 hg2
      have hV := HV.out
      go_wp2_with fail
      refine (fboard_ok L (some ⟨b, 0, none⟩) cb V wr HO.out HRw.out hl24 (HL.out.go HBw.out) (HLm.out.below HBw.out HLm.out.lt) HR.out hVb).mono ?_
      rintro ee w2 ⟨v, rfl, ho2, hb2⟩
      obtain ⟨A2, c2, rfl⟩ := own_form ho2
      have HB2 := Lib.hid (below_via HBw.out hb2)
      have HRo3 := Lib.hid (HRo2.out.go hb2)
      have HLn2 := Lib.hid (show Rd w2 w2.heap.size 5 A2 (boardTo L V L.length).length (lnC (boardTo L V L.length)) by rw [boardTo_len]; exact Rd.of_own ho2)
      clear ho2 hb2 HRo2 HBw HRw
      go_wp2_with fail
      have hb := fboard_ok O (some ⟨g2, 0, none⟩) cap2 V w2 HO2.out HRo3.out (by rw [Hl2.out]; exact hl24) (HL.out.go HB2.out) (HLm.out.below HB2.out HLm.out.lt) HR2.out hVb
      rw [Hl2.out] at hb
      refine hb.mono ?_
      rintro ee w3 ⟨v, rfl, ho3, hb3⟩
      obtain ⟨A3, c3, rfl⟩ := own_form ho3
      have HB3 := Lib.hid (below_via HB2.out hb3)
      have HLn3 := Lib.hid (HLn2.out.go hb3)
      have HLo3 := Lib.hid (show Rd w3 w3.heap.size 5 A3 (boardTo O V L.length).length (lnC (boardTo O V L.length)) by rw [boardTo_len]; exact Rd.of_own ho3)
      clear ho3 hb3 HRo3 HLn2 HB2 hb hV
      go_wp2_with fail
      go_loopw [91] (fun i wr => ∃ m : Nat, m ≤ L.length ∧ i = .int .i64 (m : Int) ∧ Below w3.heap.size w3 wr) (fun i _ => L.length - (intOf i).toNat)
      case atStart => exact ⟨0, by omega, rfl, Below.refl _ _⟩
      case round =>
        obtain ⟨i, hi', rfl, hbel⟩ := hrel
        have Hbel := Lib.hid hbel
        clear hbel
        by_cases hlt2 : i < L.length
        · obtain ⟨m, hm⟩ : ∃ m, (i + L.length - k) % L.length = m := ⟨_, rfl⟩
          have hml : m < L.length := by rw [← hm]; exact Nat.mod_lt _ (by omega)
          have hli := HLine.out i hlt2
          rw [hm] at hli
          obtain ⟨bl, ol, hA2, hbl, l0, l1, l2, l3, l4⟩ := rd_ln HLn3.out i (by rw [boardTo_len]; exact hlt2)
          subst hA2
          have hgetk : (boardTo L V L.length)[i]'(by rw [boardTo_len]; exact hlt2) = lineE L V i := boardTo_get L V L.length i hlt2
          rw [hgetk] at l0 l1 l2 l3 l4
          obtain ⟨bo, oo, hA3, hbo, o0, o1, o2, o3, o4⟩ := rd_ln HLo3.out m (by rw [boardTo_len]; exact hml)
          subst hA3
          have hgeto : (boardTo O V L.length)[m]'(by rw [boardTo_len]; exact hml) = lineE O V m := boardTo_get O V L.length m hml
          rw [hgeto, hli] at o0 o1 o2 o3 o4
          have K1 := LnAt.below (x := lineE L V i) ⟨l0, l1, l2, l3, l4⟩ Hbel.out hbl
          have K2 := LnAt.below (x := lineE L V i) ⟨o0, o1, o2, o3, o4⟩ Hbel.out hbo
          clear l0 l1 l2 l3 l4 o0 o1 o2 o3 o4 hgetk hgeto hli
          generalize lineE L V i = ln at K1 K2
          obtain ⟨⟨x0, x1⟩, ⟨x2, x3⟩, x4⟩ := ln
          have hS0 := And.intro K1 K2
          dsimp only [LnAt] at hS0
          have HLnE := eqLn x0 x1 x2 x3 x4
          obtain ⟨q, hq⟩ : ∃ q, i + L.length - k = q := ⟨_, rfl⟩
          have a1 : IntKind.i64.wrap ((i : Int) + (L.length : Int)) = (i : Int) + (L.length : Int) := IntWalk.i64_in _ (by omega)
          have a2 : IntKind.i64.wrap ((i : Int) + (L.length : Int) - (k : Int)) = (q : Int) := by rw [show (i : Int) + (L.length : Int) - (k : Int) = (q : Int) by omega]; exact IntWalk.i64_in _ (by omega)
          have a3 : (q : Int) % (L.length : Int) = (m : Int) := by rw [← hm, ← hq]; rfl
          have a4 : (q : Int).tmod (L.length : Int) = (m : Int) := by rw [Int.tmod_eq_emod_of_nonneg (by omega)]; exact a3
          have b0 : (0 : Int) ≤ (i : Int) := by omega
          have b1 : (i : Int) < (L.length : Int) := by omega
          have b2 : (0 : Int) ≤ (m : Int) := by omega
          have b3 : (m : Int) < (L.length : Int) := by omega
          have hzb : ((L.length : Int) == 0) = false := beq_eq_false_iff_ne.2 (by omega)
          have hzn : ¬ (L.length : Int) = 0 := by omega
          clear hm hq K1 K2
          go_upto_region 18 with fail
          refine wp_region_held_drew (S := (fun wq => (wq.cell? ⟨bl, ol + i * 5, none⟩ = some (.int .i64 x0) ∧ wq.cell? ⟨bl, ol + i * 5 + 1, none⟩ = some (.int .i64 x1) ∧ wq.cell? ⟨bl, ol + i * 5 + 2, none⟩ = some (.int .i64 x2) ∧ wq.cell? ⟨bl, ol + i * 5 + 3, none⟩ = some (.int .i64 x3) ∧ wq.cell? ⟨bl, ol + i * 5 + 4, none⟩ = some (.bool x4)) ∧ (wq.cell? ⟨bo, oo + m * 5, none⟩ = some (.int .i64 x0) ∧ wq.cell? ⟨bo, oo + m * 5 + 1, none⟩ = some (.int .i64 x1) ∧ wq.cell? ⟨bo, oo + m * 5 + 2, none⟩ = some (.int .i64 x2) ∧ wq.cell? ⟨bo, oo + m * 5 + 3, none⟩ = some (.int .i64 x3) ∧ wq.cell? ⟨bo, oo + m * 5 + 4, none⟩ = some (.bool x4)))) (by kernel_rfl) hS0 (fun hHeldR => ?_)
          refine take_named23 (i := 0) (d := 94) (v := ?vR0) rfl (by kernel_rfl) (by kernel_rfl) (by kernel_rfl) (by kernel_rfl) (fun _ _ _ h => h) (Or.inl ⟨by kernel_rfl, ?yR0⟩) (by assumption) ?_
          case yR0 => intro wq hSw; (try dsimp only at hSw); go_simp; (try with_reducible rfl)
          (try simp only [Act.put, List.setIfInBounds_toArray, List.set_cons_zero, List.set_cons_succ])
          refine take_named23 (i := 1) (d := 95) (v := ?vR1) rfl (by kernel_rfl) (by kernel_rfl) (by kernel_rfl) (by kernel_rfl) (fun _ _ _ h => h) (Or.inl ⟨by kernel_rfl, ?yR1⟩) (by assumption) ?_
          case yR1 => intro wq hSw; (try dsimp only at hSw); go_simp; (try with_reducible rfl)
          (try simp only [Act.put, List.setIfInBounds_toArray, List.set_cons_zero, List.set_cons_succ])
          refine take_named23 (i := 2) (d := 96) (v := ?vR2) rfl (by kernel_rfl) (by kernel_rfl) (by kernel_rfl) (by kernel_rfl) (fun _ _ _ h => h) (Or.inl ⟨by kernel_rfl, ?yR2⟩) (by assumption) ?_
          case yR2 => intro wq hSw; (try dsimp only at hSw); go_simp; (try with_reducible rfl)
          (try simp only [Act.put, List.setIfInBounds_toArray, List.set_cons_zero, List.set_cons_succ])
          refine take_named23 (i := 3) (d := 97) (v := ?vR3) rfl (by kernel_rfl) (by kernel_rfl) (by kernel_rfl) (by kernel_rfl) (fun _ _ _ h => h) (Or.inl ⟨by kernel_rfl, ?yR3⟩) (by assumption) ?_
          case yR3 => intro wq hSw; (try dsimp only at hSw); go_simp; (try with_reducible rfl)
          (try simp only [Act.put, List.setIfInBounds_toArray, List.set_cons_zero, List.set_cons_succ])
          refine take_named23 (i := 4) (d := 98) (v := ?vR4) rfl (by kernel_rfl) (by kernel_rfl) (by kernel_rfl) (by kernel_rfl) (fun _ _ _ h => h) (Or.inl ⟨by kernel_rfl, ?yR4⟩) (by assumption) ?_
          case yR4 => intro wq hSw; (try dsimp only at hSw); go_simp; (try with_reducible rfl)
          (try simp only [Act.put, List.setIfInBounds_toArray, List.set_cons_zero, List.set_cons_succ])
          refine take_named23 (i := 5) (d := 99) (v := ?vR5) rfl (by kernel_rfl) (by kernel_rfl) (by kernel_rfl) (by kernel_rfl) (fun _ _ _ h => h) (Or.inl ⟨by kernel_rfl, ?yR5⟩) (by assumption) ?_
          case yR5 => intro wq hSw; (try dsimp only at hSw); go_simp; (try with_reducible rfl)
          (try simp only [Act.put, List.setIfInBounds_toArray, List.set_cons_zero, List.set_cons_succ])
          refine take_named23 (i := 6) (d := 100) (v := ?vR6) rfl (by kernel_rfl) (by kernel_rfl) (by kernel_rfl) (by kernel_rfl) (fun _ _ _ h => h) (Or.inl ⟨by kernel_rfl, ?yR6⟩) (by assumption) ?_
          case yR6 => intro wq hSw; (try dsimp only at hSw); go_simp; (try with_reducible rfl)
          (try simp only [Act.put, List.setIfInBounds_toArray, List.set_cons_zero, List.set_cons_succ])
          refine take_named23 (i := 7) (d := 101) (v := ?vR7) rfl (by kernel_rfl) (by kernel_rfl) (by kernel_rfl) (by kernel_rfl) (fun _ _ _ h => h) (Or.inl ⟨by kernel_rfl, ?yR7⟩) (by assumption) ?_
          case yR7 => intro wq hSw; (try dsimp only at hSw); go_simp; (try with_reducible rfl)
          (try simp only [Act.put, List.setIfInBounds_toArray, List.set_cons_zero, List.set_cons_succ])
          refine take_named23 (i := 8) (d := 102) (v := ?vR8) rfl (by kernel_rfl) (by kernel_rfl) (by kernel_rfl) (by kernel_rfl) (fun _ _ _ h => h) (Or.inl ⟨by kernel_rfl, ?yR8⟩) (by assumption) ?_
          case yR8 => intro wq hSw; (try dsimp only at hSw); go_simp; (try with_reducible rfl)
          (try simp only [Act.put, List.setIfInBounds_toArray, List.set_cons_zero, List.set_cons_succ])
          refine take_named23 (i := 9) (d := 103) (v := ?vR9) rfl (by kernel_rfl) (by kernel_rfl) (by kernel_rfl) (by kernel_rfl) (fun _ _ _ h => h) (Or.inl ⟨by kernel_rfl, ?yR9⟩) (by assumption) ?_
          case yR9 => intro wq hSw; (try dsimp only at hSw); go_simp; (try with_reducible rfl)
          (try simp only [Act.put, List.setIfInBounds_toArray, List.set_cons_zero, List.set_cons_succ])
          refine take_named23 (i := 10) (d := 104) (v := ?vR10) rfl (by kernel_rfl) (by kernel_rfl) (by kernel_rfl) (by kernel_rfl) (fun _ _ _ h => h) (Or.inl ⟨by kernel_rfl, ?yR10⟩) (by assumption) ?_
          case yR10 => intro wq hSw; (try dsimp only at hSw); go_simp; (try with_reducible rfl)
          (try simp only [Act.put, List.setIfInBounds_toArray, List.set_cons_zero, List.set_cons_succ])
          refine take_named23 (i := 11) (d := 105) (v := ?vR11) rfl (by kernel_rfl) (by kernel_rfl) (by kernel_rfl) (by kernel_rfl) (fun _ _ _ h => h) (Or.inl ⟨by kernel_rfl, ?yR11⟩) (by assumption) ?_
          case yR11 => intro wq hSw; (try dsimp only at hSw); go_simp; (try with_reducible rfl)
          (try simp only [Act.put, List.setIfInBounds_toArray, List.set_cons_zero, List.set_cons_succ])
          refine take_named23 (i := 12) (d := 106) (v := ?vR12) rfl (by kernel_rfl) (by kernel_rfl) (by kernel_rfl) (by kernel_rfl) (fun _ _ _ h => h) (Or.inl ⟨by kernel_rfl, ?yR12⟩) (by assumption) ?_
          case yR12 => intro wq hSw; (try dsimp only at hSw); go_simp; (try with_reducible rfl)
          (try simp only [Act.put, List.setIfInBounds_toArray, List.set_cons_zero, List.set_cons_succ])
          refine take_named23 (i := 13) (d := 107) (v := ?vR13) rfl (by kernel_rfl) (by kernel_rfl) (by kernel_rfl) (by kernel_rfl) (fun _ _ _ h => h) (Or.inl ⟨by kernel_rfl, ?yR13⟩) (by assumption) ?_
          case yR13 => intro wq hSw; (try dsimp only at hSw); go_simp; (try with_reducible rfl)
          (try simp only [Act.put, List.setIfInBounds_toArray, List.set_cons_zero, List.set_cons_succ])
          refine take_named23 (i := 14) (d := 108) (v := ?vR14) rfl (by kernel_rfl) (by kernel_rfl) (by kernel_rfl) (by kernel_rfl) (fun _ _ _ h => h) (Or.inl ⟨by kernel_rfl, ?yR14⟩) (by assumption) ?_
          case yR14 => intro wq hSw; (try dsimp only at hSw); go_simp; (try with_reducible rfl)
          (try simp only [Act.put, List.setIfInBounds_toArray, List.set_cons_zero, List.set_cons_succ])
          refine take_named23 (i := 15) (d := 109) (v := ?vR15) rfl (by kernel_rfl) (by kernel_rfl) (by kernel_rfl) (by kernel_rfl) (fun _ _ _ h => h) (Or.inl ⟨by kernel_rfl, ?yR15⟩) (by assumption) ?_
          case yR15 => intro wq hSw; (try dsimp only at hSw); go_simp; (try with_reducible rfl)
          (try simp only [Act.put, List.setIfInBounds_toArray, List.set_cons_zero, List.set_cons_succ])
          refine take_named23 (i := 16) (d := 110) (v := ?vR16) rfl (by kernel_rfl) (by kernel_rfl) (by kernel_rfl) (by kernel_rfl) (fun _ _ _ h => h) (Or.inl ⟨by kernel_rfl, ?yR16⟩) (by assumption) ?_
          case yR16 => intro wq hSw; (try dsimp only at hSw); go_simp; (try with_reducible rfl)
          (try simp only [Act.put, List.setIfInBounds_toArray, List.set_cons_zero, List.set_cons_succ])
          refine wpAnyH_done (by kernel_rfl) ?_ _
          clear hHeldR
          clear a1 a2 a3 a4 hS0
          go_wp2_with fail
          go_roundw
          case rel => exact ⟨i + 1, hlt2, by go_num, Hbel.out.drew⟩
          case measure => simp [intOf]; omega
        · obtain rfl : i = L.length := by omega
          have HBe := Lib.hid (show Below w.heap.size w wr from below_via HB3.out Hbel.out)
          clear Hbel
          go_wp2_with fail
          refine (awake23 wr (HL.out.go HBe.out) (HLm.out.below HBe.out HLm.out.lt)).mono ?_
          rintro ee we ⟨rfl, hbe⟩
          go_wp2_with fail
          go_ret
          exact ⟨rfl, below_via HBe.out hbe⟩

end Go.Proofs.YtchklobblkddhaaDoor
