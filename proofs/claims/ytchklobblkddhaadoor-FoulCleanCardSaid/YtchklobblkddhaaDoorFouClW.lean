/- The walk of the statement FoulClean. -/
import Derived.Test.YtchklobblkddhaaDoorFouMadeW
import Derived.Test.YtchklobblkddhaaDoorFouClL
import Derived.Test.YtchklobblkddhaaDoorAppend
import Derived.Deep.AppendLies
namespace Go.Proofs.YtchklobblkddhaaDoor
open Go.RowKit Go.Shelf

theorem enL_one23 (L : List Ent) (h : ∀ e ∈ L, e.Ok) : ∀ u ∈ enL L, u.oneCell' = true := fun u hu => by
  obtain ⟨e, he, hue⟩ := List.mem_flatMap.1 hu
  exact Array.all_eq_true_iff_forall_mem.1 (h e he).2.1 u (by simpa using hue)

theorem wp_buildSlice_zero23 {P : Program} {o : Oper} {a : Act} {w : World} {K : Act → World → Prop} {Q : Exit → Act → World → Prop} (t elem : Nat) (ho : o.op = .buildSlice t 0 #[]) (i : TypeInfo) (ht : P.underlying t = some (.slice elem)) (hi : P.info? elem = some i) (d : Nat) (hd : o.dst = some d)
    (h : K (a.put (some d) (.slice (some ⟨w.heap.size, 0, none⟩) 0 0)) (w.alloc (.cells #[] elem))) : o.wp P a w K Q := by
  unfold Oper.wp execOp
  have e : (Array.map (fun (_ : Nat) => (default : Value)) (Array.range 0)) = #[] := by simp
  simp [ho, Instr.buildSlice, run_underlying ht, sizeOf, typeInfo, hi, newRow, Instr.fill, e]
  rw [← hd] at h
  exact h
theorem wp_append_src23 {P : Program} {w : World} {o : Oper} {a : Act} {K : Act → World → Prop} {Q : Exit → Act → World → Prop} (s x : Operand) (t : TypeId)
    (ho : o.op = .call { callee := .builtin .append, args := #[s, x], argTypes := #[t, t] })
    (base : Nat) (e : TypeId) (i : TypeInfo) (z : Value) (size bytes : Nat) (ht : P.underlying t = some (.slice e)) (hi : P.info? e = some i) (hz : i.zero = some z)
    (hsize : i.size = size) (hby : i.bytes = bytes) (hzs : z.cells.size = size) (hsz : 0 < size)
    (v : Value) (n : Nat) (xs : List Value) (hs : a.eval s = v) (hown : w.ownsRow base e size v n xs)
    (A : Option Addr) (m c B : Nat) (news : List Value) (hx : a.eval x = .slice A m c) (hrd : Rd w B size A m news) (hA : A = none → c = 0) (h1 : ∀ u ∈ news, u.oneCell' = true)
    (h63 : n + m ≤ maxLen) (hbytes : (n + m) * bytes ≤ 140737488355328) (hbase : base ≤ w.heap.size)
    (d : Nat) (hd : o.dst = some d)
    (h : ∀ v' w', w'.ownsRow base e size v' (n + m) (xs ++ news) → w.grownBy w' v.ownBlock → K (a.put (some d) v') w') : o.wp P a w K Q := by
  rw [← hd] at h
  cases A with
  | none =>
    have hc := hA rfl
    subst hc
    have hm : m = 0 := by
      rcases Nat.eq_zero_or_pos m with h0 | h0
      · exact h0
      · obtain ⟨b, off, he, _⟩ := hrd.2 h0
        cases he
    subst hm
    have hn : news = [] := List.eq_nil_of_length_eq_zero (by simpa using hrd.1)
    subst hn
    have hrun := run_append_owned_none (P := P) (w := w) base t o.type e i size ht hi v n xs hown
    unfold Oper.wp
    simp [execOp, ho, resolve, invoke, builtin, hs, hx, hrun, Result.andThen]
    exact h v w (by simpa using hown) ⟨rfl, rfl, rfl, Nat.le_refl _, fun _ _ _ => rfl⟩
  | some ad =>
    have hnews : ∀ j u, news[j]? = some u → w.cell? (ad.add j) = some u := fun j u hj => by
      have hjl := (List.getElem?_eq_some_iff.1 hj).1
      have hm : 0 < m := by
        rcases Nat.eq_zero_or_pos m with h0 | h0
        · rw [hrd.1, h0] at hjl; omega
        · exact h0
      obtain ⟨b, off, he, _, hc⟩ := hrd.2 hm
      obtain rfl := Option.some.inj he
      have := (hc j hjl).trans hj
      unfold Addr.add
      split
      · rename_i h0; subst h0; simpa using this
      · exact this
    obtain ⟨v', w', hr, h2, h3, -, -⟩ := run_append_own_at (P := P) w base t o.type e i z size bytes ht hi hz hsize hby hzs hsz v n xs hown ad m c news hrd.1 hnews h1 h63 hbytes hbase
    unfold Oper.wp execOp
    simp only [ho, resolve, invoke, builtin, Sem.run_bind, Sem.run_pure, Result.andThen_ok, List.map_toArray, List.map_cons, List.map_nil, hs, hx, hr]
    exact h v' w' h2 h3
theorem wp_buildSlice_one23 {P : Program} {o : Oper} {a : Act} {w : World} {K : Act → World → Prop} {Q : Exit → Act → World → Prop} (t elem : Nat) (x : Operand) (ho : o.op = .buildSlice t 1 #[(0, x)]) (i : TypeInfo) (z : Value) (size : Nat) (C : Array Value) (ht : P.underlying t = some (.slice elem)) (hi : P.info? elem = some i) (hz : i.zero = some z) (hsz : i.size = size) (h0 : 1 * size ≠ 0) (hm : 1 * size ≤ 16777216)
    (hx : a.eval x = .agg C) (hf : FillsTo size 1 z.cells [(0, .agg C)] C) (d : Nat) (hd : o.dst = some d)
    (h : K (a.put (some d) (.slice (some ⟨w.heap.size, 0, none⟩) 1 1)) (w.alloc (.cells C elem))) : o.wp P a w K Q := by
  refine wp_buildSlice_to t elem 1 #[(0, x)] ho i z size C ht hi hz hsz h0 hm ?_ (by rw [hd]; exact h)
  have e : (#[(0, x)].map fun (k, x) => (k, a.eval x)).toList = [(0, .agg C)] := by simp [hx]
  rw [e]; exact hf
theorem own_apart23 {W : World} {base e sz n G j : Nat} {v : Value} {xs : List Value} (h : W.ownsRow base e sz v n xs) (hG : ∀ g, v.ownBlock = some g → g ≠ G) (u : Value) : (W.setCell ⟨G, j, none⟩ u).ownsRow base e sz v n xs :=
  h.kept (grown_setCell23 W ⟨G, j, none⟩ u) (by
    cases hv : v.ownBlock with
    | none => exact .inl rfl
    | some g => exact .inr (fun e => by injection e with e; exact hG g hv e))

theorem ins_cells (C : List Ent) (h : ∀ e ∈ C, e.C.size = 33) (k : Nat) (hk : k ≤ C.length) (v : Ent) : enL (insE C k v) = (enL C).take (k * 33) ++ v.C.toList ++ (enL C).drop (k * 33) := by
  have h1 : enL C = enL (C.take k) ++ enL (C.drop k) := by rw [← enL_app, List.take_append_drop]
  have h2 : (enL (C.take k)).length = k * 33 := by rw [enL_len _ (fun e he => h e (List.mem_of_mem_take he)), List.length_take]; congr 1; omega
  have h3 : (enL C).take (k * 33) = enL (C.take k) := by rw [h1, ← h2, List.take_left]
  have h4 : (enL C).drop (k * 33) = enL (C.drop k) := by rw [h1, ← h2, List.drop_left]
  rw [h3, h4]
  unfold insE
  rw [enL_app, List.append_assoc]
  rfl

/-- Four cells of an entry stored to. -/
theorem more_set {W : World} {g k m : Nat} {C : List Ent} {n mm f : Int} (h : EB W g (moreE C k n mm f m)) (hO : ∀ e ∈ insE C k (voidE n f), e.Ok) (hm : m < (insE C k (voidE n f)).length) :
    EB ((((W.setCell ⟨g, m * 33 + 1, none⟩ (.int .i64 n)).setCell ⟨g, m * 33 + 2, none⟩ (.int .i64 mm)).setCell ⟨g, m * 33 + 3, none⟩ (.int .i64 (m : Int))).setCell ⟨g, m * 33 + 6, none⟩ (.bool ((m : Int) % 2 == 0))) g (moreE C k n mm f (m + 1)) := by
  have hOm := mapTo_all (gE n mm) (insE C k (voidE n f)) Ent.Ok hO (fun j _ h => gE_ok n mm j h) m
  have hml : m < (moreE C k n mm f m).length := by unfold moreE; rw [mapTo_len]; exact hm
  have hat : (moreE C k n mm f m)[m] = (insE C k (voidE n f))[m] := mapTo_at _ (gE n mm) m hm
  obtain ⟨e, he⟩ : ∃ e, (insE C k (voidE n f))[m] = e := ⟨_, rfl⟩
  have h33 : ∀ x ∈ moreE C k n mm f m, x.C.size = 33 := fun x hx => (hOm x hx).1.1
  have keep : ∀ {O : List Ent} {x : Ent}, (∀ y ∈ O, y.C.size = 33) → x.C.size = 33 → ∀ y ∈ O.set m x, y.C.size = 33 := fun hO hx y hy => by
    rcases List.mem_or_eq_of_mem_set hy with h | h
    · exact hO y h
    · rw [h]; exact hx
  have he33 : e.C.size = 33 := by rw [← he, ← hat]; exact h33 _ (List.getElem_mem hml)
  have h1 := h.set h33 m hml 1 (by decide) (.int .i64 n) { e with C := e.C.setIfInBounds 1 (.int .i64 n) } (by rw [hat, he])
  have k1 := keep h33 (x := { e with C := e.C.setIfInBounds 1 (.int .i64 n) }) (by simpa using he33)
  have h2 := h1.set k1 m (by rw [List.length_set]; exact hml) 2 (by decide) (.int .i64 mm) { e with C := (e.C.setIfInBounds 1 (.int .i64 n)).setIfInBounds 2 (.int .i64 mm) } (by rw [List.getElem_set_self])
  rw [List.set_set] at h2
  have k2 := keep h33 (x := { e with C := (e.C.setIfInBounds 1 (.int .i64 n)).setIfInBounds 2 (.int .i64 mm) }) (by simpa using he33)
  have h3 := h2.set k2 m (by rw [List.length_set]; exact hml) 3 (by decide) (.int .i64 (m : Int)) { e with C := ((e.C.setIfInBounds 1 (.int .i64 n)).setIfInBounds 2 (.int .i64 mm)).setIfInBounds 3 (.int .i64 (m : Int)) } (by rw [List.getElem_set_self])
  rw [List.set_set] at h3
  have k3 := keep h33 (x := { e with C := ((e.C.setIfInBounds 1 (.int .i64 n)).setIfInBounds 2 (.int .i64 mm)).setIfInBounds 3 (.int .i64 (m : Int)) }) (by simpa using he33)
  have h4 := h3.set k3 m (by rw [List.length_set]; exact hml) 6 (by decide) (.bool ((m : Int) % 2 == 0)) (gE n mm m e) (by rw [List.getElem_set_self]; rfl)
  rw [List.set_set, ← he] at h4
  have h5 := mapTo_succ (insE C k (voidE n f)) (gE n mm) m hm
  rw [show moreE C k n mm f (m + 1) = mapTo (gE n mm) (m + 1) (insE C k (voidE n f)) from rfl, ← h5]
  exact h4

set_option maxRecDepth 100000 in
set_option maxHeartbeats 4000000 in
theorem fclean_walk (S : List SmE) (A : Option Addr) (c : Nat) (vul at_ n : Int) (hvu : 0 ≤ vul ∧ vul ≤ 255) (hat : 0 ≤ at_ ∧ at_ ≤ 255) (w : World) (hL : LaidS w) (hLm : Laid w) (hA : Rd w w.heap.size 14 A S.length (smL S)) (hok : ∀ x ∈ S, x.Ok) (hc : S.length ≤ c) (hm : c ≤ 9223372036854775807) :
    Calls Tryd.prog 6 #[.slice A S.length c, .int .u8 vul, .int .u8 at_, .int .i64 n] w fun e w' => e = .returned (.bool true) ∧ Below w.heap.size w w' := by
  obtain ⟨i0, hi, hz0, hz1, hz2⟩ := info_parts info_entry23
  have HM := Lib.hid (fmade23 S A c w hA hok hc hm)
  have HO := Lib.hid (madeLE_ok S hok)
  have HR := Lib.hid (madeLE_right S hok)
  have hl24 : (madeLE S).length ≤ 24 := by rw [madeLE_len]; omega
  generalize madeLE S = L at HM HO HR hl24
  have HL := Lib.hid hL
  have HLm := Lib.hid hLm
  obtain ⟨V, hV⟩ : ∃ V, vul % 4 = V := ⟨_, rfl⟩
  have hVb : 0 ≤ V ∧ V ≤ 3 := by omega
  have HV := Lib.hid hV
  clear hL hLm hA hok hc hm hV
  go_enter Tryd.func6, Tryd.ntmps6
  go_wp2_with fail
  refine HM.out.mono ?_
  rintro ee w1 ⟨v, rfl, ho1, hb1⟩
  have HB1 := Lib.hid hb1
  obtain ⟨A1, ca, rfl⟩ := own_form ho1
  have HRd1 := Lib.hid (show Rd w1 w1.heap.size 33 A1 L.length (enL L) from Rd.of_own ho1)
  clear hb1 HM ho1
  go_wp2_with fail
  go_loopw [10, 31] (fun v i wr => ∃ k : Nat, k ≤ L.length ∧ i = .int .i64 (k : Int) ∧ wr.ownsRow w1.heap.size 32 33 v (cleanTo L k).length (enL (cleanTo L k)) ∧ Below w1.heap.size w1 wr) (fun _ i _ => L.length - (intOf i).toNat)
  case atStart => exact ⟨0, Nat.zero_le _, rfl, own_nil, Below.refl _ _⟩
  case round =>
    obtain ⟨k, hk, rfl, hown, hbel⟩ := hrel
    have Hown := Lib.hid hown
    have Hbel := Lib.hid hbel
    obtain ⟨Av, cv, rfl⟩ := own_form hown
    have hsr := hbel.size
    clear hown hbel
    by_cases hlt : k < L.length
    · obtain ⟨b, off, rfl, hbw, hr⟩ := rd_e (fun e he => (HO.out e he).1.1) HRd1.out k hlt
      have hr2 := Lib.hid (range_below hr Hbel.out hbw)
      have hm := List.getElem_mem hlt
      have hok := HO.out _ hm
      have hI := Lib.hid (hok.1.size)
      have h33 := Lib.hid (hok.1.1)
      have hone := Lib.hid (hok.2.1)
      have c1 : (0 : Int) ≤ (k : Int) := by omega
      have c2 : (k : Int) < (L.length : Int) := by omega
      have hc4 := hok.1.2.1
      have hc5 := hok.1.2.2.1
      have hle := cleanTo_len L k
      clear hr hm
      go_upto_region 6 with (first | (refine wpList_load_ent rfl 32 (.tmp 33) rfl b (off + k * 33) rfl _ _ hr2.out Tryd.underlying32 rfl hI.out ?_) | (refine plain_alloc_to rfl 32 rfl enZ enZ_zero ?_) | (refine wpList_store_new23 rfl 32 _ _ rfl (L[k]).C _ _ rfl rfl hI.out (by rw [h33.out]; rfl) hone.out ?_))
      obtain ⟨W5, hW5⟩ : ∃ V, wr.alloc (.cells (L[k]).C 32) = V := ⟨_, rfl⟩
      obtain ⟨G, hG⟩ : ∃ g, wr.heap.size = g := ⟨_, rfl⟩
      have KG := Lib.hid (show W5.heap[G]? = some (.cells (L[k]).C 32 (0, 0)) by rw [← hW5]; exact blk_new _ hG.symm)
      have HB5 := Lib.hid (show Below w1.heap.size w1 W5 by rw [← hW5]; exact Hbel.out.alloc hsr _)
      have HOw5 := Lib.hid (show W5.ownsRow w1.heap.size 32 33 (.slice Av (cleanTo L k).length cv) (cleanTo L k).length (enL (cleanTo L k)) by rw [← hW5]; exact Hown.out.alloc _)
      have q4 := (blk_cell KG.out 4).trans hc4
      rw [hW5, hG]
      have hG1 : w1.heap.size ≤ G := by rw [← hG]; exact hsr
      have hGo := Lib.hid (fun (g : Nat) (hg : (Value.slice Av (cleanTo L k).length cv).ownBlock = some g) => (show g < G by rw [← hG]; exact (Hown.out.lt g hg).2))
      clear hW5 hc4 hr2 Hbel Hown hG
      have HSu := Lib.hid (cleanTo_succ L k hlt)
      obtain ⟨kd, hkd⟩ : ∃ kd, (L[k]).k = kd := ⟨_, rfl⟩
      rw [hkd] at q4
      have Hkd := Lib.hid hkd
      clear hkd
      by_cases h0 : kd = 0
      · have hcm : cmpB L[k] = false := decide_eq_false (fun x => x.1 (Hkd.out.trans h0))
        rw [hcm, if_neg (by decide), List.append_nil] at HSu
        subst h0
        clear hcm
        go_wp2_with fail
        go_roundw
        case rel => exact ⟨k + 1, hlt, by go_num, by rw [HSu.out]; exact HOw5.out, HB5.out⟩
        case measure => simp [intOf]; omega
      · have t0 : (kd != 0) = true := by rw [bne_iff_ne]; exact h0
        by_cases h4 : kd = 4
        · have hcm : cmpB L[k] = false := decide_eq_false (fun x => x.2 (Hkd.out.trans h4))
          rw [hcm, if_neg (by decide), List.append_nil] at HSu
          subst h4
          clear hcm h0 t0
          go_wp2_with fail
          go_roundw
          case rel => exact ⟨k + 1, hlt, by go_num, by rw [HSu.out]; exact HOw5.out, HB5.out⟩
          case measure => simp [intOf]; omega
        · have t4 : (kd != 4) = true := by rw [bne_iff_ne]; exact h4
          have hcm : cmpB L[k] = true := decide_eq_true (by rw [Hkd.out]; exact ⟨h0, h4⟩)
          rw [hcm, if_pos rfl] at HSu
          have q5 := (blk_cell KG.out 5).trans hc5
          have f5 := blk_free KG.out 5
          have K0 := Lib.hid (blk_set KG.out 5 (.int .u8 0))
          clear h0 h4 hcm hc5
          go_upto_region 8 with fail
          obtain ⟨W6, hW6⟩ : ∃ V, W5.setCell ⟨G, 5, none⟩ (.int .u8 0) = V := ⟨_, rfl⟩
          have HB6 := Lib.hid (show Below w1.heap.size w1 W6 by rw [← hW6]; exact HB5.out.setCell (p := ⟨G, 5, none⟩) hG1 _)
          have HOw6 := Lib.hid (show W6.ownsRow w1.heap.size 32 33 (.slice Av (cleanTo L k).length cv) (cleanTo L k).length (enL (cleanTo L k)) by rw [← hW6]; exact own_apart23 HOw5.out (fun g hg => Nat.ne_of_lt (hGo.out g hg)) _)
          rw [hW6] at K0 ⊢
          clear hW6 HOw5 HB5 q5 f5 KG
          have HeO := Lib.hid (fldE_ok hok 0 (by decide))
          obtain ⟨x, hx⟩ : ∃ x, fldE L[k] 0 = x := ⟨_, rfl⟩
          have K6 := Lib.hid (show W6.heap[G]? = some (.cells x.C 32 (0, 0)) by rw [← hx]; exact K0.out)
          rw [hx] at HSu HeO
          clear hx K0
          have HIx := Lib.hid (HeO.out.1.size)
          have HFi := Lib.hid (fills_one (size := 33) (Z := enZ) (C := x.C) HeO.out.1.1)
          have HCl := Lib.hid (show x.C.toList.length = 33 by simp [HeO.out.1.1])
          have HCo := Lib.hid (show ∀ u ∈ x.C.toList, u.oneCell' = true from fun u hu => Array.all_eq_true_iff_forall_mem.1 HeO.out.2.1 u (by simpa using hu))
          have HSn := Lib.hid (show enL (cleanTo L (k + 1)) = enL (cleanTo L k) ++ x.C.toList by rw [HSu.out, enL_app]; congr 1; exact List.append_nil _)
          have HLn := Lib.hid (show (cleanTo L (k + 1)).length = (cleanTo L k).length + 1 by rw [HSu.out, List.length_append]; rfl)
          obtain ⟨cm, hcm⟩ : ∃ C, x.C = C := ⟨_, rfl⟩
          rw [hcm] at K6 HIx HFi HCl HCo HSn
          have hs6 := HB6.out.size
          clear hcm HeO HSu hok h33 hone hI
          go_wp2_with (first | (refine wpList_load_row rfl 32 (.tmp 12) rfl G rfl 32 cm _ _ K6.out Tryd.underlying32 rfl HIx.out ?_) | (refine wpList_buildSlice_to rfl 23 32 1 _ rfl i0 (.agg enZ) 33 cm Tryd.underlying23 hi hz0 hz1 (by decide) (by decide) ?hf ?_) | (at_builtin; refine wpList_append_lies _ (by rfl) (.tmp 44) (.tmp 46) 23 (by rfl) w1.heap.size 32 i0 (.agg enZ) 33 152 Tryd.underlying23 hi hz0 hz1 hz2 rfl (by decide) (.slice Av (cleanTo L k).length cv) (cleanTo L k).length (enL (cleanTo L k)) (by rfl) ?g1 ⟨W6.heap.size, 0, none⟩ 1 1 cm.toList (by rfl) ?g0 ?g2 HCo.out (by decide) ?g4 ?g5 ?g6 (W6.heap.size + 1) ?g7 ?_))
          case hf => exact HFi.out
          case g0 => rw [HCl.out]
          case g1 => exact HOw6.out.alloc _
          case g2 => exact World.news_of_block (blk_new _ rfl)
          case g4 => unfold maxLen; omega
          case g5 => omega
          case g6 => simp; omega
          case g7 => simp
          intro g5 cap5 wb hownb hgrb hatb hltb
          have hbb := below_grown23 (HOw6.out.alloc _) hgrb (by simp; omega)
          have HBb := Lib.hid ((HB6.out.alloc hs6 _).trans hbb)
          have HOb := Lib.hid (show wb.ownsRow w1.heap.size 32 33 (.slice (some ⟨g5, 0, none⟩) ((cleanTo L k).length + 1) cap5) (cleanTo L (k + 1)).length (enL (cleanTo L (k + 1))) by rw [HSn.out, HLn.out]; exact hownb)
          clear hownb hgrb hatb hltb hbb
          go_wp2
          go_roundw
          case rel => exact ⟨k + 1, hlt, by go_num, HOb.out, HBb.out⟩
          case measure => simp [intOf]; omega
    · obtain rfl : k = L.length := by omega
      have hCl := cleanTo_clean L HO.out HR.out L.length
      have hC24 : (cleanTo L L.length).length ≤ 24 := by have := cleanTo_len L L.length; omega
      generalize cleanTo L L.length = C at hCl hC24 Hown
      have HCl := Lib.hid hCl
      have HOC := Lib.hid (show ∀ e ∈ C, e.Ok from fun e he => (hCl e he).1)
      have HRC := Lib.hid (show ∀ e ∈ C, e.right = true from fun e he => (hCl e he).2.1)
      have HB2 := Lib.hid (below_via HB1.out Hbel.out)
      have HRdC := Lib.hid (show Rd wr wr.heap.size 33 Av C.length (enL C) from Rd.of_own Hown.out)
      have HD := Lib.hid (fdemand_ok C Av cv wr HOC.out HRdC.out hC24 (HL.out.go HB2.out) HRC.out)
      rw [hCl.dem 0, hCl.dem 1] at HD
      unfold fV at HD
      dsimp only at HD
      obtain ⟨T, hT⟩ : ∃ T : Int, (C.length : Int) * max ((C.length : Int) - 1) 0 = T := ⟨_, rfl⟩
      obtain ⟨M, hM⟩ : ∃ M : Int, max ((C.length : Int) - 1) 0 = M := ⟨_, rfl⟩
      rw [hT] at HD
      rw [hM] at hT
      have hMb : 0 ≤ M ∧ M ≤ 23 := by omega
      have hTb : 0 ≤ T ∧ T ≤ 24 * 23 := by rw [← hT]; exact ⟨Int.mul_nonneg (by omega) hMb.1, Int.mul_le_mul (by omega) hMb.2 hMb.1 (by decide)⟩
      have HM := Lib.hid hM
      have HT := Lib.hid hT
      have HQ := Lib.hid (fun W => q23_any T 1 W)
      clear hCl hM hT HRd1 HO HR HB1 hk hlt hsr hl24
      go_wp2_with fail
      refine HD.out.mono ?_
      rintro ee w2 ⟨rfl, hb2⟩
      go_upto_region 11 with fail
      obtain ⟨P, hP⟩ : ∃ P, w2.heap.size = P := ⟨_, rfl⟩
      obtain ⟨W2, hW2⟩ : ∃ V, (w2.alloc (.cells #[.int .i64 T, .int .i64 1] 42)).alloc (.cells #[.int .i64 T, .int .i64 1] 42) = V := ⟨_, rfl⟩
      have hb22 : Below wr.heap.size wr W2 := by rw [← hW2]; exact (hb2.alloc hb2.size _).alloc (by have := hb2.size; simp; omega) _
      have k13 : W2.heap[P]? = some (.cells #[.int .i64 T, .int .i64 1] 42 (0, 0)) := by rw [← hW2]; exact blk_alloc (blk_new _ hP.symm) _
      have k14 : W2.heap[P + 1]? = some (.cells #[.int .i64 T, .int .i64 1] 42 (0, 0)) := by rw [← hW2]; exact blk_new _ (by simp; omega)
      rw [hW2, hP]
      have HB22 := Lib.hid hb22
      have K13 := Lib.hid k13
      have K14 := Lib.hid k14
      have l14 := blk_lt k14
      clear hW2 hP hb2 hb22 k13 k14 HD
      have a1 : IntKind.i64.wrap ((C.length : Int) - 1) = (C.length : Int) - 1 := IntWalk.i64_in _ (by omega)
      have a2 : IntKind.i64.wrap ((C.length : Int) * M) = T := by rw [HT.out]; exact IntWalk.i64_in _ (by omega)
      have a3 := HM.out
      have a4 : max 0 ((C.length : Int) - 1) = M := by rw [Int.max_comm]; exact a3
      have a5 : (C.length : Int) * M = T := HT.out
      go_wp2_with fail
      refine (HQ.out W2).mono ?_
      rintro ee w3 ⟨rfl, hb3⟩
      clear a1 a2 a3 a4 a5
      go_upto_region 12 with fail
      obtain ⟨Q, hQ⟩ : ∃ P, w3.heap.size = P := ⟨_, rfl⟩
      obtain ⟨W3, hW3⟩ : ∃ V, w3.alloc (.cells #[.int .i64 T, .int .i64 1] 42) = V := ⟨_, rfl⟩
      have hb33 : Below W2.heap.size W2 W3 := by rw [← hW3]; exact hb3.alloc hb3.size _
      have k16 : W3.heap[Q]? = some (.cells #[.int .i64 T, .int .i64 1] 42 (0, 0)) := by rw [← hW3]; exact blk_new _ hQ.symm
      have x0 := blk_cell (blk_below K13.out hb33 (by omega)) 0
      have x1 := blk_cell (blk_below K13.out hb33 (by omega)) 1
      have y0 := blk_cell (blk_below K14.out hb33 l14) 0
      have y1 := blk_cell (blk_below K14.out hb33 l14) 1
      have z0 := blk_cell k16 0
      have z1 := blk_cell k16 1
      rw [hW3, hQ]
      have HB3 := Lib.hid (below_via HB22.out hb33)
      have HRd3 := Lib.hid (HRdC.out.go HB3.out)
      have HBw3 := Lib.hid (below_via HB2.out HB3.out)
      clear hW3 hQ hb33 k16 hb3 K13 K14 HB22 HRdC HB2 HQ HM HT l14
      by_cases h24 : C.length = 24
      · have e24 : (C.length : Int) = 24 := by omega
        have t24 : ((C.length : Int) == 24) = true := by rw [e24]; rfl
        clear h24
        go_wp2_with fail
        refine (awake23 W3 (HL.out.go HBw3.out) (HLm.out.below HBw3.out HLm.out.lt)).mono ?_
        rintro ee we ⟨rfl, hbe⟩
        go_wp2_with fail
        go_ret
        exact ⟨rfl, below_via HBw3.out hbe⟩
      have t24 : ((C.length : Int) == 24) = false := beq_eq_false_iff_ne.2 (by omega)
      have n24 : ¬ (C.length : Int) = 24 := by omega
      go_upto_region 16 with fail
      clear x0 x1 y0 y1 z0 z1 t24 n24
      obtain ⟨k, hk⟩ : ∃ k : Nat, at_ % ((C.length : Int) + 1) = (k : Int) := ⟨(at_ % ((C.length : Int) + 1)).toNat, by have := Int.emod_nonneg at_ (show (C.length : Int) + 1 ≠ 0 by omega); omega⟩
      have hkl : k ≤ C.length := by have := Int.emod_lt_of_pos at_ (show (0 : Int) < (C.length : Int) + 1 by omega); omega
      have hzb : ((C.length : Int) + 1 == 0) = false := beq_eq_false_iff_ne.2 (by omega)
      have hzn : ¬ (C.length : Int) + 1 = 0 := by omega
      go_upto_region 17 with fail
      rw [hk]
      have Hk := Lib.hid hk
      clear hk hzb hzn
      have hfb : 0 ≤ at_ % 4 ∧ at_ % 4 ≤ 3 := by omega
      have HVo := Lib.hid (voidE_ok n (at_ % 4) ⟨hfb.1, by omega⟩)
      have HIv := Lib.hid (show (Tryd.prog.info? 32).map (·.size) = some (voidC n (at_ % 4)).size from HVo.out.1.size)
      have HVc := Lib.hid (show (voidC n (at_ % 4)).size = 33 from HVo.out.1.1)
      have HV1 := Lib.hid (show (voidC n (at_ % 4)).all (·.oneCell') = true from HVo.out.2.1)
      go_upto_region 18 with (first | (refine plain_alloc_to rfl 32 rfl enZ enZ_zero ?_) | (refine wpList_build_to rfl 32 _ rfl (voidC n (at_ % 4)) (by kernel_rfl) ?_) | (refine wpList_store_new23 rfl 32 _ _ rfl (voidC n (at_ % 4)) _ _ rfl rfl HIv.out (by rw [HVc.out]; rfl) HV1.out ?_))
      obtain ⟨f, hf⟩ : ∃ f, at_ % 4 = f := ⟨_, rfl⟩
      rw [hf] at hfb HVo HIv HVc HV1 ⊢
      clear hf
      obtain ⟨G, hG⟩ : ∃ g, W3.heap.size = g := ⟨_, rfl⟩
      obtain ⟨W4, hW4⟩ : ∃ V, W3.alloc (.cells (voidC n f) 32) = V := ⟨_, rfl⟩
      have KV := Lib.hid (show W4.heap[G]? = some (.cells (voidC n f) 32 (0, 0)) by rw [← hW4]; exact blk_new _ hG.symm)
      have hb34 : Below W3.heap.size W3 W4 := by rw [← hW4]; exact (by repeat (first | exact Below.refl _ _ | assumption | refine Below.drew ?_ | refine below_drewN ?_ _ | refine Below.alloc ?_ (by first | omega | (simp; done) | (simp; omega)) _ | refine Below.setCell ?_ (by first | omega | (simp; done) | (simp; omega)) _))
      have HB4 := Lib.hid (below_via HB3.out hb34)
      have HRd4 := Lib.hid (HRd3.out.go hb34)
      have HBw4 := Lib.hid (below_via HBw3.out hb34)
      rw [hW4, hG]
      clear hW4 hG hb34 HB3 HRd3 HBw3
      have hCe := HOC.out
      have HRt := Lib.hid (HRd4.out.pre hkl)
      have HCl33 := Lib.hid (enL_len C (fun e he => (HOC.out e he).1.1))
      have HFv := Lib.hid (fills_one (size := 33) (Z := enZ) (C := voidC n f) HVc.out)
      have HVl := Lib.hid (show (voidC n f).toList.length = 33 by simp [HVc.out])
      have HVo1 := Lib.hid (show ∀ u ∈ (voidC n f).toList, u.oneCell' = true from fun u hu => Array.all_eq_true_iff_forall_mem.1 HV1.out u (by simpa using hu))
      have HE1 := Lib.hid (enL_one23 C HOC.out)
      have HS33 := Lib.hid (show ∀ e ∈ C, e.C.size = 33 from fun e he => (HOC.out e he).1.1)
      have lG := blk_lt KV.out
      have hwsz : w.heap.size ≤ W4.heap.size := HBw4.out.size
      go_frame
      go_cut [10, 19] (fun s10 v wz => s10 = .slice Av C.length cv ∧ wz.ownsRow W4.heap.size 32 33 v (C.length + 1) (enL (insE C k (voidE n f))) ∧ Below W4.heap.size W4 wz)
      case first =>
        have hb0 : Below W4.heap.size W4 W4.drew := (Below.refl _ _).drew
        cases Av with
        | none =>
          have hcv : cv = 0 := own_src Hown.out rfl
          have hC0 : C.length = 0 := by
            rcases Nat.eq_zero_or_pos C.length with h | h
            · exact h
            · obtain ⟨b, off, e, _⟩ := HRd4.out.pos h
              cases e
          obtain rfl : k = 0 := by omega
          subst hcv
          rw [hC0]
          have HC0 := Lib.hid hC0
          have HRs := Lib.hid (show Rd W4 W4.heap.size 33 none 0 ((enL C).drop (0 * 33)) from ⟨by rw [List.length_drop, HCl33.out, hC0], fun h => absurd h (by decide)⟩)
          have finN : ∀ {W : World} {v : Value}, W.ownsRow W4.heap.size 32 33 v (0 + 0 + 1 + 0) ([] ++ (enL C).take (0 * 33) ++ (voidC n f).toList ++ (enL C).drop (0 * 33)) → W.ownsRow W4.heap.size 32 33 v (C.length + 1) (enL (insE C 0 (voidE n f))) := fun {W v} h => by
            rw [HC0.out, ins_cells C HS33.out 0 (Nat.zero_le _) (voidE n f)]
            exact h
          clear hC0
          refine wp_region_held_drew (S := fun wq => Below W4.heap.size W4 wq) (by kernel_rfl) hb0 (fun hHeld => ?_)
          refine take_named23 (i := 1) (d := 90) (v := ?vN1) rfl (by kernel_rfl) (by kernel_rfl) (by kernel_rfl) (by kernel_rfl) (fun _ _ _ h => h) (Or.inl ⟨by kernel_rfl, ?yN1⟩) (by assumption) ?_
          case yN1 => intro wq hSw; (try dsimp only at hSw); go_simp; (try with_reducible rfl)
          (try simp only [Act.put, List.setIfInBounds_toArray, List.set_cons_zero, List.set_cons_succ])
          refine take_named23 (i := 2) (d := 91) (v := ?vN2) rfl (by kernel_rfl) (by kernel_rfl) (by kernel_rfl) (by kernel_rfl) (fun _ _ _ h => h) (Or.inl ⟨by kernel_rfl, ?yN2⟩) (by assumption) ?_
          case yN2 => intro wq hSw; (try dsimp only at hSw); go_simp; (try with_reducible rfl)
          (try simp only [Act.put, List.setIfInBounds_toArray, List.set_cons_zero, List.set_cons_succ])
          refine take_named23 (i := 3) (d := 92) (v := ?vN3) rfl (by kernel_rfl) (by kernel_rfl) (by kernel_rfl) (by kernel_rfl) (fun _ _ _ h => h) (Or.inl ⟨by kernel_rfl, ?yN3⟩) (by assumption) ?_
          case yN3 => intro wq hSw; (try dsimp only at hSw); go_simp; (try with_reducible rfl)
          (try simp only [Act.put, List.setIfInBounds_toArray, List.set_cons_zero, List.set_cons_succ])
          refine take_named23 (i := 8) (d := 97) (v := ?vN8) rfl (by kernel_rfl) (by kernel_rfl) (by kernel_rfl) (by kernel_rfl) (fun _ _ _ h => h) (Or.inl ⟨by kernel_rfl, ?yN8⟩) (by assumption) ?_
          case yN8 => intro wq hSw; (try dsimp only at hSw); go_simp; (try with_reducible rfl)
          (try simp only [Act.put, List.setIfInBounds_toArray, List.set_cons_zero, List.set_cons_succ])
          refine take_named23 (i := 9) (d := 98) (v := ?vN9) rfl (by kernel_rfl) (by kernel_rfl) (by kernel_rfl) (by kernel_rfl) (fun _ _ _ h => h) (Or.inl ⟨by kernel_rfl, ?yN9⟩) (by assumption) ?_
          case yN9 => intro wq hSw; (try dsimp only at hSw); go_simp; (try with_reducible rfl)
          (try simp only [Act.put, List.setIfInBounds_toArray, List.set_cons_zero, List.set_cons_succ])
          refine take_named23 (i := 10) (d := 99) (v := ?vN10) rfl (by kernel_rfl) (by kernel_rfl) (by kernel_rfl) (by kernel_rfl) (fun _ _ _ h => h) (Or.inl ⟨by kernel_rfl, ?yN10⟩) (by assumption) ?_
          case yN10 => intro wq hSw; (try dsimp only at hSw); go_simp; (try with_reducible rfl)
          (try simp only [Act.put, List.setIfInBounds_toArray, List.set_cons_zero, List.set_cons_succ])
          refine take_named23 (i := 5) (d := 94) (v := .agg (voidC n f)) rfl (by kernel_rfl) (by kernel_rfl) (by kernel_rfl) (by kernel_rfl) (fun _ _ _ h => h) (yieldsIf_load_row23 (by kernel_rfl) 32 (.tmp 18) rfl G rfl 32 (voidC n f) (0, 0) _ (fun w h => blk_below KV.out h lG) Tryd.underlying32 rfl HIv.out) (by assumption) ?_
          (try simp only [Act.put, List.setIfInBounds_toArray, List.set_cons_zero, List.set_cons_succ])
          refine wpAnyH_ready (rs := [0, 6]) (by kernel_rfl) (by simp) ?_
          refine AllReadyH.cons rfl (fun K hK => ?_) (AllReadyH.cons rfl (fun K hK => ?_) (AllReadyH.nil))
          · rw [if_pos (by kernel_rfl)]
            refine wp_buildSlice_zero23 23 32 rfl i0 Tryd.underlying23 hi 89 rfl ?_
            obtain ⟨vN1, evN1⟩ : ∃ V, (W4.drew).alloc (.cells #[] 32) = V := ⟨_, rfl⟩
            obtain ⟨mN1, emN1⟩ : ∃ m, (W4.drew).heap.size = m := ⟨_, rfl⟩
            have hbN1 : Below W4.heap.size W4 vN1 := by rw [← evN1]; exact (hb0).alloc (hb0).size _
            have hoN1 : vN1.ownsRow W4.heap.size 32 33 (.slice (some ⟨mN1, 0, none⟩) 0 0) 0 [] := by rw [← evN1]; exact own_mono (own_empty _ _ _ mN1 emN1.symm) (by rw [← emN1]; exact (hb0).size)
            rw [evN1, emN1]
            clear evN1
            refine hK.out _ _ hbN1 (fun hHN1 => ?_)
            clear hK K hHeld
            (try simp only [Act.put, List.setIfInBounds_toArray, List.set_cons_zero, List.set_cons_succ])
            refine wpAnyH_ready (rs := [4, 6]) (by kernel_rfl) (by simp) ?_
            refine AllReadyH.cons rfl (fun K hK => ?_) (AllReadyH.cons rfl (fun K hK => ?_) (AllReadyH.nil))
            · rw [if_pos (by kernel_rfl)]
              refine wp_append_src23 (.tmp 89) (.tmp 92) 23 rfl W4.heap.size 32 i0 (.agg enZ) 33 152 Tryd.underlying23 hi hz0 hz1 hz2 rfl (by decide) (.slice (some ⟨mN1, 0, none⟩) 0 0) (0) ([]) rfl (hoN1) none (0) (0) (W4.heap.size) ((enL C).take (0 * 33)) rfl (HRt.out.below (hbN1)) (fun h => by cases h <;> rfl) (fun u hu => HE1.out u (List.mem_of_mem_take hu)) (by unfold maxLen; omega) (by omega) (hbN1).size 93 rfl ?_
              intro uN2 vN2 hoN2 hgN2
              have hbN2 : Below W4.heap.size W4 vN2 := (hbN1).grown hgN2 (hbN1).size (fun g hg => ((hoN1).lt g hg).1)
              refine hK.out _ _ hbN2 (fun hHN2 => ?_)
              clear hK K hHN1
              (try simp only [Act.put, List.setIfInBounds_toArray, List.set_cons_zero, List.set_cons_succ])
              refine wpAnyH_ready (rs := [6]) (by kernel_rfl) (by simp) ?_
              refine AllReadyH.cons rfl (fun K hK => ?_) (AllReadyH.nil)
              rw [if_pos (by kernel_rfl)]
              refine wp_buildSlice_one23 23 32 (.tmp 94) rfl i0 (.agg enZ) 33 (voidC n f) Tryd.underlying23 hi hz0 hz1 (by decide) (by decide) rfl HFv.out 95 rfl ?_
              obtain ⟨vN3, evN3⟩ : ∃ V, (vN2).alloc (.cells (voidC n f) 32) = V := ⟨_, rfl⟩
              obtain ⟨mN3, emN3⟩ : ∃ m, (vN2).heap.size = m := ⟨_, rfl⟩
              have hbN3 : Below W4.heap.size W4 vN3 := by rw [← evN3]; exact (hbN2).alloc (hbN2).size _
              have hqN3 : vN3.heap[mN3]? = some (.cells (voidC n f) 32 (0, 0)) := by rw [← evN3]; exact blk_new _ emN3.symm
              have hoN3 : vN3.ownsRow W4.heap.size 32 33 uN2 (0 + 0) ([] ++ ((enL C).take (0 * 33))) := by rw [← evN3]; exact (hoN2).alloc _
              have hxN3 : ∀ g, (uN2 : Value).ownBlock = some g → g ≠ mN3 := fun g hg e => by have := ((hoN2).lt g hg).2; omega
              rw [evN3, emN3]
              clear evN3
              refine hK.out _ _ hbN3 (fun hHN3 => ?_)
              clear hK K hHN2
              (try simp only [Act.put, List.setIfInBounds_toArray, List.set_cons_zero, List.set_cons_succ])
              refine wpAnyH_ready (rs := [7]) (by kernel_rfl) (by simp) ?_
              refine AllReadyH.cons rfl (fun K hK => ?_) (AllReadyH.nil)
              rw [if_pos (by kernel_rfl)]
              refine wp_append_src23 (.tmp 93) (.tmp 95) 23 rfl W4.heap.size 32 i0 (.agg enZ) 33 152 Tryd.underlying23 hi hz0 hz1 hz2 rfl (by decide) uN2 (0 + 0) ([] ++ ((enL C).take (0 * 33))) rfl (hoN3) (some ⟨mN3, 0, none⟩) (1) (1) ((vN3).heap.size) (voidC n f).toList rfl (rd_of_blk hqN3 (by rw [List.take_of_length_le (by rw [HVl.out]; decide)]) (by rw [HVl.out])) (fun h => by cases h <;> rfl) HVo1.out (by unfold maxLen; omega) (by omega) (hbN3).size 96 rfl ?_
              intro uN4 vN4 hoN4 hgN4
              have hbN4 : Below W4.heap.size W4 vN4 := (hbN3).grown hgN4 (hbN3).size (fun g hg => ((hoN3).lt g hg).1)
              refine hK.out _ _ hbN4 (fun hHN4 => ?_)
              clear hK K hHN3
              (try simp only [Act.put, List.setIfInBounds_toArray, List.set_cons_zero, List.set_cons_succ])
              refine wpAnyH_ready (rs := [11]) (by kernel_rfl) (by simp) ?_
              refine AllReadyH.cons rfl (fun K hK => ?_) (AllReadyH.nil)
              rw [if_pos (by kernel_rfl)]
              refine wp_append_src23 (.tmp 96) (.tmp 99) 23 rfl W4.heap.size 32 i0 (.agg enZ) 33 152 Tryd.underlying23 hi hz0 hz1 hz2 rfl (by decide) uN4 (0 + 0 + 1) ([] ++ ((enL C).take (0 * 33)) ++ (voidC n f).toList) rfl (hoN4) none (0) (0) (W4.heap.size) ((enL C).drop (0 * 33)) rfl (HRs.out.below (hbN4)) (fun h => by cases h <;> rfl) (fun u hu => HE1.out u (List.mem_of_mem_drop hu)) (by unfold maxLen; omega) (by omega) (hbN4).size 100 rfl ?_
              intro uN5 vN5 hoN5 hgN5
              have hbN5 : Below W4.heap.size W4 vN5 := (hbN4).grown hgN5 (hbN4).size (fun g hg => ((hoN4).lt g hg).1)
              refine hK.out _ _ hbN5 (fun hHN5 => ?_)
              clear hK K hHN4
              (try simp only [Act.put, List.setIfInBounds_toArray, List.set_cons_zero, List.set_cons_succ])
              refine take_named23 (i := 12) (d := 19) (v := uN5) rfl (by kernel_rfl) (by kernel_rfl) (by kernel_rfl) (by kernel_rfl) (fun _ _ _ h => h) (Or.inl ⟨by kernel_rfl, ?yN105⟩) (by assumption) ?_
              case yN105 => intro wq hSw; (try dsimp only at hSw); go_simp; (try with_reducible rfl)
              (try simp only [Act.put, List.setIfInBounds_toArray, List.set_cons_zero, List.set_cons_succ])
              refine wpAnyH_done (by kernel_rfl) ?_ _
              clear hHN5
              go_step
              go_step
              go_meet
              exact ⟨by rw [HC0.out], finN hoN5, hbN5⟩
            · rw [if_pos (by kernel_rfl)]
              refine wp_buildSlice_one23 23 32 (.tmp 94) rfl i0 (.agg enZ) 33 (voidC n f) Tryd.underlying23 hi hz0 hz1 (by decide) (by decide) rfl HFv.out 95 rfl ?_
              obtain ⟨vN6, evN6⟩ : ∃ V, (vN1).alloc (.cells (voidC n f) 32) = V := ⟨_, rfl⟩
              obtain ⟨mN6, emN6⟩ : ∃ m, (vN1).heap.size = m := ⟨_, rfl⟩
              have hbN6 : Below W4.heap.size W4 vN6 := by rw [← evN6]; exact (hbN1).alloc (hbN1).size _
              have hqN6 : vN6.heap[mN6]? = some (.cells (voidC n f) 32 (0, 0)) := by rw [← evN6]; exact blk_new _ emN6.symm
              have hoN6 : vN6.ownsRow W4.heap.size 32 33 (.slice (some ⟨mN1, 0, none⟩) 0 0) (0) ([]) := by rw [← evN6]; exact (hoN1).alloc _
              have hxN6 : ∀ g, ((.slice (some ⟨mN1, 0, none⟩) 0 0) : Value).ownBlock = some g → g ≠ mN6 := fun g hg e => by have := ((hoN1).lt g hg).2; omega
              rw [evN6, emN6]
              clear evN6
              refine hK.out _ _ hbN6 (fun hHN6 => ?_)
              clear hK K hHN1
              (try simp only [Act.put, List.setIfInBounds_toArray, List.set_cons_zero, List.set_cons_succ])
              refine wpAnyH_ready (rs := [4]) (by kernel_rfl) (by simp) ?_
              refine AllReadyH.cons rfl (fun K hK => ?_) (AllReadyH.nil)
              rw [if_pos (by kernel_rfl)]
              refine wp_append_src23 (.tmp 89) (.tmp 92) 23 rfl W4.heap.size 32 i0 (.agg enZ) 33 152 Tryd.underlying23 hi hz0 hz1 hz2 rfl (by decide) (.slice (some ⟨mN1, 0, none⟩) 0 0) (0) ([]) rfl (hoN6) none (0) (0) (W4.heap.size) ((enL C).take (0 * 33)) rfl (HRt.out.below (hbN6)) (fun h => by cases h <;> rfl) (fun u hu => HE1.out u (List.mem_of_mem_take hu)) (by unfold maxLen; omega) (by omega) (hbN6).size 93 rfl ?_
              intro uN7 vN7 hoN7 hgN7
              have hbN7 : Below W4.heap.size W4 vN7 := (hbN6).grown hgN7 (hbN6).size (fun g hg => ((hoN6).lt g hg).1)
              have hqN7 : vN7.heap[mN6]? = some (.cells (voidC n f) 32 (0, 0)) := (hgN7.block mN6 (blk_lt hqN6) (fun e => hxN6 mN6 e.symm rfl)).trans hqN6
              refine hK.out _ _ hbN7 (fun hHN7 => ?_)
              clear hK K hHN6
              (try simp only [Act.put, List.setIfInBounds_toArray, List.set_cons_zero, List.set_cons_succ])
              refine wpAnyH_ready (rs := [7]) (by kernel_rfl) (by simp) ?_
              refine AllReadyH.cons rfl (fun K hK => ?_) (AllReadyH.nil)
              rw [if_pos (by kernel_rfl)]
              refine wp_append_src23 (.tmp 93) (.tmp 95) 23 rfl W4.heap.size 32 i0 (.agg enZ) 33 152 Tryd.underlying23 hi hz0 hz1 hz2 rfl (by decide) uN7 (0 + 0) ([] ++ ((enL C).take (0 * 33))) rfl (hoN7) (some ⟨mN6, 0, none⟩) (1) (1) ((vN7).heap.size) (voidC n f).toList rfl (rd_of_blk hqN7 (by rw [List.take_of_length_le (by rw [HVl.out]; decide)]) (by rw [HVl.out])) (fun h => by cases h <;> rfl) HVo1.out (by unfold maxLen; omega) (by omega) (hbN7).size 96 rfl ?_
              intro uN8 vN8 hoN8 hgN8
              have hbN8 : Below W4.heap.size W4 vN8 := (hbN7).grown hgN8 (hbN7).size (fun g hg => ((hoN7).lt g hg).1)
              refine hK.out _ _ hbN8 (fun hHN8 => ?_)
              clear hK K hHN7
              (try simp only [Act.put, List.setIfInBounds_toArray, List.set_cons_zero, List.set_cons_succ])
              refine wpAnyH_ready (rs := [11]) (by kernel_rfl) (by simp) ?_
              refine AllReadyH.cons rfl (fun K hK => ?_) (AllReadyH.nil)
              rw [if_pos (by kernel_rfl)]
              refine wp_append_src23 (.tmp 96) (.tmp 99) 23 rfl W4.heap.size 32 i0 (.agg enZ) 33 152 Tryd.underlying23 hi hz0 hz1 hz2 rfl (by decide) uN8 (0 + 0 + 1) ([] ++ ((enL C).take (0 * 33)) ++ (voidC n f).toList) rfl (hoN8) none (0) (0) (W4.heap.size) ((enL C).drop (0 * 33)) rfl (HRs.out.below (hbN8)) (fun h => by cases h <;> rfl) (fun u hu => HE1.out u (List.mem_of_mem_drop hu)) (by unfold maxLen; omega) (by omega) (hbN8).size 100 rfl ?_
              intro uN9 vN9 hoN9 hgN9
              have hbN9 : Below W4.heap.size W4 vN9 := (hbN8).grown hgN9 (hbN8).size (fun g hg => ((hoN8).lt g hg).1)
              refine hK.out _ _ hbN9 (fun hHN9 => ?_)
              clear hK K hHN8
              (try simp only [Act.put, List.setIfInBounds_toArray, List.set_cons_zero, List.set_cons_succ])
              refine take_named23 (i := 12) (d := 19) (v := uN9) rfl (by kernel_rfl) (by kernel_rfl) (by kernel_rfl) (by kernel_rfl) (fun _ _ _ h => h) (Or.inl ⟨by kernel_rfl, ?yN109⟩) (by assumption) ?_
              case yN109 => intro wq hSw; (try dsimp only at hSw); go_simp; (try with_reducible rfl)
              (try simp only [Act.put, List.setIfInBounds_toArray, List.set_cons_zero, List.set_cons_succ])
              refine wpAnyH_done (by kernel_rfl) ?_ _
              clear hHN9
              go_step
              go_step
              go_meet
              exact ⟨by rw [HC0.out], finN hoN9, hbN9⟩
          · rw [if_pos (by kernel_rfl)]
            refine wp_buildSlice_one23 23 32 (.tmp 94) rfl i0 (.agg enZ) 33 (voidC n f) Tryd.underlying23 hi hz0 hz1 (by decide) (by decide) rfl HFv.out 95 rfl ?_
            obtain ⟨vN10, evN10⟩ : ∃ V, (W4.drew).alloc (.cells (voidC n f) 32) = V := ⟨_, rfl⟩
            obtain ⟨mN10, emN10⟩ : ∃ m, (W4.drew).heap.size = m := ⟨_, rfl⟩
            have hbN10 : Below W4.heap.size W4 vN10 := by rw [← evN10]; exact (hb0).alloc (hb0).size _
            have hqN10 : vN10.heap[mN10]? = some (.cells (voidC n f) 32 (0, 0)) := by rw [← evN10]; exact blk_new _ emN10.symm
            rw [evN10, emN10]
            clear evN10
            refine hK.out _ _ hbN10 (fun hHN10 => ?_)
            clear hK K hHeld
            (try simp only [Act.put, List.setIfInBounds_toArray, List.set_cons_zero, List.set_cons_succ])
            refine wpAnyH_ready (rs := [0]) (by kernel_rfl) (by simp) ?_
            refine AllReadyH.cons rfl (fun K hK => ?_) (AllReadyH.nil)
            rw [if_pos (by kernel_rfl)]
            refine wp_buildSlice_zero23 23 32 rfl i0 Tryd.underlying23 hi 89 rfl ?_
            obtain ⟨vN11, evN11⟩ : ∃ V, (vN10).alloc (.cells #[] 32) = V := ⟨_, rfl⟩
            obtain ⟨mN11, emN11⟩ : ∃ m, (vN10).heap.size = m := ⟨_, rfl⟩
            have hbN11 : Below W4.heap.size W4 vN11 := by rw [← evN11]; exact (hbN10).alloc (hbN10).size _
            have hoN11 : vN11.ownsRow W4.heap.size 32 33 (.slice (some ⟨mN11, 0, none⟩) 0 0) 0 [] := by rw [← evN11]; exact own_mono (own_empty _ _ _ mN11 emN11.symm) (by rw [← emN11]; exact (hbN10).size)
            have hqN11 : vN11.heap[mN10]? = some (.cells (voidC n f) 32 (0, 0)) := by rw [← evN11]; exact blk_alloc hqN10 _
            have hxN11 : ∀ g, (Value.slice (some ⟨mN11, 0, none⟩) 0 0).ownBlock = some g → g ≠ mN10 := fun g hg e => by have := blk_lt hqN10; simp [Value.ownBlock] at hg; omega
            rw [evN11, emN11]
            clear evN11
            refine hK.out _ _ hbN11 (fun hHN11 => ?_)
            clear hK K hHN10
            (try simp only [Act.put, List.setIfInBounds_toArray, List.set_cons_zero, List.set_cons_succ])
            refine wpAnyH_ready (rs := [4]) (by kernel_rfl) (by simp) ?_
            refine AllReadyH.cons rfl (fun K hK => ?_) (AllReadyH.nil)
            rw [if_pos (by kernel_rfl)]
            refine wp_append_src23 (.tmp 89) (.tmp 92) 23 rfl W4.heap.size 32 i0 (.agg enZ) 33 152 Tryd.underlying23 hi hz0 hz1 hz2 rfl (by decide) (.slice (some ⟨mN11, 0, none⟩) 0 0) (0) ([]) rfl (hoN11) none (0) (0) (W4.heap.size) ((enL C).take (0 * 33)) rfl (HRt.out.below (hbN11)) (fun h => by cases h <;> rfl) (fun u hu => HE1.out u (List.mem_of_mem_take hu)) (by unfold maxLen; omega) (by omega) (hbN11).size 93 rfl ?_
            intro uN12 vN12 hoN12 hgN12
            have hbN12 : Below W4.heap.size W4 vN12 := (hbN11).grown hgN12 (hbN11).size (fun g hg => ((hoN11).lt g hg).1)
            have hqN12 : vN12.heap[mN10]? = some (.cells (voidC n f) 32 (0, 0)) := (hgN12.block mN10 (blk_lt hqN11) (fun e => hxN11 mN10 e.symm rfl)).trans hqN11
            refine hK.out _ _ hbN12 (fun hHN12 => ?_)
            clear hK K hHN11
            (try simp only [Act.put, List.setIfInBounds_toArray, List.set_cons_zero, List.set_cons_succ])
            refine wpAnyH_ready (rs := [7]) (by kernel_rfl) (by simp) ?_
            refine AllReadyH.cons rfl (fun K hK => ?_) (AllReadyH.nil)
            rw [if_pos (by kernel_rfl)]
            refine wp_append_src23 (.tmp 93) (.tmp 95) 23 rfl W4.heap.size 32 i0 (.agg enZ) 33 152 Tryd.underlying23 hi hz0 hz1 hz2 rfl (by decide) uN12 (0 + 0) ([] ++ ((enL C).take (0 * 33))) rfl (hoN12) (some ⟨mN10, 0, none⟩) (1) (1) ((vN12).heap.size) (voidC n f).toList rfl (rd_of_blk hqN12 (by rw [List.take_of_length_le (by rw [HVl.out]; decide)]) (by rw [HVl.out])) (fun h => by cases h <;> rfl) HVo1.out (by unfold maxLen; omega) (by omega) (hbN12).size 96 rfl ?_
            intro uN13 vN13 hoN13 hgN13
            have hbN13 : Below W4.heap.size W4 vN13 := (hbN12).grown hgN13 (hbN12).size (fun g hg => ((hoN12).lt g hg).1)
            refine hK.out _ _ hbN13 (fun hHN13 => ?_)
            clear hK K hHN12
            (try simp only [Act.put, List.setIfInBounds_toArray, List.set_cons_zero, List.set_cons_succ])
            refine wpAnyH_ready (rs := [11]) (by kernel_rfl) (by simp) ?_
            refine AllReadyH.cons rfl (fun K hK => ?_) (AllReadyH.nil)
            rw [if_pos (by kernel_rfl)]
            refine wp_append_src23 (.tmp 96) (.tmp 99) 23 rfl W4.heap.size 32 i0 (.agg enZ) 33 152 Tryd.underlying23 hi hz0 hz1 hz2 rfl (by decide) uN13 (0 + 0 + 1) ([] ++ ((enL C).take (0 * 33)) ++ (voidC n f).toList) rfl (hoN13) none (0) (0) (W4.heap.size) ((enL C).drop (0 * 33)) rfl (HRs.out.below (hbN13)) (fun h => by cases h <;> rfl) (fun u hu => HE1.out u (List.mem_of_mem_drop hu)) (by unfold maxLen; omega) (by omega) (hbN13).size 100 rfl ?_
            intro uN14 vN14 hoN14 hgN14
            have hbN14 : Below W4.heap.size W4 vN14 := (hbN13).grown hgN14 (hbN13).size (fun g hg => ((hoN13).lt g hg).1)
            refine hK.out _ _ hbN14 (fun hHN14 => ?_)
            clear hK K hHN13
            (try simp only [Act.put, List.setIfInBounds_toArray, List.set_cons_zero, List.set_cons_succ])
            refine take_named23 (i := 12) (d := 19) (v := uN14) rfl (by kernel_rfl) (by kernel_rfl) (by kernel_rfl) (by kernel_rfl) (fun _ _ _ h => h) (Or.inl ⟨by kernel_rfl, ?yN114⟩) (by assumption) ?_
            case yN114 => intro wq hSw; (try dsimp only at hSw); go_simp; (try with_reducible rfl)
            (try simp only [Act.put, List.setIfInBounds_toArray, List.set_cons_zero, List.set_cons_succ])
            refine wpAnyH_done (by kernel_rfl) ?_ _
            clear hHN14
            go_step
            go_step
            go_meet
            exact ⟨by rw [HC0.out], finN hoN14, hbN14⟩
        | some ad =>
          obtain ⟨b, rfl⟩ : ∃ b, ad = ⟨b, 0, none⟩ := by
            rcases Hown.out.2 with ⟨hv, _⟩ | ⟨g, cap, cur, hv, _⟩
            · cases hv
            · injection hv with h1; injection h1 with h1; exact ⟨g, h1⟩
          have hcv : C.length ≤ cv := by
            rcases Hown.out.2 with ⟨hv, _⟩ | ⟨g, cap, cur, hv, _, _, hncap, _⟩
            · cases hv
            · injection hv with h1 h2 h3; omega
          have c1 : (0 : Int) ≤ (k : Int) := by omega
          have c2 : (k : Int) ≤ (C.length : Int) := by omega
          have c3 : (C.length : Int) ≤ (cv : Int) := by omega
          have c4 : (k : Int) ≤ (cv : Int) := by omega
          by_cases hkc : cv = k
          · have hCk : C.length = k := by omega
            subst hkc
            have HCk := Lib.hid hCk
            have HRs := Lib.hid (show Rd W4 W4.heap.size 33 (some ⟨b, 0, none⟩) 0 ((enL C).drop (cv * 33)) from ⟨by rw [List.length_drop, HCl33.out, hCk]; omega, fun h => absurd h (by decide)⟩)
            have finS : ∀ {W : World} {v : Value}, W.ownsRow W4.heap.size 32 33 v (0 + cv + 1 + 0) ([] ++ (enL C).take (cv * 33) ++ (voidC n f).toList ++ (enL C).drop (cv * 33)) → W.ownsRow W4.heap.size 32 33 v (C.length + 1) (enL (insE C cv (voidE n f))) := fun {W v} h => by
              rw [HCk.out, ins_cells C HS33.out cv hkl (voidE n f)]
              have e : 0 + cv + 1 + 0 = cv + 1 := by omega
              rw [e] at h
              exact h
            rw [hCk] at c2 c3 ⊢
            clear hCk
            refine wp_region_held_drew (S := fun wq => Below W4.heap.size W4 wq) (by kernel_rfl) hb0 (fun hHeld => ?_)
            refine take_named23 (i := 1) (d := 90) (v := ?vS1) rfl (by kernel_rfl) (by kernel_rfl) (by kernel_rfl) (by kernel_rfl) (fun _ _ _ h => h) (Or.inl ⟨by kernel_rfl, ?yS1⟩) (by assumption) ?_
            case yS1 => intro wq hSw; (try dsimp only at hSw); go_simp; (try with_reducible rfl)
            (try simp only [Act.put, List.setIfInBounds_toArray, List.set_cons_zero, List.set_cons_succ])
            refine take_named23 (i := 2) (d := 91) (v := ?vS2) rfl (by kernel_rfl) (by kernel_rfl) (by kernel_rfl) (by kernel_rfl) (fun _ _ _ h => h) (Or.inl ⟨by kernel_rfl, ?yS2⟩) (by assumption) ?_
            case yS2 => intro wq hSw; (try dsimp only at hSw); go_simp; (try with_reducible rfl)
            (try simp only [Act.put, List.setIfInBounds_toArray, List.set_cons_zero, List.set_cons_succ])
            refine take_named23 (i := 3) (d := 92) (v := ?vS3) rfl (by kernel_rfl) (by kernel_rfl) (by kernel_rfl) (by kernel_rfl) (fun _ _ _ h => h) (Or.inl ⟨by kernel_rfl, ?yS3⟩) (by assumption) ?_
            case yS3 => intro wq hSw; (try dsimp only at hSw); go_simp; (try with_reducible rfl)
            (try simp only [Act.put, List.setIfInBounds_toArray, List.set_cons_zero, List.set_cons_succ])
            refine take_named23 (i := 8) (d := 97) (v := ?vS8) rfl (by kernel_rfl) (by kernel_rfl) (by kernel_rfl) (by kernel_rfl) (fun _ _ _ h => h) (Or.inl ⟨by kernel_rfl, ?yS8⟩) (by assumption) ?_
            case yS8 => intro wq hSw; (try dsimp only at hSw); go_simp; (try with_reducible rfl)
            (try simp only [Act.put, List.setIfInBounds_toArray, List.set_cons_zero, List.set_cons_succ])
            refine take_named23 (i := 9) (d := 98) (v := ?vS9) rfl (by kernel_rfl) (by kernel_rfl) (by kernel_rfl) (by kernel_rfl) (fun _ _ _ h => h) (Or.inl ⟨by kernel_rfl, ?yS9⟩) (by assumption) ?_
            case yS9 => intro wq hSw; (try dsimp only at hSw); go_simp; (try with_reducible rfl)
            (try simp only [Act.put, List.setIfInBounds_toArray, List.set_cons_zero, List.set_cons_succ])
            refine take_named23 (i := 10) (d := 99) (v := ?vS10) rfl (by kernel_rfl) (by kernel_rfl) (by kernel_rfl) (by kernel_rfl) (fun _ _ _ h => h) (Or.inl ⟨by kernel_rfl, ?yS10⟩) (by assumption) ?_
            case yS10 => intro wq hSw; (try dsimp only at hSw); go_simp; (try with_reducible rfl)
            (try simp only [Act.put, List.setIfInBounds_toArray, List.set_cons_zero, List.set_cons_succ])
            refine take_named23 (i := 5) (d := 94) (v := .agg (voidC n f)) rfl (by kernel_rfl) (by kernel_rfl) (by kernel_rfl) (by kernel_rfl) (fun _ _ _ h => h) (yieldsIf_load_row23 (by kernel_rfl) 32 (.tmp 18) rfl G rfl 32 (voidC n f) (0, 0) _ (fun w h => blk_below KV.out h lG) Tryd.underlying32 rfl HIv.out) (by assumption) ?_
            (try simp only [Act.put, List.setIfInBounds_toArray, List.set_cons_zero, List.set_cons_succ])
            refine wpAnyH_ready (rs := [0, 6]) (by kernel_rfl) (by simp) ?_
            refine AllReadyH.cons rfl (fun K hK => ?_) (AllReadyH.cons rfl (fun K hK => ?_) (AllReadyH.nil))
            · rw [if_pos (by kernel_rfl)]
              refine wp_buildSlice_zero23 23 32 rfl i0 Tryd.underlying23 hi 89 rfl ?_
              obtain ⟨vS1, evS1⟩ : ∃ V, (W4.drew).alloc (.cells #[] 32) = V := ⟨_, rfl⟩
              obtain ⟨mS1, emS1⟩ : ∃ m, (W4.drew).heap.size = m := ⟨_, rfl⟩
              have hbS1 : Below W4.heap.size W4 vS1 := by rw [← evS1]; exact (hb0).alloc (hb0).size _
              have hoS1 : vS1.ownsRow W4.heap.size 32 33 (.slice (some ⟨mS1, 0, none⟩) 0 0) 0 [] := by rw [← evS1]; exact own_mono (own_empty _ _ _ mS1 emS1.symm) (by rw [← emS1]; exact (hb0).size)
              rw [evS1, emS1]
              clear evS1
              refine hK.out _ _ hbS1 (fun hHS1 => ?_)
              clear hK K hHeld
              (try simp only [Act.put, List.setIfInBounds_toArray, List.set_cons_zero, List.set_cons_succ])
              refine wpAnyH_ready (rs := [4, 6]) (by kernel_rfl) (by simp) ?_
              refine AllReadyH.cons rfl (fun K hK => ?_) (AllReadyH.cons rfl (fun K hK => ?_) (AllReadyH.nil))
              · rw [if_pos (by kernel_rfl)]
                refine wp_append_src23 (.tmp 89) (.tmp 92) 23 rfl W4.heap.size 32 i0 (.agg enZ) 33 152 Tryd.underlying23 hi hz0 hz1 hz2 rfl (by decide) (.slice (some ⟨mS1, 0, none⟩) 0 0) (0) ([]) rfl (hoS1) (some ⟨b, 0, none⟩) (cv) (cv) (W4.heap.size) ((enL C).take (cv * 33)) rfl (HRt.out.below (hbS1)) (fun h => by cases h <;> rfl) (fun u hu => HE1.out u (List.mem_of_mem_take hu)) (by unfold maxLen; omega) (by omega) (hbS1).size 93 rfl ?_
                intro uS2 vS2 hoS2 hgS2
                have hbS2 : Below W4.heap.size W4 vS2 := (hbS1).grown hgS2 (hbS1).size (fun g hg => ((hoS1).lt g hg).1)
                refine hK.out _ _ hbS2 (fun hHS2 => ?_)
                clear hK K hHS1
                (try simp only [Act.put, List.setIfInBounds_toArray, List.set_cons_zero, List.set_cons_succ])
                refine wpAnyH_ready (rs := [6]) (by kernel_rfl) (by simp) ?_
                refine AllReadyH.cons rfl (fun K hK => ?_) (AllReadyH.nil)
                rw [if_pos (by kernel_rfl)]
                refine wp_buildSlice_one23 23 32 (.tmp 94) rfl i0 (.agg enZ) 33 (voidC n f) Tryd.underlying23 hi hz0 hz1 (by decide) (by decide) rfl HFv.out 95 rfl ?_
                obtain ⟨vS3, evS3⟩ : ∃ V, (vS2).alloc (.cells (voidC n f) 32) = V := ⟨_, rfl⟩
                obtain ⟨mS3, emS3⟩ : ∃ m, (vS2).heap.size = m := ⟨_, rfl⟩
                have hbS3 : Below W4.heap.size W4 vS3 := by rw [← evS3]; exact (hbS2).alloc (hbS2).size _
                have hqS3 : vS3.heap[mS3]? = some (.cells (voidC n f) 32 (0, 0)) := by rw [← evS3]; exact blk_new _ emS3.symm
                have hoS3 : vS3.ownsRow W4.heap.size 32 33 uS2 (0 + cv) ([] ++ ((enL C).take (cv * 33))) := by rw [← evS3]; exact (hoS2).alloc _
                have hxS3 : ∀ g, (uS2 : Value).ownBlock = some g → g ≠ mS3 := fun g hg e => by have := ((hoS2).lt g hg).2; omega
                rw [evS3, emS3]
                clear evS3
                refine hK.out _ _ hbS3 (fun hHS3 => ?_)
                clear hK K hHS2
                (try simp only [Act.put, List.setIfInBounds_toArray, List.set_cons_zero, List.set_cons_succ])
                refine wpAnyH_ready (rs := [7]) (by kernel_rfl) (by simp) ?_
                refine AllReadyH.cons rfl (fun K hK => ?_) (AllReadyH.nil)
                rw [if_pos (by kernel_rfl)]
                refine wp_append_src23 (.tmp 93) (.tmp 95) 23 rfl W4.heap.size 32 i0 (.agg enZ) 33 152 Tryd.underlying23 hi hz0 hz1 hz2 rfl (by decide) uS2 (0 + cv) ([] ++ ((enL C).take (cv * 33))) rfl (hoS3) (some ⟨mS3, 0, none⟩) (1) (1) ((vS3).heap.size) (voidC n f).toList rfl (rd_of_blk hqS3 (by rw [List.take_of_length_le (by rw [HVl.out]; decide)]) (by rw [HVl.out])) (fun h => by cases h <;> rfl) HVo1.out (by unfold maxLen; omega) (by omega) (hbS3).size 96 rfl ?_
                intro uS4 vS4 hoS4 hgS4
                have hbS4 : Below W4.heap.size W4 vS4 := (hbS3).grown hgS4 (hbS3).size (fun g hg => ((hoS3).lt g hg).1)
                refine hK.out _ _ hbS4 (fun hHS4 => ?_)
                clear hK K hHS3
                (try simp only [Act.put, List.setIfInBounds_toArray, List.set_cons_zero, List.set_cons_succ])
                refine wpAnyH_ready (rs := [11]) (by kernel_rfl) (by simp) ?_
                refine AllReadyH.cons rfl (fun K hK => ?_) (AllReadyH.nil)
                rw [if_pos (by kernel_rfl)]
                refine wp_append_src23 (.tmp 96) (.tmp 99) 23 rfl W4.heap.size 32 i0 (.agg enZ) 33 152 Tryd.underlying23 hi hz0 hz1 hz2 rfl (by decide) uS4 (0 + cv + 1) ([] ++ ((enL C).take (cv * 33)) ++ (voidC n f).toList) rfl (hoS4) (some ⟨b, 0, none⟩) (0) (0) (W4.heap.size) ((enL C).drop (cv * 33)) rfl (HRs.out.below (hbS4)) (fun h => by cases h <;> rfl) (fun u hu => HE1.out u (List.mem_of_mem_drop hu)) (by unfold maxLen; omega) (by omega) (hbS4).size 100 rfl ?_
                intro uS5 vS5 hoS5 hgS5
                have hbS5 : Below W4.heap.size W4 vS5 := (hbS4).grown hgS5 (hbS4).size (fun g hg => ((hoS4).lt g hg).1)
                refine hK.out _ _ hbS5 (fun hHS5 => ?_)
                clear hK K hHS4
                (try simp only [Act.put, List.setIfInBounds_toArray, List.set_cons_zero, List.set_cons_succ])
                refine take_named23 (i := 12) (d := 19) (v := uS5) rfl (by kernel_rfl) (by kernel_rfl) (by kernel_rfl) (by kernel_rfl) (fun _ _ _ h => h) (Or.inl ⟨by kernel_rfl, ?yS105⟩) (by assumption) ?_
                case yS105 => intro wq hSw; (try dsimp only at hSw); go_simp; (try with_reducible rfl)
                (try simp only [Act.put, List.setIfInBounds_toArray, List.set_cons_zero, List.set_cons_succ])
                refine wpAnyH_done (by kernel_rfl) ?_ _
                clear hHS5
                go_step
                go_step
                go_meet
                exact ⟨by rw [HCk.out], finS hoS5, hbS5⟩
              · rw [if_pos (by kernel_rfl)]
                refine wp_buildSlice_one23 23 32 (.tmp 94) rfl i0 (.agg enZ) 33 (voidC n f) Tryd.underlying23 hi hz0 hz1 (by decide) (by decide) rfl HFv.out 95 rfl ?_
                obtain ⟨vS6, evS6⟩ : ∃ V, (vS1).alloc (.cells (voidC n f) 32) = V := ⟨_, rfl⟩
                obtain ⟨mS6, emS6⟩ : ∃ m, (vS1).heap.size = m := ⟨_, rfl⟩
                have hbS6 : Below W4.heap.size W4 vS6 := by rw [← evS6]; exact (hbS1).alloc (hbS1).size _
                have hqS6 : vS6.heap[mS6]? = some (.cells (voidC n f) 32 (0, 0)) := by rw [← evS6]; exact blk_new _ emS6.symm
                have hoS6 : vS6.ownsRow W4.heap.size 32 33 (.slice (some ⟨mS1, 0, none⟩) 0 0) (0) ([]) := by rw [← evS6]; exact (hoS1).alloc _
                have hxS6 : ∀ g, ((.slice (some ⟨mS1, 0, none⟩) 0 0) : Value).ownBlock = some g → g ≠ mS6 := fun g hg e => by have := ((hoS1).lt g hg).2; omega
                rw [evS6, emS6]
                clear evS6
                refine hK.out _ _ hbS6 (fun hHS6 => ?_)
                clear hK K hHS1
                (try simp only [Act.put, List.setIfInBounds_toArray, List.set_cons_zero, List.set_cons_succ])
                refine wpAnyH_ready (rs := [4]) (by kernel_rfl) (by simp) ?_
                refine AllReadyH.cons rfl (fun K hK => ?_) (AllReadyH.nil)
                rw [if_pos (by kernel_rfl)]
                refine wp_append_src23 (.tmp 89) (.tmp 92) 23 rfl W4.heap.size 32 i0 (.agg enZ) 33 152 Tryd.underlying23 hi hz0 hz1 hz2 rfl (by decide) (.slice (some ⟨mS1, 0, none⟩) 0 0) (0) ([]) rfl (hoS6) (some ⟨b, 0, none⟩) (cv) (cv) (W4.heap.size) ((enL C).take (cv * 33)) rfl (HRt.out.below (hbS6)) (fun h => by cases h <;> rfl) (fun u hu => HE1.out u (List.mem_of_mem_take hu)) (by unfold maxLen; omega) (by omega) (hbS6).size 93 rfl ?_
                intro uS7 vS7 hoS7 hgS7
                have hbS7 : Below W4.heap.size W4 vS7 := (hbS6).grown hgS7 (hbS6).size (fun g hg => ((hoS6).lt g hg).1)
                have hqS7 : vS7.heap[mS6]? = some (.cells (voidC n f) 32 (0, 0)) := (hgS7.block mS6 (blk_lt hqS6) (fun e => hxS6 mS6 e.symm rfl)).trans hqS6
                refine hK.out _ _ hbS7 (fun hHS7 => ?_)
                clear hK K hHS6
                (try simp only [Act.put, List.setIfInBounds_toArray, List.set_cons_zero, List.set_cons_succ])
                refine wpAnyH_ready (rs := [7]) (by kernel_rfl) (by simp) ?_
                refine AllReadyH.cons rfl (fun K hK => ?_) (AllReadyH.nil)
                rw [if_pos (by kernel_rfl)]
                refine wp_append_src23 (.tmp 93) (.tmp 95) 23 rfl W4.heap.size 32 i0 (.agg enZ) 33 152 Tryd.underlying23 hi hz0 hz1 hz2 rfl (by decide) uS7 (0 + cv) ([] ++ ((enL C).take (cv * 33))) rfl (hoS7) (some ⟨mS6, 0, none⟩) (1) (1) ((vS7).heap.size) (voidC n f).toList rfl (rd_of_blk hqS7 (by rw [List.take_of_length_le (by rw [HVl.out]; decide)]) (by rw [HVl.out])) (fun h => by cases h <;> rfl) HVo1.out (by unfold maxLen; omega) (by omega) (hbS7).size 96 rfl ?_
                intro uS8 vS8 hoS8 hgS8
                have hbS8 : Below W4.heap.size W4 vS8 := (hbS7).grown hgS8 (hbS7).size (fun g hg => ((hoS7).lt g hg).1)
                refine hK.out _ _ hbS8 (fun hHS8 => ?_)
                clear hK K hHS7
                (try simp only [Act.put, List.setIfInBounds_toArray, List.set_cons_zero, List.set_cons_succ])
                refine wpAnyH_ready (rs := [11]) (by kernel_rfl) (by simp) ?_
                refine AllReadyH.cons rfl (fun K hK => ?_) (AllReadyH.nil)
                rw [if_pos (by kernel_rfl)]
                refine wp_append_src23 (.tmp 96) (.tmp 99) 23 rfl W4.heap.size 32 i0 (.agg enZ) 33 152 Tryd.underlying23 hi hz0 hz1 hz2 rfl (by decide) uS8 (0 + cv + 1) ([] ++ ((enL C).take (cv * 33)) ++ (voidC n f).toList) rfl (hoS8) (some ⟨b, 0, none⟩) (0) (0) (W4.heap.size) ((enL C).drop (cv * 33)) rfl (HRs.out.below (hbS8)) (fun h => by cases h <;> rfl) (fun u hu => HE1.out u (List.mem_of_mem_drop hu)) (by unfold maxLen; omega) (by omega) (hbS8).size 100 rfl ?_
                intro uS9 vS9 hoS9 hgS9
                have hbS9 : Below W4.heap.size W4 vS9 := (hbS8).grown hgS9 (hbS8).size (fun g hg => ((hoS8).lt g hg).1)
                refine hK.out _ _ hbS9 (fun hHS9 => ?_)
                clear hK K hHS8
                (try simp only [Act.put, List.setIfInBounds_toArray, List.set_cons_zero, List.set_cons_succ])
                refine take_named23 (i := 12) (d := 19) (v := uS9) rfl (by kernel_rfl) (by kernel_rfl) (by kernel_rfl) (by kernel_rfl) (fun _ _ _ h => h) (Or.inl ⟨by kernel_rfl, ?yS109⟩) (by assumption) ?_
                case yS109 => intro wq hSw; (try dsimp only at hSw); go_simp; (try with_reducible rfl)
                (try simp only [Act.put, List.setIfInBounds_toArray, List.set_cons_zero, List.set_cons_succ])
                refine wpAnyH_done (by kernel_rfl) ?_ _
                clear hHS9
                go_step
                go_step
                go_meet
                exact ⟨by rw [HCk.out], finS hoS9, hbS9⟩
            · rw [if_pos (by kernel_rfl)]
              refine wp_buildSlice_one23 23 32 (.tmp 94) rfl i0 (.agg enZ) 33 (voidC n f) Tryd.underlying23 hi hz0 hz1 (by decide) (by decide) rfl HFv.out 95 rfl ?_
              obtain ⟨vS10, evS10⟩ : ∃ V, (W4.drew).alloc (.cells (voidC n f) 32) = V := ⟨_, rfl⟩
              obtain ⟨mS10, emS10⟩ : ∃ m, (W4.drew).heap.size = m := ⟨_, rfl⟩
              have hbS10 : Below W4.heap.size W4 vS10 := by rw [← evS10]; exact (hb0).alloc (hb0).size _
              have hqS10 : vS10.heap[mS10]? = some (.cells (voidC n f) 32 (0, 0)) := by rw [← evS10]; exact blk_new _ emS10.symm
              rw [evS10, emS10]
              clear evS10
              refine hK.out _ _ hbS10 (fun hHS10 => ?_)
              clear hK K hHeld
              (try simp only [Act.put, List.setIfInBounds_toArray, List.set_cons_zero, List.set_cons_succ])
              refine wpAnyH_ready (rs := [0]) (by kernel_rfl) (by simp) ?_
              refine AllReadyH.cons rfl (fun K hK => ?_) (AllReadyH.nil)
              rw [if_pos (by kernel_rfl)]
              refine wp_buildSlice_zero23 23 32 rfl i0 Tryd.underlying23 hi 89 rfl ?_
              obtain ⟨vS11, evS11⟩ : ∃ V, (vS10).alloc (.cells #[] 32) = V := ⟨_, rfl⟩
              obtain ⟨mS11, emS11⟩ : ∃ m, (vS10).heap.size = m := ⟨_, rfl⟩
              have hbS11 : Below W4.heap.size W4 vS11 := by rw [← evS11]; exact (hbS10).alloc (hbS10).size _
              have hoS11 : vS11.ownsRow W4.heap.size 32 33 (.slice (some ⟨mS11, 0, none⟩) 0 0) 0 [] := by rw [← evS11]; exact own_mono (own_empty _ _ _ mS11 emS11.symm) (by rw [← emS11]; exact (hbS10).size)
              have hqS11 : vS11.heap[mS10]? = some (.cells (voidC n f) 32 (0, 0)) := by rw [← evS11]; exact blk_alloc hqS10 _
              have hxS11 : ∀ g, (Value.slice (some ⟨mS11, 0, none⟩) 0 0).ownBlock = some g → g ≠ mS10 := fun g hg e => by have := blk_lt hqS10; simp [Value.ownBlock] at hg; omega
              rw [evS11, emS11]
              clear evS11
              refine hK.out _ _ hbS11 (fun hHS11 => ?_)
              clear hK K hHS10
              (try simp only [Act.put, List.setIfInBounds_toArray, List.set_cons_zero, List.set_cons_succ])
              refine wpAnyH_ready (rs := [4]) (by kernel_rfl) (by simp) ?_
              refine AllReadyH.cons rfl (fun K hK => ?_) (AllReadyH.nil)
              rw [if_pos (by kernel_rfl)]
              refine wp_append_src23 (.tmp 89) (.tmp 92) 23 rfl W4.heap.size 32 i0 (.agg enZ) 33 152 Tryd.underlying23 hi hz0 hz1 hz2 rfl (by decide) (.slice (some ⟨mS11, 0, none⟩) 0 0) (0) ([]) rfl (hoS11) (some ⟨b, 0, none⟩) (cv) (cv) (W4.heap.size) ((enL C).take (cv * 33)) rfl (HRt.out.below (hbS11)) (fun h => by cases h <;> rfl) (fun u hu => HE1.out u (List.mem_of_mem_take hu)) (by unfold maxLen; omega) (by omega) (hbS11).size 93 rfl ?_
              intro uS12 vS12 hoS12 hgS12
              have hbS12 : Below W4.heap.size W4 vS12 := (hbS11).grown hgS12 (hbS11).size (fun g hg => ((hoS11).lt g hg).1)
              have hqS12 : vS12.heap[mS10]? = some (.cells (voidC n f) 32 (0, 0)) := (hgS12.block mS10 (blk_lt hqS11) (fun e => hxS11 mS10 e.symm rfl)).trans hqS11
              refine hK.out _ _ hbS12 (fun hHS12 => ?_)
              clear hK K hHS11
              (try simp only [Act.put, List.setIfInBounds_toArray, List.set_cons_zero, List.set_cons_succ])
              refine wpAnyH_ready (rs := [7]) (by kernel_rfl) (by simp) ?_
              refine AllReadyH.cons rfl (fun K hK => ?_) (AllReadyH.nil)
              rw [if_pos (by kernel_rfl)]
              refine wp_append_src23 (.tmp 93) (.tmp 95) 23 rfl W4.heap.size 32 i0 (.agg enZ) 33 152 Tryd.underlying23 hi hz0 hz1 hz2 rfl (by decide) uS12 (0 + cv) ([] ++ ((enL C).take (cv * 33))) rfl (hoS12) (some ⟨mS10, 0, none⟩) (1) (1) ((vS12).heap.size) (voidC n f).toList rfl (rd_of_blk hqS12 (by rw [List.take_of_length_le (by rw [HVl.out]; decide)]) (by rw [HVl.out])) (fun h => by cases h <;> rfl) HVo1.out (by unfold maxLen; omega) (by omega) (hbS12).size 96 rfl ?_
              intro uS13 vS13 hoS13 hgS13
              have hbS13 : Below W4.heap.size W4 vS13 := (hbS12).grown hgS13 (hbS12).size (fun g hg => ((hoS12).lt g hg).1)
              refine hK.out _ _ hbS13 (fun hHS13 => ?_)
              clear hK K hHS12
              (try simp only [Act.put, List.setIfInBounds_toArray, List.set_cons_zero, List.set_cons_succ])
              refine wpAnyH_ready (rs := [11]) (by kernel_rfl) (by simp) ?_
              refine AllReadyH.cons rfl (fun K hK => ?_) (AllReadyH.nil)
              rw [if_pos (by kernel_rfl)]
              refine wp_append_src23 (.tmp 96) (.tmp 99) 23 rfl W4.heap.size 32 i0 (.agg enZ) 33 152 Tryd.underlying23 hi hz0 hz1 hz2 rfl (by decide) uS13 (0 + cv + 1) ([] ++ ((enL C).take (cv * 33)) ++ (voidC n f).toList) rfl (hoS13) (some ⟨b, 0, none⟩) (0) (0) (W4.heap.size) ((enL C).drop (cv * 33)) rfl (HRs.out.below (hbS13)) (fun h => by cases h <;> rfl) (fun u hu => HE1.out u (List.mem_of_mem_drop hu)) (by unfold maxLen; omega) (by omega) (hbS13).size 100 rfl ?_
              intro uS14 vS14 hoS14 hgS14
              have hbS14 : Below W4.heap.size W4 vS14 := (hbS13).grown hgS14 (hbS13).size (fun g hg => ((hoS13).lt g hg).1)
              refine hK.out _ _ hbS14 (fun hHS14 => ?_)
              clear hK K hHS13
              (try simp only [Act.put, List.setIfInBounds_toArray, List.set_cons_zero, List.set_cons_succ])
              refine take_named23 (i := 12) (d := 19) (v := uS14) rfl (by kernel_rfl) (by kernel_rfl) (by kernel_rfl) (by kernel_rfl) (fun _ _ _ h => h) (Or.inl ⟨by kernel_rfl, ?yS114⟩) (by assumption) ?_
              case yS114 => intro wq hSw; (try dsimp only at hSw); go_simp; (try with_reducible rfl)
              (try simp only [Act.put, List.setIfInBounds_toArray, List.set_cons_zero, List.set_cons_succ])
              refine wpAnyH_done (by kernel_rfl) ?_ _
              clear hHS14
              go_step
              go_step
              go_meet
              exact ⟨by rw [HCk.out], finS hoS14, hbS14⟩
          · have HRs := Lib.hid (show Rd W4 W4.heap.size 33 (some ⟨b, k * 33, none⟩) (C.length - k) ((enL C).drop (k * 33)) from ⟨by rw [List.length_drop, HCl33.out, Nat.sub_mul], fun _ => by
              obtain ⟨b', o', e1, e2, e3⟩ := HRd4.out.pos (by omega)
              obtain ⟨rfl, rfl⟩ : b = b' ∧ 0 = o' := by injection e1 with e1; injection e1 with e1 e2; exact ⟨e1, e2⟩
              refine ⟨b, k * 33, rfl, e2, fun j hj => ?_⟩
              rw [List.length_drop] at hj
              rw [List.getElem?_drop, ← e3 (k * 33 + j) (by omega), Nat.zero_add]⟩)
            have finT : ∀ {W : World} {v : Value}, W.ownsRow W4.heap.size 32 33 v (0 + k + 1 + (C.length - k)) ([] ++ (enL C).take (k * 33) ++ (voidC n f).toList ++ (enL C).drop (k * 33)) → W.ownsRow W4.heap.size 32 33 v (C.length + 1) (enL (insE C k (voidE n f))) := fun {W v} h => by
              rw [ins_cells C HS33.out k hkl (voidE n f)]
              have e : 0 + k + 1 + (C.length - k) = C.length + 1 := by omega
              rw [e] at h
              exact h
            refine wp_region_held_drew (S := fun wq => Below W4.heap.size W4 wq) (by kernel_rfl) hb0 (fun hHeld => ?_)
            refine take_named23 (i := 1) (d := 90) (v := ?vT1) rfl (by kernel_rfl) (by kernel_rfl) (by kernel_rfl) (by kernel_rfl) (fun _ _ _ h => h) (Or.inl ⟨by kernel_rfl, ?yT1⟩) (by assumption) ?_
            case yT1 => intro wq hSw; (try dsimp only at hSw); go_simp; (try with_reducible rfl)
            (try simp only [Act.put, List.setIfInBounds_toArray, List.set_cons_zero, List.set_cons_succ])
            refine take_named23 (i := 2) (d := 91) (v := ?vT2) rfl (by kernel_rfl) (by kernel_rfl) (by kernel_rfl) (by kernel_rfl) (fun _ _ _ h => h) (Or.inl ⟨by kernel_rfl, ?yT2⟩) (by assumption) ?_
            case yT2 => intro wq hSw; (try dsimp only at hSw); go_simp; (try with_reducible rfl)
            (try simp only [Act.put, List.setIfInBounds_toArray, List.set_cons_zero, List.set_cons_succ])
            refine take_named23 (i := 3) (d := 92) (v := ?vT3) rfl (by kernel_rfl) (by kernel_rfl) (by kernel_rfl) (by kernel_rfl) (fun _ _ _ h => h) (Or.inl ⟨by kernel_rfl, ?yT3⟩) (by assumption) ?_
            case yT3 => intro wq hSw; (try dsimp only at hSw); go_simp; (try with_reducible rfl)
            (try simp only [Act.put, List.setIfInBounds_toArray, List.set_cons_zero, List.set_cons_succ])
            refine take_named23 (i := 8) (d := 97) (v := ?vT8) rfl (by kernel_rfl) (by kernel_rfl) (by kernel_rfl) (by kernel_rfl) (fun _ _ _ h => h) (Or.inl ⟨by kernel_rfl, ?yT8⟩) (by assumption) ?_
            case yT8 => intro wq hSw; (try dsimp only at hSw); go_simp; (try with_reducible rfl)
            (try simp only [Act.put, List.setIfInBounds_toArray, List.set_cons_zero, List.set_cons_succ])
            refine take_named23 (i := 9) (d := 98) (v := ?vT9) rfl (by kernel_rfl) (by kernel_rfl) (by kernel_rfl) (by kernel_rfl) (fun _ _ _ h => h) (Or.inl ⟨by kernel_rfl, ?yT9⟩) (by assumption) ?_
            case yT9 => intro wq hSw; (try dsimp only at hSw); go_simp; (try with_reducible rfl)
            (try simp only [Act.put, List.setIfInBounds_toArray, List.set_cons_zero, List.set_cons_succ])
            refine take_named23 (i := 10) (d := 99) (v := ?vT10) rfl (by kernel_rfl) (by kernel_rfl) (by kernel_rfl) (by kernel_rfl) (fun _ _ _ h => h) (Or.inl ⟨by kernel_rfl, ?yT10⟩) (by assumption) ?_
            case yT10 => intro wq hSw; (try dsimp only at hSw); go_simp; (try with_reducible rfl)
            (try simp only [Act.put, List.setIfInBounds_toArray, List.set_cons_zero, List.set_cons_succ])
            refine take_named23 (i := 5) (d := 94) (v := .agg (voidC n f)) rfl (by kernel_rfl) (by kernel_rfl) (by kernel_rfl) (by kernel_rfl) (fun _ _ _ h => h) (yieldsIf_load_row23 (by kernel_rfl) 32 (.tmp 18) rfl G rfl 32 (voidC n f) (0, 0) _ (fun w h => blk_below KV.out h lG) Tryd.underlying32 rfl HIv.out) (by assumption) ?_
            (try simp only [Act.put, List.setIfInBounds_toArray, List.set_cons_zero, List.set_cons_succ])
            refine wpAnyH_ready (rs := [0, 6]) (by kernel_rfl) (by simp) ?_
            refine AllReadyH.cons rfl (fun K hK => ?_) (AllReadyH.cons rfl (fun K hK => ?_) (AllReadyH.nil))
            · rw [if_pos (by kernel_rfl)]
              refine wp_buildSlice_zero23 23 32 rfl i0 Tryd.underlying23 hi 89 rfl ?_
              obtain ⟨vT1, evT1⟩ : ∃ V, (W4.drew).alloc (.cells #[] 32) = V := ⟨_, rfl⟩
              obtain ⟨mT1, emT1⟩ : ∃ m, (W4.drew).heap.size = m := ⟨_, rfl⟩
              have hbT1 : Below W4.heap.size W4 vT1 := by rw [← evT1]; exact (hb0).alloc (hb0).size _
              have hoT1 : vT1.ownsRow W4.heap.size 32 33 (.slice (some ⟨mT1, 0, none⟩) 0 0) 0 [] := by rw [← evT1]; exact own_mono (own_empty _ _ _ mT1 emT1.symm) (by rw [← emT1]; exact (hb0).size)
              rw [evT1, emT1]
              clear evT1
              refine hK.out _ _ hbT1 (fun hHT1 => ?_)
              clear hK K hHeld
              (try simp only [Act.put, List.setIfInBounds_toArray, List.set_cons_zero, List.set_cons_succ])
              refine wpAnyH_ready (rs := [4, 6]) (by kernel_rfl) (by simp) ?_
              refine AllReadyH.cons rfl (fun K hK => ?_) (AllReadyH.cons rfl (fun K hK => ?_) (AllReadyH.nil))
              · rw [if_pos (by kernel_rfl)]
                refine wp_append_src23 (.tmp 89) (.tmp 92) 23 rfl W4.heap.size 32 i0 (.agg enZ) 33 152 Tryd.underlying23 hi hz0 hz1 hz2 rfl (by decide) (.slice (some ⟨mT1, 0, none⟩) 0 0) (0) ([]) rfl (hoT1) (some ⟨b, 0, none⟩) (k) (cv) (W4.heap.size) ((enL C).take (k * 33)) rfl (HRt.out.below (hbT1)) (fun h => by cases h <;> rfl) (fun u hu => HE1.out u (List.mem_of_mem_take hu)) (by unfold maxLen; omega) (by omega) (hbT1).size 93 rfl ?_
                intro uT2 vT2 hoT2 hgT2
                have hbT2 : Below W4.heap.size W4 vT2 := (hbT1).grown hgT2 (hbT1).size (fun g hg => ((hoT1).lt g hg).1)
                refine hK.out _ _ hbT2 (fun hHT2 => ?_)
                clear hK K hHT1
                (try simp only [Act.put, List.setIfInBounds_toArray, List.set_cons_zero, List.set_cons_succ])
                refine wpAnyH_ready (rs := [6]) (by kernel_rfl) (by simp) ?_
                refine AllReadyH.cons rfl (fun K hK => ?_) (AllReadyH.nil)
                rw [if_pos (by kernel_rfl)]
                refine wp_buildSlice_one23 23 32 (.tmp 94) rfl i0 (.agg enZ) 33 (voidC n f) Tryd.underlying23 hi hz0 hz1 (by decide) (by decide) rfl HFv.out 95 rfl ?_
                obtain ⟨vT3, evT3⟩ : ∃ V, (vT2).alloc (.cells (voidC n f) 32) = V := ⟨_, rfl⟩
                obtain ⟨mT3, emT3⟩ : ∃ m, (vT2).heap.size = m := ⟨_, rfl⟩
                have hbT3 : Below W4.heap.size W4 vT3 := by rw [← evT3]; exact (hbT2).alloc (hbT2).size _
                have hqT3 : vT3.heap[mT3]? = some (.cells (voidC n f) 32 (0, 0)) := by rw [← evT3]; exact blk_new _ emT3.symm
                have hoT3 : vT3.ownsRow W4.heap.size 32 33 uT2 (0 + k) ([] ++ ((enL C).take (k * 33))) := by rw [← evT3]; exact (hoT2).alloc _
                have hxT3 : ∀ g, (uT2 : Value).ownBlock = some g → g ≠ mT3 := fun g hg e => by have := ((hoT2).lt g hg).2; omega
                rw [evT3, emT3]
                clear evT3
                refine hK.out _ _ hbT3 (fun hHT3 => ?_)
                clear hK K hHT2
                (try simp only [Act.put, List.setIfInBounds_toArray, List.set_cons_zero, List.set_cons_succ])
                refine wpAnyH_ready (rs := [7]) (by kernel_rfl) (by simp) ?_
                refine AllReadyH.cons rfl (fun K hK => ?_) (AllReadyH.nil)
                rw [if_pos (by kernel_rfl)]
                refine wp_append_src23 (.tmp 93) (.tmp 95) 23 rfl W4.heap.size 32 i0 (.agg enZ) 33 152 Tryd.underlying23 hi hz0 hz1 hz2 rfl (by decide) uT2 (0 + k) ([] ++ ((enL C).take (k * 33))) rfl (hoT3) (some ⟨mT3, 0, none⟩) (1) (1) ((vT3).heap.size) (voidC n f).toList rfl (rd_of_blk hqT3 (by rw [List.take_of_length_le (by rw [HVl.out]; decide)]) (by rw [HVl.out])) (fun h => by cases h <;> rfl) HVo1.out (by unfold maxLen; omega) (by omega) (hbT3).size 96 rfl ?_
                intro uT4 vT4 hoT4 hgT4
                have hbT4 : Below W4.heap.size W4 vT4 := (hbT3).grown hgT4 (hbT3).size (fun g hg => ((hoT3).lt g hg).1)
                refine hK.out _ _ hbT4 (fun hHT4 => ?_)
                clear hK K hHT3
                (try simp only [Act.put, List.setIfInBounds_toArray, List.set_cons_zero, List.set_cons_succ])
                refine wpAnyH_ready (rs := [11]) (by kernel_rfl) (by simp) ?_
                refine AllReadyH.cons rfl (fun K hK => ?_) (AllReadyH.nil)
                rw [if_pos (by kernel_rfl)]
                refine wp_append_src23 (.tmp 96) (.tmp 99) 23 rfl W4.heap.size 32 i0 (.agg enZ) 33 152 Tryd.underlying23 hi hz0 hz1 hz2 rfl (by decide) uT4 (0 + k + 1) ([] ++ ((enL C).take (k * 33)) ++ (voidC n f).toList) rfl (hoT4) (some ⟨b, k * 33, none⟩) (C.length - k) (cv - k) (W4.heap.size) ((enL C).drop (k * 33)) rfl (HRs.out.below (hbT4)) (fun h => by cases h <;> rfl) (fun u hu => HE1.out u (List.mem_of_mem_drop hu)) (by unfold maxLen; omega) (by omega) (hbT4).size 100 rfl ?_
                intro uT5 vT5 hoT5 hgT5
                have hbT5 : Below W4.heap.size W4 vT5 := (hbT4).grown hgT5 (hbT4).size (fun g hg => ((hoT4).lt g hg).1)
                refine hK.out _ _ hbT5 (fun hHT5 => ?_)
                clear hK K hHT4
                (try simp only [Act.put, List.setIfInBounds_toArray, List.set_cons_zero, List.set_cons_succ])
                refine take_named23 (i := 12) (d := 19) (v := uT5) rfl (by kernel_rfl) (by kernel_rfl) (by kernel_rfl) (by kernel_rfl) (fun _ _ _ h => h) (Or.inl ⟨by kernel_rfl, ?yT105⟩) (by assumption) ?_
                case yT105 => intro wq hSw; (try dsimp only at hSw); go_simp; (try with_reducible rfl)
                (try simp only [Act.put, List.setIfInBounds_toArray, List.set_cons_zero, List.set_cons_succ])
                refine wpAnyH_done (by kernel_rfl) ?_ _
                clear hHT5
                go_step
                go_step
                go_meet
                exact ⟨rfl, finT hoT5, hbT5⟩
              · rw [if_pos (by kernel_rfl)]
                refine wp_buildSlice_one23 23 32 (.tmp 94) rfl i0 (.agg enZ) 33 (voidC n f) Tryd.underlying23 hi hz0 hz1 (by decide) (by decide) rfl HFv.out 95 rfl ?_
                obtain ⟨vT6, evT6⟩ : ∃ V, (vT1).alloc (.cells (voidC n f) 32) = V := ⟨_, rfl⟩
                obtain ⟨mT6, emT6⟩ : ∃ m, (vT1).heap.size = m := ⟨_, rfl⟩
                have hbT6 : Below W4.heap.size W4 vT6 := by rw [← evT6]; exact (hbT1).alloc (hbT1).size _
                have hqT6 : vT6.heap[mT6]? = some (.cells (voidC n f) 32 (0, 0)) := by rw [← evT6]; exact blk_new _ emT6.symm
                have hoT6 : vT6.ownsRow W4.heap.size 32 33 (.slice (some ⟨mT1, 0, none⟩) 0 0) (0) ([]) := by rw [← evT6]; exact (hoT1).alloc _
                have hxT6 : ∀ g, ((.slice (some ⟨mT1, 0, none⟩) 0 0) : Value).ownBlock = some g → g ≠ mT6 := fun g hg e => by have := ((hoT1).lt g hg).2; omega
                rw [evT6, emT6]
                clear evT6
                refine hK.out _ _ hbT6 (fun hHT6 => ?_)
                clear hK K hHT1
                (try simp only [Act.put, List.setIfInBounds_toArray, List.set_cons_zero, List.set_cons_succ])
                refine wpAnyH_ready (rs := [4]) (by kernel_rfl) (by simp) ?_
                refine AllReadyH.cons rfl (fun K hK => ?_) (AllReadyH.nil)
                rw [if_pos (by kernel_rfl)]
                refine wp_append_src23 (.tmp 89) (.tmp 92) 23 rfl W4.heap.size 32 i0 (.agg enZ) 33 152 Tryd.underlying23 hi hz0 hz1 hz2 rfl (by decide) (.slice (some ⟨mT1, 0, none⟩) 0 0) (0) ([]) rfl (hoT6) (some ⟨b, 0, none⟩) (k) (cv) (W4.heap.size) ((enL C).take (k * 33)) rfl (HRt.out.below (hbT6)) (fun h => by cases h <;> rfl) (fun u hu => HE1.out u (List.mem_of_mem_take hu)) (by unfold maxLen; omega) (by omega) (hbT6).size 93 rfl ?_
                intro uT7 vT7 hoT7 hgT7
                have hbT7 : Below W4.heap.size W4 vT7 := (hbT6).grown hgT7 (hbT6).size (fun g hg => ((hoT6).lt g hg).1)
                have hqT7 : vT7.heap[mT6]? = some (.cells (voidC n f) 32 (0, 0)) := (hgT7.block mT6 (blk_lt hqT6) (fun e => hxT6 mT6 e.symm rfl)).trans hqT6
                refine hK.out _ _ hbT7 (fun hHT7 => ?_)
                clear hK K hHT6
                (try simp only [Act.put, List.setIfInBounds_toArray, List.set_cons_zero, List.set_cons_succ])
                refine wpAnyH_ready (rs := [7]) (by kernel_rfl) (by simp) ?_
                refine AllReadyH.cons rfl (fun K hK => ?_) (AllReadyH.nil)
                rw [if_pos (by kernel_rfl)]
                refine wp_append_src23 (.tmp 93) (.tmp 95) 23 rfl W4.heap.size 32 i0 (.agg enZ) 33 152 Tryd.underlying23 hi hz0 hz1 hz2 rfl (by decide) uT7 (0 + k) ([] ++ ((enL C).take (k * 33))) rfl (hoT7) (some ⟨mT6, 0, none⟩) (1) (1) ((vT7).heap.size) (voidC n f).toList rfl (rd_of_blk hqT7 (by rw [List.take_of_length_le (by rw [HVl.out]; decide)]) (by rw [HVl.out])) (fun h => by cases h <;> rfl) HVo1.out (by unfold maxLen; omega) (by omega) (hbT7).size 96 rfl ?_
                intro uT8 vT8 hoT8 hgT8
                have hbT8 : Below W4.heap.size W4 vT8 := (hbT7).grown hgT8 (hbT7).size (fun g hg => ((hoT7).lt g hg).1)
                refine hK.out _ _ hbT8 (fun hHT8 => ?_)
                clear hK K hHT7
                (try simp only [Act.put, List.setIfInBounds_toArray, List.set_cons_zero, List.set_cons_succ])
                refine wpAnyH_ready (rs := [11]) (by kernel_rfl) (by simp) ?_
                refine AllReadyH.cons rfl (fun K hK => ?_) (AllReadyH.nil)
                rw [if_pos (by kernel_rfl)]
                refine wp_append_src23 (.tmp 96) (.tmp 99) 23 rfl W4.heap.size 32 i0 (.agg enZ) 33 152 Tryd.underlying23 hi hz0 hz1 hz2 rfl (by decide) uT8 (0 + k + 1) ([] ++ ((enL C).take (k * 33)) ++ (voidC n f).toList) rfl (hoT8) (some ⟨b, k * 33, none⟩) (C.length - k) (cv - k) (W4.heap.size) ((enL C).drop (k * 33)) rfl (HRs.out.below (hbT8)) (fun h => by cases h <;> rfl) (fun u hu => HE1.out u (List.mem_of_mem_drop hu)) (by unfold maxLen; omega) (by omega) (hbT8).size 100 rfl ?_
                intro uT9 vT9 hoT9 hgT9
                have hbT9 : Below W4.heap.size W4 vT9 := (hbT8).grown hgT9 (hbT8).size (fun g hg => ((hoT8).lt g hg).1)
                refine hK.out _ _ hbT9 (fun hHT9 => ?_)
                clear hK K hHT8
                (try simp only [Act.put, List.setIfInBounds_toArray, List.set_cons_zero, List.set_cons_succ])
                refine take_named23 (i := 12) (d := 19) (v := uT9) rfl (by kernel_rfl) (by kernel_rfl) (by kernel_rfl) (by kernel_rfl) (fun _ _ _ h => h) (Or.inl ⟨by kernel_rfl, ?yT109⟩) (by assumption) ?_
                case yT109 => intro wq hSw; (try dsimp only at hSw); go_simp; (try with_reducible rfl)
                (try simp only [Act.put, List.setIfInBounds_toArray, List.set_cons_zero, List.set_cons_succ])
                refine wpAnyH_done (by kernel_rfl) ?_ _
                clear hHT9
                go_step
                go_step
                go_meet
                exact ⟨rfl, finT hoT9, hbT9⟩
            · rw [if_pos (by kernel_rfl)]
              refine wp_buildSlice_one23 23 32 (.tmp 94) rfl i0 (.agg enZ) 33 (voidC n f) Tryd.underlying23 hi hz0 hz1 (by decide) (by decide) rfl HFv.out 95 rfl ?_
              obtain ⟨vT10, evT10⟩ : ∃ V, (W4.drew).alloc (.cells (voidC n f) 32) = V := ⟨_, rfl⟩
              obtain ⟨mT10, emT10⟩ : ∃ m, (W4.drew).heap.size = m := ⟨_, rfl⟩
              have hbT10 : Below W4.heap.size W4 vT10 := by rw [← evT10]; exact (hb0).alloc (hb0).size _
              have hqT10 : vT10.heap[mT10]? = some (.cells (voidC n f) 32 (0, 0)) := by rw [← evT10]; exact blk_new _ emT10.symm
              rw [evT10, emT10]
              clear evT10
              refine hK.out _ _ hbT10 (fun hHT10 => ?_)
              clear hK K hHeld
              (try simp only [Act.put, List.setIfInBounds_toArray, List.set_cons_zero, List.set_cons_succ])
              refine wpAnyH_ready (rs := [0]) (by kernel_rfl) (by simp) ?_
              refine AllReadyH.cons rfl (fun K hK => ?_) (AllReadyH.nil)
              rw [if_pos (by kernel_rfl)]
              refine wp_buildSlice_zero23 23 32 rfl i0 Tryd.underlying23 hi 89 rfl ?_
              obtain ⟨vT11, evT11⟩ : ∃ V, (vT10).alloc (.cells #[] 32) = V := ⟨_, rfl⟩
              obtain ⟨mT11, emT11⟩ : ∃ m, (vT10).heap.size = m := ⟨_, rfl⟩
              have hbT11 : Below W4.heap.size W4 vT11 := by rw [← evT11]; exact (hbT10).alloc (hbT10).size _
              have hoT11 : vT11.ownsRow W4.heap.size 32 33 (.slice (some ⟨mT11, 0, none⟩) 0 0) 0 [] := by rw [← evT11]; exact own_mono (own_empty _ _ _ mT11 emT11.symm) (by rw [← emT11]; exact (hbT10).size)
              have hqT11 : vT11.heap[mT10]? = some (.cells (voidC n f) 32 (0, 0)) := by rw [← evT11]; exact blk_alloc hqT10 _
              have hxT11 : ∀ g, (Value.slice (some ⟨mT11, 0, none⟩) 0 0).ownBlock = some g → g ≠ mT10 := fun g hg e => by have := blk_lt hqT10; simp [Value.ownBlock] at hg; omega
              rw [evT11, emT11]
              clear evT11
              refine hK.out _ _ hbT11 (fun hHT11 => ?_)
              clear hK K hHT10
              (try simp only [Act.put, List.setIfInBounds_toArray, List.set_cons_zero, List.set_cons_succ])
              refine wpAnyH_ready (rs := [4]) (by kernel_rfl) (by simp) ?_
              refine AllReadyH.cons rfl (fun K hK => ?_) (AllReadyH.nil)
              rw [if_pos (by kernel_rfl)]
              refine wp_append_src23 (.tmp 89) (.tmp 92) 23 rfl W4.heap.size 32 i0 (.agg enZ) 33 152 Tryd.underlying23 hi hz0 hz1 hz2 rfl (by decide) (.slice (some ⟨mT11, 0, none⟩) 0 0) (0) ([]) rfl (hoT11) (some ⟨b, 0, none⟩) (k) (cv) (W4.heap.size) ((enL C).take (k * 33)) rfl (HRt.out.below (hbT11)) (fun h => by cases h <;> rfl) (fun u hu => HE1.out u (List.mem_of_mem_take hu)) (by unfold maxLen; omega) (by omega) (hbT11).size 93 rfl ?_
              intro uT12 vT12 hoT12 hgT12
              have hbT12 : Below W4.heap.size W4 vT12 := (hbT11).grown hgT12 (hbT11).size (fun g hg => ((hoT11).lt g hg).1)
              have hqT12 : vT12.heap[mT10]? = some (.cells (voidC n f) 32 (0, 0)) := (hgT12.block mT10 (blk_lt hqT11) (fun e => hxT11 mT10 e.symm rfl)).trans hqT11
              refine hK.out _ _ hbT12 (fun hHT12 => ?_)
              clear hK K hHT11
              (try simp only [Act.put, List.setIfInBounds_toArray, List.set_cons_zero, List.set_cons_succ])
              refine wpAnyH_ready (rs := [7]) (by kernel_rfl) (by simp) ?_
              refine AllReadyH.cons rfl (fun K hK => ?_) (AllReadyH.nil)
              rw [if_pos (by kernel_rfl)]
              refine wp_append_src23 (.tmp 93) (.tmp 95) 23 rfl W4.heap.size 32 i0 (.agg enZ) 33 152 Tryd.underlying23 hi hz0 hz1 hz2 rfl (by decide) uT12 (0 + k) ([] ++ ((enL C).take (k * 33))) rfl (hoT12) (some ⟨mT10, 0, none⟩) (1) (1) ((vT12).heap.size) (voidC n f).toList rfl (rd_of_blk hqT12 (by rw [List.take_of_length_le (by rw [HVl.out]; decide)]) (by rw [HVl.out])) (fun h => by cases h <;> rfl) HVo1.out (by unfold maxLen; omega) (by omega) (hbT12).size 96 rfl ?_
              intro uT13 vT13 hoT13 hgT13
              have hbT13 : Below W4.heap.size W4 vT13 := (hbT12).grown hgT13 (hbT12).size (fun g hg => ((hoT12).lt g hg).1)
              refine hK.out _ _ hbT13 (fun hHT13 => ?_)
              clear hK K hHT12
              (try simp only [Act.put, List.setIfInBounds_toArray, List.set_cons_zero, List.set_cons_succ])
              refine wpAnyH_ready (rs := [11]) (by kernel_rfl) (by simp) ?_
              refine AllReadyH.cons rfl (fun K hK => ?_) (AllReadyH.nil)
              rw [if_pos (by kernel_rfl)]
              refine wp_append_src23 (.tmp 96) (.tmp 99) 23 rfl W4.heap.size 32 i0 (.agg enZ) 33 152 Tryd.underlying23 hi hz0 hz1 hz2 rfl (by decide) uT13 (0 + k + 1) ([] ++ ((enL C).take (k * 33)) ++ (voidC n f).toList) rfl (hoT13) (some ⟨b, k * 33, none⟩) (C.length - k) (cv - k) (W4.heap.size) ((enL C).drop (k * 33)) rfl (HRs.out.below (hbT13)) (fun h => by cases h <;> rfl) (fun u hu => HE1.out u (List.mem_of_mem_drop hu)) (by unfold maxLen; omega) (by omega) (hbT13).size 100 rfl ?_
              intro uT14 vT14 hoT14 hgT14
              have hbT14 : Below W4.heap.size W4 vT14 := (hbT13).grown hgT14 (hbT13).size (fun g hg => ((hoT13).lt g hg).1)
              refine hK.out _ _ hbT14 (fun hHT14 => ?_)
              clear hK K hHT13
              (try simp only [Act.put, List.setIfInBounds_toArray, List.set_cons_zero, List.set_cons_succ])
              refine take_named23 (i := 12) (d := 19) (v := uT14) rfl (by kernel_rfl) (by kernel_rfl) (by kernel_rfl) (by kernel_rfl) (fun _ _ _ h => h) (Or.inl ⟨by kernel_rfl, ?yT114⟩) (by assumption) ?_
              case yT114 => intro wq hSw; (try dsimp only at hSw); go_simp; (try with_reducible rfl)
              (try simp only [Act.put, List.setIfInBounds_toArray, List.set_cons_zero, List.set_cons_succ])
              refine wpAnyH_done (by kernel_rfl) ?_ _
              clear hHT14
              go_step
              go_step
              go_meet
              exact ⟨rfl, finT hoT14, hbT14⟩
      case rest =>
        obtain ⟨rfl, hown, hb45⟩ := hcut
        rename World => W5
        obtain ⟨g3, cap3, rfl⟩ := own_at' hown (Nat.succ_pos _)
        have hg3 : W4.heap.size ≤ g3 := (hown.lt g3 rfl).1
        have hE0 : EB W5 g3 (insE C k (voidE n f)) := EB.of_own (base := W4.heap.size) (n := C.length + 1) rfl (by rw [insE_len C k _ hkl]) hown
        have HE0 := Lib.hid hE0
        have HB45 := Lib.hid hb45
        have Hil := Lib.hid (insE_len C k (voidE n f) hkl)
        have HOi := Lib.hid (show ∀ e ∈ insE C k (voidE n f), e.Ok from fun e he => by
          rcases insE_mem C k _ e he with h | h
          · exact HOC.out e h
          · rw [h]; exact HVo.out)
        clear hE0 hown hb45 HRt HCl33 HFv HVl HVo1 HE1 HS33 lG KV Hown HVc HV1 HIv HVo HB4
        obtain ⟨mm, hmm⟩ : ∃ m, IntKind.i64.wrap (-n) = m := ⟨_, rfl⟩
        go_wp2_with fail
        go_loopw [103] (fun i wr => ∃ m : Nat, m ≤ C.length + 1 ∧ i = .int .i64 (m : Int) ∧ EB wr g3 (moreE C k n mm f m) ∧ Below W4.heap.size W4 wr) (fun i _ => C.length + 1 - (intOf i).toNat)
        case atStart => exact ⟨0, by omega, rfl, HE0.out, HB45.out⟩
        case round =>
          obtain ⟨m, hm, rfl, hE, hbel⟩ := hrel
          have HE := Lib.hid hE
          have Hbel2 := Lib.hid hbel
          clear hE hbel
          by_cases hlt : m < C.length + 1
          · have hmR : m < (insE C k (voidE n f)).length := by rw [Hil.out]; exact hlt
            have hOm := mapTo_all (gE n mm) (insE C k (voidE n f)) Ent.Ok HOi.out (fun j _ h => gE_ok n mm j h) m
            have h33 : ∀ e ∈ moreE C k n mm f m, e.C.size = 33 := fun e he => (hOm e he).1.1
            have hml : m < (moreE C k n mm f m).length := by unfold moreE; rw [mapTo_len]; exact hmR
            have HS4 := Lib.hid (more_set HE.out HOi.out hmR)
            have hsz := h33 _ (List.getElem_mem hml)
            obtain ⟨v1, y1⟩ : ∃ v, wr.cell? ⟨g3, m * 33 + 1, none⟩ = some v := ⟨_, (HE.out.cell h33 m hml 1 (by decide)).trans (Array.getElem?_eq_getElem (by omega))⟩
            obtain ⟨v2, y2⟩ : ∃ v, wr.cell? ⟨g3, m * 33 + 2, none⟩ = some v := ⟨_, (HE.out.cell h33 m hml 2 (by decide)).trans (Array.getElem?_eq_getElem (by omega))⟩
            obtain ⟨v3, y3⟩ : ∃ v, wr.cell? ⟨g3, m * 33 + 3, none⟩ = some v := ⟨_, (HE.out.cell h33 m hml 3 (by decide)).trans (Array.getElem?_eq_getElem (by omega))⟩
            obtain ⟨v6, y6⟩ : ∃ v, wr.cell? ⟨g3, m * 33 + 6, none⟩ = some v := ⟨_, (HE.out.cell h33 m hml 6 (by decide)).trans (Array.getElem?_eq_getElem (by omega))⟩
            have f1 := HE.out.free (m * 33 + 1)
            have f2 := HE.out.free (m * 33 + 2)
            have f3 := HE.out.free (m * 33 + 3)
            have f6 := HE.out.free (m * 33 + 6)
            have c1 : (0 : Int) ≤ (m : Int) := by omega
            have c2 : (m : Int) < (C.length : Int) + 1 := by omega
            clear hsz hml h33 hOm hmR
            go_wp2_with fail
            go_roundw
            case rel => exact ⟨m + 1, hlt, by go_num, HS4.out, (((Hbel2.out.setCell hg3 _).setCell hg3 _).setCell hg3 _).setCell hg3 _⟩
            case measure => simp [intOf]; omega
          · obtain rfl : m = C.length + 1 := by omega
            have hMO := moreE_ok C HCl.out k n mm f hfb (C.length + 1)
            have hml := moreE_len C k n mm f (C.length + 1) hkl
            have HLine := Lib.hid (fun i (h : i < C.length) => line_clean C k hkl n mm f V (C.length + 1) i h)
            have hrd2 := HE.out.rd (fun e he => (hMO e he).1.1.1)
            generalize moreE C k n mm f (C.length + 1) = M at hMO hml HLine hrd2
            have HMO := Lib.hid (show ∀ e ∈ M, e.Ok from fun e he => (hMO e he).1)
            have HMR := Lib.hid (show ∀ e ∈ M, e.right = true from fun e he => (hMO e he).2)
            have HRM := Lib.hid hrd2
            have Hml := Lib.hid hml
            have HRC4 := Lib.hid (HRd4.out.go Hbel2.out)
            have HBw := Lib.hid (below_via HBw4.out Hbel2.out)
            clear hMO hml hrd2 HE Hbel2 HRd4 hg3 HE0 HB45 HOi Hil
            have hV := HV.out
            go_wp2_with fail
            refine (fboard_ok C Av cv V wr HOC.out HRC4.out hC24 (HL.out.go HBw.out) (HLm.out.below HBw.out HLm.out.lt) HRC.out hVb).mono ?_
            rintro ee w5 ⟨v, rfl, ho5, hb5⟩
            obtain ⟨A5, c5, rfl⟩ := own_form ho5
            have HB5 := Lib.hid (below_via HBw.out hb5)
            have HRM5 := Lib.hid (HRM.out.go hb5)
            have HLn5 := Lib.hid (show Rd w5 w5.heap.size 5 A5 (boardTo C V C.length).length (lnC (boardTo C V C.length)) by rw [boardTo_len]; exact Rd.of_own ho5)
            clear ho5 hb5 HRM HBw HRC4
            go_wp2_with fail
            have hb := fboard_ok M (some ⟨g3, 0, none⟩) cap3 V w5 HMO.out HRM5.out (by rw [Hml.out]; omega) (HL.out.go HB5.out) (HLm.out.below HB5.out HLm.out.lt) HMR.out hVb
            rw [Hml.out] at hb
            refine hb.mono ?_
            rintro ee w6 ⟨v, rfl, ho6, hb6⟩
            obtain ⟨A6, c6, rfl⟩ := own_form ho6
            have HB6 := Lib.hid (below_via HB5.out hb6)
            have HLn6 := Lib.hid (HLn5.out.go hb6)
            have HLo6 := Lib.hid (show Rd w6 w6.heap.size 5 A6 (boardTo M V (C.length + 1)).length (lnC (boardTo M V (C.length + 1))) by rw [boardTo_len]; exact Rd.of_own ho6)
            clear ho6 hb6 HRM5 HLn5 HB5 hb hV
            go_wp2_with fail
            go_loopw [165] (fun i wr => ∃ j : Nat, j ≤ C.length ∧ i = .int .i64 (j : Int) ∧ Below w6.heap.size w6 wr) (fun i _ => C.length - (intOf i).toNat)
            case atStart => exact ⟨0, by omega, rfl, Below.refl _ _⟩
            case round =>
              obtain ⟨i, hi', rfl, hbel⟩ := hrel
              have Hbel := Lib.hid hbel
              clear hbel
              by_cases hlt2 : i < C.length
              · obtain ⟨m, hm⟩ : ∃ m, clI k i = m := ⟨_, rfl⟩
                have hmm2 : (k ≤ i ∧ m = i + 1) ∨ (¬ k ≤ i ∧ m = i) := by
                  rw [← hm]
                  unfold clI
                  by_cases h : i ≥ k
                  · rw [if_pos h]; exact .inl ⟨h, rfl⟩
                  · rw [if_neg h]; exact .inr ⟨h, rfl⟩
                have hml : m < C.length + 1 := by omega
                have hli := HLine.out i hlt2
                rw [hm] at hli
                obtain ⟨bl, ol, hA2, hbl, l0, l1, l2, l3, l4⟩ := rd_ln HLn6.out i (by rw [boardTo_len]; exact hlt2)
                subst hA2
                have hgetk : (boardTo C V C.length)[i]'(by rw [boardTo_len]; exact hlt2) = lineE C V i := boardTo_get C V C.length i hlt2
                rw [hgetk] at l0 l1 l2 l3 l4
                obtain ⟨bo, oo, hA3, hbo, o0, o1, o2, o3, o4⟩ := rd_ln HLo6.out m (by rw [boardTo_len]; exact hml)
                subst hA3
                have hgeto : (boardTo M V (C.length + 1))[m]'(by rw [boardTo_len]; exact hml) = lineE M V m := boardTo_get M V (C.length + 1) m hml
                rw [hgeto, hli] at o0 o1 o2 o3 o4
                have K1 := LnAt.below (x := lineE C V i) ⟨l0, l1, l2, l3, l4⟩ Hbel.out hbl
                have K2 := LnAt.below (x := lineE C V i) ⟨o0, o1, o2, o3, o4⟩ Hbel.out hbo
                clear l0 l1 l2 l3 l4 o0 o1 o2 o3 o4 hgetk hgeto hli hm
                generalize lineE C V i = ln at K1 K2
                obtain ⟨⟨x0, x1⟩, ⟨x2, x3⟩, x4⟩ := ln
                have hS0 := And.intro K1 K2
                dsimp only [LnAt] at hS0
                have HLnE := eqLn x0 x1 x2 x3 x4
                have b0 : (0 : Int) ≤ (i : Int) := by omega
                have b1 : (i : Int) < (C.length : Int) := by omega
                have b2 : (0 : Int) ≤ (m : Int) := by omega
                have b3 : (m : Int) < (C.length : Int) + 1 := by omega
                clear K1 K2
                rcases hmm2 with ⟨hki, rfl⟩ | ⟨hki, rfl⟩
                · have t1 : decide ((i : Int) ≥ (k : Int)) = true := decide_eq_true (by omega)
                  have t2 : decide ((k : Int) ≤ (i : Int)) = true := decide_eq_true (by omega)
                  go_upto_region 34 with fail
                  rw [show (i : Int) + 1 = ((i + 1 : Nat) : Int) by omega]
                  generalize i + 1 = m at hS0 b2 b3
                  refine wp_region_held_drew (S := (fun wq => (wq.cell? ⟨bl, ol + i * 5, none⟩ = some (.int .i64 x0) ∧ wq.cell? ⟨bl, ol + i * 5 + 1, none⟩ = some (.int .i64 x1) ∧ wq.cell? ⟨bl, ol + i * 5 + 2, none⟩ = some (.int .i64 x2) ∧ wq.cell? ⟨bl, ol + i * 5 + 3, none⟩ = some (.int .i64 x3) ∧ wq.cell? ⟨bl, ol + i * 5 + 4, none⟩ = some (.bool x4)) ∧ (wq.cell? ⟨bo, oo + m * 5, none⟩ = some (.int .i64 x0) ∧ wq.cell? ⟨bo, oo + m * 5 + 1, none⟩ = some (.int .i64 x1) ∧ wq.cell? ⟨bo, oo + m * 5 + 2, none⟩ = some (.int .i64 x2) ∧ wq.cell? ⟨bo, oo + m * 5 + 3, none⟩ = some (.int .i64 x3) ∧ wq.cell? ⟨bo, oo + m * 5 + 4, none⟩ = some (.bool x4)))) (by kernel_rfl) hS0 (fun hHeldA => ?_)
                  refine take_named23 (i := 0) (d := 174) (v := ?vA0) rfl (by kernel_rfl) (by kernel_rfl) (by kernel_rfl) (by kernel_rfl) (fun _ _ _ h => h) (Or.inl ⟨by kernel_rfl, ?yA0⟩) (by assumption) ?_
                  case yA0 => intro wq hSw; (try dsimp only at hSw); go_simp; (try with_reducible rfl)
                  (try simp only [Act.put, List.setIfInBounds_toArray, List.set_cons_zero, List.set_cons_succ])
                  refine take_named23 (i := 1) (d := 175) (v := ?vA1) rfl (by kernel_rfl) (by kernel_rfl) (by kernel_rfl) (by kernel_rfl) (fun _ _ _ h => h) (Or.inl ⟨by kernel_rfl, ?yA1⟩) (by assumption) ?_
                  case yA1 => intro wq hSw; (try dsimp only at hSw); go_simp; (try with_reducible rfl)
                  (try simp only [Act.put, List.setIfInBounds_toArray, List.set_cons_zero, List.set_cons_succ])
                  refine take_named23 (i := 2) (d := 176) (v := ?vA2) rfl (by kernel_rfl) (by kernel_rfl) (by kernel_rfl) (by kernel_rfl) (fun _ _ _ h => h) (Or.inl ⟨by kernel_rfl, ?yA2⟩) (by assumption) ?_
                  case yA2 => intro wq hSw; (try dsimp only at hSw); go_simp; (try with_reducible rfl)
                  (try simp only [Act.put, List.setIfInBounds_toArray, List.set_cons_zero, List.set_cons_succ])
                  refine take_named23 (i := 3) (d := 177) (v := ?vA3) rfl (by kernel_rfl) (by kernel_rfl) (by kernel_rfl) (by kernel_rfl) (fun _ _ _ h => h) (Or.inl ⟨by kernel_rfl, ?yA3⟩) (by assumption) ?_
                  case yA3 => intro wq hSw; (try dsimp only at hSw); go_simp; (try with_reducible rfl)
                  (try simp only [Act.put, List.setIfInBounds_toArray, List.set_cons_zero, List.set_cons_succ])
                  refine take_named23 (i := 4) (d := 178) (v := ?vA4) rfl (by kernel_rfl) (by kernel_rfl) (by kernel_rfl) (by kernel_rfl) (fun _ _ _ h => h) (Or.inl ⟨by kernel_rfl, ?yA4⟩) (by assumption) ?_
                  case yA4 => intro wq hSw; (try dsimp only at hSw); go_simp; (try with_reducible rfl)
                  (try simp only [Act.put, List.setIfInBounds_toArray, List.set_cons_zero, List.set_cons_succ])
                  refine take_named23 (i := 5) (d := 179) (v := ?vA5) rfl (by kernel_rfl) (by kernel_rfl) (by kernel_rfl) (by kernel_rfl) (fun _ _ _ h => h) (Or.inl ⟨by kernel_rfl, ?yA5⟩) (by assumption) ?_
                  case yA5 => intro wq hSw; (try dsimp only at hSw); go_simp; (try with_reducible rfl)
                  (try simp only [Act.put, List.setIfInBounds_toArray, List.set_cons_zero, List.set_cons_succ])
                  refine take_named23 (i := 6) (d := 180) (v := ?vA6) rfl (by kernel_rfl) (by kernel_rfl) (by kernel_rfl) (by kernel_rfl) (fun _ _ _ h => h) (Or.inl ⟨by kernel_rfl, ?yA6⟩) (by assumption) ?_
                  case yA6 => intro wq hSw; (try dsimp only at hSw); go_simp; (try with_reducible rfl)
                  (try simp only [Act.put, List.setIfInBounds_toArray, List.set_cons_zero, List.set_cons_succ])
                  refine take_named23 (i := 7) (d := 181) (v := ?vA7) rfl (by kernel_rfl) (by kernel_rfl) (by kernel_rfl) (by kernel_rfl) (fun _ _ _ h => h) (Or.inl ⟨by kernel_rfl, ?yA7⟩) (by assumption) ?_
                  case yA7 => intro wq hSw; (try dsimp only at hSw); go_simp; (try with_reducible rfl)
                  (try simp only [Act.put, List.setIfInBounds_toArray, List.set_cons_zero, List.set_cons_succ])
                  refine take_named23 (i := 8) (d := 182) (v := ?vA8) rfl (by kernel_rfl) (by kernel_rfl) (by kernel_rfl) (by kernel_rfl) (fun _ _ _ h => h) (Or.inl ⟨by kernel_rfl, ?yA8⟩) (by assumption) ?_
                  case yA8 => intro wq hSw; (try dsimp only at hSw); go_simp; (try with_reducible rfl)
                  (try simp only [Act.put, List.setIfInBounds_toArray, List.set_cons_zero, List.set_cons_succ])
                  refine wpAnyH_done (by kernel_rfl) ?_ _
                  clear hHeldA
                  clear hS0
                  go_wp2_with fail
                  go_roundw
                  case rel => exact ⟨i + 1, hlt2, by go_num, Hbel.out.drew⟩
                  case measure => simp [intOf]; omega
                · have t1 : decide ((m : Int) ≥ (k : Int)) = false := decide_eq_false (by omega)
                  have t2 : decide ((k : Int) ≤ (m : Int)) = false := decide_eq_false (by omega)
                  go_upto_region 34 with fail
                  refine wp_region_held_drew (S := (fun wq => (wq.cell? ⟨bl, ol + m * 5, none⟩ = some (.int .i64 x0) ∧ wq.cell? ⟨bl, ol + m * 5 + 1, none⟩ = some (.int .i64 x1) ∧ wq.cell? ⟨bl, ol + m * 5 + 2, none⟩ = some (.int .i64 x2) ∧ wq.cell? ⟨bl, ol + m * 5 + 3, none⟩ = some (.int .i64 x3) ∧ wq.cell? ⟨bl, ol + m * 5 + 4, none⟩ = some (.bool x4)) ∧ (wq.cell? ⟨bo, oo + m * 5, none⟩ = some (.int .i64 x0) ∧ wq.cell? ⟨bo, oo + m * 5 + 1, none⟩ = some (.int .i64 x1) ∧ wq.cell? ⟨bo, oo + m * 5 + 2, none⟩ = some (.int .i64 x2) ∧ wq.cell? ⟨bo, oo + m * 5 + 3, none⟩ = some (.int .i64 x3) ∧ wq.cell? ⟨bo, oo + m * 5 + 4, none⟩ = some (.bool x4)))) (by kernel_rfl) hS0 (fun hHeldB => ?_)
                  refine take_named23 (i := 0) (d := 174) (v := ?vB0) rfl (by kernel_rfl) (by kernel_rfl) (by kernel_rfl) (by kernel_rfl) (fun _ _ _ h => h) (Or.inl ⟨by kernel_rfl, ?yB0⟩) (by assumption) ?_
                  case yB0 => intro wq hSw; (try dsimp only at hSw); go_simp; (try with_reducible rfl)
                  (try simp only [Act.put, List.setIfInBounds_toArray, List.set_cons_zero, List.set_cons_succ])
                  refine take_named23 (i := 1) (d := 175) (v := ?vB1) rfl (by kernel_rfl) (by kernel_rfl) (by kernel_rfl) (by kernel_rfl) (fun _ _ _ h => h) (Or.inl ⟨by kernel_rfl, ?yB1⟩) (by assumption) ?_
                  case yB1 => intro wq hSw; (try dsimp only at hSw); go_simp; (try with_reducible rfl)
                  (try simp only [Act.put, List.setIfInBounds_toArray, List.set_cons_zero, List.set_cons_succ])
                  refine take_named23 (i := 2) (d := 176) (v := ?vB2) rfl (by kernel_rfl) (by kernel_rfl) (by kernel_rfl) (by kernel_rfl) (fun _ _ _ h => h) (Or.inl ⟨by kernel_rfl, ?yB2⟩) (by assumption) ?_
                  case yB2 => intro wq hSw; (try dsimp only at hSw); go_simp; (try with_reducible rfl)
                  (try simp only [Act.put, List.setIfInBounds_toArray, List.set_cons_zero, List.set_cons_succ])
                  refine take_named23 (i := 3) (d := 177) (v := ?vB3) rfl (by kernel_rfl) (by kernel_rfl) (by kernel_rfl) (by kernel_rfl) (fun _ _ _ h => h) (Or.inl ⟨by kernel_rfl, ?yB3⟩) (by assumption) ?_
                  case yB3 => intro wq hSw; (try dsimp only at hSw); go_simp; (try with_reducible rfl)
                  (try simp only [Act.put, List.setIfInBounds_toArray, List.set_cons_zero, List.set_cons_succ])
                  refine take_named23 (i := 4) (d := 178) (v := ?vB4) rfl (by kernel_rfl) (by kernel_rfl) (by kernel_rfl) (by kernel_rfl) (fun _ _ _ h => h) (Or.inl ⟨by kernel_rfl, ?yB4⟩) (by assumption) ?_
                  case yB4 => intro wq hSw; (try dsimp only at hSw); go_simp; (try with_reducible rfl)
                  (try simp only [Act.put, List.setIfInBounds_toArray, List.set_cons_zero, List.set_cons_succ])
                  refine take_named23 (i := 5) (d := 179) (v := ?vB5) rfl (by kernel_rfl) (by kernel_rfl) (by kernel_rfl) (by kernel_rfl) (fun _ _ _ h => h) (Or.inl ⟨by kernel_rfl, ?yB5⟩) (by assumption) ?_
                  case yB5 => intro wq hSw; (try dsimp only at hSw); go_simp; (try with_reducible rfl)
                  (try simp only [Act.put, List.setIfInBounds_toArray, List.set_cons_zero, List.set_cons_succ])
                  refine take_named23 (i := 6) (d := 180) (v := ?vB6) rfl (by kernel_rfl) (by kernel_rfl) (by kernel_rfl) (by kernel_rfl) (fun _ _ _ h => h) (Or.inl ⟨by kernel_rfl, ?yB6⟩) (by assumption) ?_
                  case yB6 => intro wq hSw; (try dsimp only at hSw); go_simp; (try with_reducible rfl)
                  (try simp only [Act.put, List.setIfInBounds_toArray, List.set_cons_zero, List.set_cons_succ])
                  refine take_named23 (i := 7) (d := 181) (v := ?vB7) rfl (by kernel_rfl) (by kernel_rfl) (by kernel_rfl) (by kernel_rfl) (fun _ _ _ h => h) (Or.inl ⟨by kernel_rfl, ?yB7⟩) (by assumption) ?_
                  case yB7 => intro wq hSw; (try dsimp only at hSw); go_simp; (try with_reducible rfl)
                  (try simp only [Act.put, List.setIfInBounds_toArray, List.set_cons_zero, List.set_cons_succ])
                  refine take_named23 (i := 8) (d := 182) (v := ?vB8) rfl (by kernel_rfl) (by kernel_rfl) (by kernel_rfl) (by kernel_rfl) (fun _ _ _ h => h) (Or.inl ⟨by kernel_rfl, ?yB8⟩) (by assumption) ?_
                  case yB8 => intro wq hSw; (try dsimp only at hSw); go_simp; (try with_reducible rfl)
                  (try simp only [Act.put, List.setIfInBounds_toArray, List.set_cons_zero, List.set_cons_succ])
                  refine wpAnyH_done (by kernel_rfl) ?_ _
                  clear hHeldB
                  clear hS0
                  go_wp2_with fail
                  go_roundw
                  case rel => exact ⟨m + 1, hlt2, by go_num, Hbel.out.drew⟩
                  case measure => simp [intOf]; omega
              · obtain rfl : i = C.length := by omega
                have HBe := Lib.hid (show Below w.heap.size w wr from below_via HB6.out Hbel.out)
                clear Hbel
                go_wp2_with fail
                refine (awake23 wr (HL.out.go HBe.out) (HLm.out.below HBe.out HLm.out.lt)).mono ?_
                rintro ee we ⟨rfl, hbe⟩
                go_wp2_with fail
                go_ret
                exact ⟨rfl, below_via HBe.out hbe⟩

end Go.Proofs.YtchklobblkddhaaDoor
