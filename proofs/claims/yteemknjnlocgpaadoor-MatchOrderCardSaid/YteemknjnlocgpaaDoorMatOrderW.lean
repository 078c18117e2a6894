/- The walk of the statement MatchOrder. -/
import Derived.Test.YteemknjnlocgpaaDoorMatSumLaw
import Derived.Test.YteemknjnlocgpaaDoorMatMadeW
import Derived.Test.YteemknjnlocgpaaDoorMatAwake
import Derived.Deep.AppendLies
namespace Go.Proofs.YteemknjnlocgpaaDoor
open Go.RowKit

/-- append onto a row of the call's own, as a step of a region that draws: the sum is not empty. -/
theorem step_append_any {P : Program} {w : World} {ops : Array Oper} {o : Oper} {a : Act} {K : Act → World → Prop} {Q : Exit → Act → World → Prop} {E : Prop} (hgd : o.guard = none) (s x : Operand) (t : TypeId)
    (ho : o.op = .call { callee := .builtin .append, args := #[s, x], argTypes := #[t, t] })
    (base : Nat) (e : TypeId) (i : TypeInfo) (z : Value) (size bytes : Nat) (ht : P.underlying t = some (.slice e)) (hi : P.info? e = some i) (hz : i.zero = some z)
    (hsize : i.size = size) (hby : i.bytes = bytes) (hzs : z.cells.size = size) (hsz : 0 < size)
    (v : Value) (n : Nat) (xs : List Value) (hs : a.eval s = v) (hown : w.ownsRow base e size v n xs)
    (ad : Addr) (m c : Nat) (news : List Value) (hx : a.eval x = .slice (some ad) m c) (hl : news.length = m * size) (hnews : ∀ j u, news[j]? = some u → w.cell? (ad.add j) = some u) (h1 : ∀ u ∈ news, u.oneCell' = true)
    (hm : 0 < n + m) (h63 : n + m ≤ maxLen) (hbytes : (n + m) * bytes ≤ 140737488355328) (hbase : base ≤ w.heap.size)
    (h : ∀ g cap w', w'.ownsRow base e size (.slice (some ⟨g, 0, none⟩) (n + m) cap) (n + m) (xs ++ news) → w.grownBy w' v.ownBlock → K (a.put o.dst (.slice (some ⟨g, 0, none⟩) (n + m) cap)) w') :
    if Region.wanted o (yielded ops a.tmps) = true then Oper.wp P o a w K Q else E := by
  have hw : Region.wanted o (yielded ops a.tmps) = true := by simp [Region.wanted, hgd]
  rw [if_pos hw]
  obtain ⟨v', w', hr, h2, h3, -, -⟩ := run_append_own_at (P := P) w base t o.type e i z size bytes ht hi hz hsize hby hzs hsz v n xs hown ad m c news hl hnews h1 h63 hbytes hbase
  obtain ⟨g, cap, rfl, -, -⟩ := h2.form hm
  unfold Oper.wp execOp
  simp only [ho, resolve, invoke, builtin, Sem.run_bind, Sem.run_pure, Result.andThen_ok, List.map_toArray, List.map_cons, List.map_nil, hs, hx, hr]
  exact h g cap w' h2 h3

/-- A list turned round, read off a row that holds its results' slices. -/
theorem rdl_turned {W : World} {base base' e e' g cap N k : Nat} {v : Value} {xs : List Value} {L : List (List Pt)} (hk : k < L.length) (hN : N = L.length)
    (h : W.ownsRow base' e' 1 (.slice (some ⟨g, 0, none⟩) N cap) N (xs.drop k ++ xs.take k)) (hO : OwnL W base e v xs L) : RdL W W.heap.size (some ⟨g, 0, none⟩) (L.drop k ++ L.take k) := fun i hi => by
  have hr := Rd.of_own h
  obtain ⟨b, off, e1, e2, e3⟩ := hr.pos (by omega)
  have hl : (L.drop k ++ L.take k).length = L.length := by rw [List.length_append, List.length_drop, List.length_take]; omega
  have hxl := hO.1
  obtain ⟨j, hj, hLj, hxj⟩ : ∃ (j : Nat) (hj : j < L.length), (L.drop k ++ L.take k)[i] = L[j] ∧ (xs.drop k ++ xs.take k)[i]? = xs[j]? := by
    by_cases hc : i < L.length - k
    · refine ⟨k + i, by omega, ?_, ?_⟩
      · rw [List.getElem_append_left (by rw [List.length_drop]; exact hc), List.getElem_drop]
      · rw [List.getElem?_append_left (by rw [List.length_drop, hxl]; exact hc), List.getElem?_drop]
    · refine ⟨i - (L.length - k), by omega, ?_, ?_⟩
      · rw [List.getElem_append_right (by rw [List.length_drop]; omega), List.getElem_take]
        simp only [List.length_drop]
      · rw [List.getElem?_append_right (by rw [List.length_drop, hxl]; omega), List.length_drop, hxl, List.getElem?_take_of_lt (by omega)]
  obtain ⟨Aj, cj, h1, h2, h3, _⟩ := hO.2 j hj
  rw [hLj]
  exact ⟨b, off, Aj, cj, e1, e2, (e3 i (by rw [hr.1]; omega)).trans (hxj.trans h1), h2, Rd.of_own h3⟩

theorem add_at (b o j : Nat) : (⟨b, o, none⟩ : Addr).add j = ⟨b, o + j, none⟩ := by
  unfold Addr.add
  split
  · rename_i h; subst h; rfl
  · rfl

set_option maxHeartbeats 4000000 in
set_option maxRecDepth 100000 in
theorem matchOrder_walk (S : List Sm) (by_ : Int) (hby_ : 0 ≤ by_ ∧ by_ ≤ 255) (A : Option Addr) (c : Nat) (w : World) (hL : Laid w) (hS : RdS w w.heap.size A S) (hok : ∀ s ∈ S, SmOk s) (hc : S.length ≤ c) (hm : c ≤ 9223372036854775807) :
    Calls Tryd.prog 7 #[.slice A S.length c, .int .u8 by_] w fun e w' => e = .returned (.bool true) ∧ Below w.heap.size w w' := by
  obtain ⟨i0, hi, hz0, hz1, hz2⟩ := info_parts info_res
  have h0 := hL.lt
  have HL := Lib.hid hL
  have HM : Calls Tryd.prog 30 #[.slice A S.length c, .int .i64 24] w _ := all_any S 24 A c w hS hok hc hm (by decide)
  have HM := Lib.hid HM
  have hr := allL_right S 24
  have hn := allL_len S 24
  have hn24 : (allL S 24).length ≤ 24 := by rw [hn]; omega
  generalize allL S 24 = L at HM hr hn24
  have Hr := Lib.hid hr
  clear hL hS hok hc hm hn hr
  go_enter Tryd.func7, Tryd.ntmps7
  go_wp2_with fail
  refine HM.out.mono ?_
  rintro e w1 ⟨v, xs, rfl, ho1, hl1, hb1⟩
  have HL1 := Lib.hid (HL.out.below hb1 h0)
  have h1 := hb1.size
  by_cases hz : L.length = 0
  · obtain ⟨B, cb, rfl⟩ := own_form ho1
    have hzi : (L.length : Int) = 0 := by omega
    have hzb : ((L.length : Int) == 0) = true := by rw [hzi]; rfl
    go_wp2_with fail
    refine (awake_any _ HL1.out).mono ?_
    rintro ee wz ⟨rfl, hbz⟩
    go_wp2
    go_ret
    exact ⟨rfl, hb1.trans (hbz.mono h1)⟩
  obtain ⟨b, cb, rfl⟩ := own_at' ho1 (by omega)
  have hA : RdL w1 w1.heap.size (some ⟨b, 0, none⟩) L := rdl_of_own ho1 hl1
  have hX : Rd w1 w1.heap.size 1 (some ⟨b, 0, none⟩) L.length xs := Rd.of_own ho1
  have hcb : L.length ≤ cb := by
    rcases ho1.2 with ⟨hv, _⟩ | ⟨g, cap, cur, hv, _, _, hncap, _⟩
    · injection hv with h; cases h
    · injection hv with h1 h2 h3; omega
  have HA := Lib.hid hA
  have HX := Lib.hid hX
  have HO := Lib.hid hl1
  clear ho1 hl1 HM HL hA hX
  have hzb : ((L.length : Int) == 0) = false := beq_eq_false_iff_ne.2 (by omega)
  have hzn : ¬ (L.length : Int) = 0 := by omega
  obtain ⟨k, hk⟩ : ∃ k : Nat, by_ % (L.length : Int) = (k : Int) := ⟨(by_ % (L.length : Int)).toNat, by have := Int.emod_nonneg by_ (show (L.length : Int) ≠ 0 by omega); omega⟩
  have hkl : k < L.length := by have := Int.emod_lt_of_pos by_ (show (0 : Int) < (L.length : Int) by omega); omega
  go_upto_region 5 with fail
  rw [hk]
  have Hk := Lib.hid hk
  clear hk hby_
  have HP := Lib.hid (points_any L (some ⟨b, 0, none⟩) cb w1 HL1.out HA.out (by omega) Hr.out)
  go_wp2_with fail
  refine HP.out.mono ?_
  rintro e w2 ⟨v, rfl, ho2, hb2⟩
  obtain ⟨P, cp, rfl⟩ := own_form ho2
  have hpl := ptsL_len L
  have HR1 := Lib.hid (show Rd w2 w2.heap.size 2 P (ptsL L).length (pC (ptsL L)) by rw [hpl]; exact Rd.of_own ho2)
  have HL2 := Lib.hid (HL1.out.below hb2 HL1.out.lt)
  have HA2 := Lib.hid (HA.out.go hb2)
  have HX2 := Lib.hid (HX.out.go hb2)
  have HO2 := Lib.hid (HO.out.below hb2)
  have hB2 : Below w.heap.size w w2 := hb1.trans (hb2.mono h1)
  have h2 := hB2.size
  clear ho2 HP HA HX HO HL1 hb1 hb2 h1
  have Hpl := Lib.hid hpl
  clear hpl
  have c1 : (0 : Int) ≤ (k : Int) := by omega
  have c2 : (k : Int) ≤ (L.length : Int) := by omega
  have c3 : (L.length : Int) ≤ (cb : Int) := by omega
  have c4 : (k : Int) ≤ (cb : Int) := by omega
  have c5 : ¬ cb = k := by omega
  have hd : Below w2.heap.size w2 w2.drew := (Below.refl _ _).drew
  have hown0 : ((w2.alloc (.cells #[] 24)).drew).ownsRow w2.heap.size 24 1 (.slice (some ⟨w2.heap.size, 0, none⟩) 0 0) 0 [] := (own_empty w2 _ _ _ rfl).drew
  have hb0 : Below w2.heap.size w2 ((w2.alloc (.cells #[] 24)).drew) := ((Below.refl _ _).alloc (Nat.le_refl _) _).drew
  have hxl := HO2.out.1
  have hone : ∀ u ∈ xs, u.oneCell' = true := by
    intro u hu
    obtain ⟨j, hj, rfl⟩ := List.getElem_of_mem hu
    obtain ⟨Aj, cj, e1, -⟩ := HO2.out.2 j (by omega)
    rw [List.getElem?_eq_getElem hj] at e1
    rw [Option.some.inj e1]; rfl
  have HN1 := Lib.hid (fun (W : World) (hW : Below w2.heap.size w2 W) => (show ∀ j u, (xs.drop k)[j]? = some u → W.cell? ((⟨b, k, none⟩ : Addr).add j) = some u from fun j u hu => by
    obtain ⟨b', o', e1, e2, e3⟩ := HX2.out.pos (by omega)
    obtain ⟨rfl, rfl⟩ : b = b' ∧ 0 = o' := by injection e1 with e1; injection e1 with e1 e2; exact ⟨e1, e2⟩
    rw [List.getElem?_drop] at hu
    have hlt := (List.getElem?_eq_some_iff.1 hu).1
    have := (e3 (k + j) hlt).trans hu
    rw [add_at, bcell hW b _ e2, ← this, Nat.zero_add]))
  have HN2 := Lib.hid (fun (W : World) (hW : Below w2.heap.size w2 W) => (show ∀ j u, (xs.take k)[j]? = some u → W.cell? ((⟨b, 0, none⟩ : Addr).add j) = some u from fun j u hu => by
    obtain ⟨b', o', e1, e2, e3⟩ := HX2.out.pos (by omega)
    obtain ⟨rfl, rfl⟩ : b = b' ∧ 0 = o' := by injection e1 with e1; injection e1 with e1 e2; exact ⟨e1, e2⟩
    have hjk : j < k := by have h := (List.getElem?_eq_some_iff.1 hu).1; rw [List.length_take] at h; omega
    rw [List.getElem?_take_of_lt hjk] at hu
    have hlt := (List.getElem?_eq_some_iff.1 hu).1
    have := (e3 j hlt).trans hu
    rw [add_at, bcell hW b _ e2, ← this]))
  have hl1 : (xs.drop k).length = (L.length - k) * 1 := by rw [List.length_drop]; omega
  have hl2 : (xs.take k).length = k * 1 := by rw [List.length_take]; omega
  have ho1 : ∀ u ∈ xs.drop k, u.oneCell' = true := fun u hu => hone u (List.mem_of_mem_drop hu)
  have ho2 : ∀ u ∈ xs.take k, u.oneCell' = true := fun u hu => hone u (List.mem_of_mem_take hu)
  have hm1 : 0 < 0 + (L.length - k) := by omega
  have h631 : 0 + (L.length - k) ≤ maxLen := by unfold maxLen; omega
  have hby1 : (0 + (L.length - k)) * 24 ≤ 140737488355328 := by omega
  have hbase0 : w2.heap.size ≤ ((w2.alloc (.cells #[] 24)).drew).heap.size := hb0.size
  have hrow0 : ∀ g, (Value.slice (some ⟨w2.heap.size, 0, none⟩) 0 0).ownBlock = some g → w2.heap.size ≤ g := fun g hg => by simp [Value.ownBlock] at hg; omega
  have hm2 : 0 < 0 + (L.length - k) + k := by omega
  have h632 : 0 + (L.length - k) + k ≤ maxLen := by unfold maxLen; omega
  have hby2 : (0 + (L.length - k) + k) * 24 ≤ 140737488355328 := by omega
  obtain ⟨L', hL'⟩ : ∃ L', L.drop k ++ L.take k = L' := ⟨_, rfl⟩
  have hLl : L'.length = L.length := by rw [← hL', List.length_append, List.length_drop, List.length_take]; omega
  have hr' : ∀ o ∈ L', rightM o = true := by
    intro o ho
    rw [← hL'] at ho
    rcases List.mem_append.1 ho with h | h
    · exact Hr.out o (List.mem_of_mem_drop h)
    · exact Hr.out o (List.mem_of_mem_take h)
  have HPT := Lib.hid (fun (W : World) (g cap N N' : Nat) (xs' : List Value) (hN : N = L.length) (hN' : N' = L.length) (hxs : xs' = xs.drop k ++ xs.take k) (h : W.ownsRow w2.heap.size 24 1 (.slice (some ⟨g, 0, none⟩) N' cap) N' xs') (hb : Below w2.heap.size w2 W) =>
    (show Calls Tryd.prog 12 #[.slice (some ⟨g, 0, none⟩) N cap] W fun e w' => ∃ (P2 : Option Addr) (cp2 : Nat), e = .returned (.tuple #[.slice P2 L.length cp2, .int .i64 0]) ∧ Rd w' w'.heap.size 2 P2 (ptsL L').length (pC (ptsL L')) ∧ Below W.heap.size W w' from by
      subst hN'
      rw [hN, hxs] at *
      have hrd := rdl_turned hkl rfl h (HO2.out.below hb)
      rw [hL'] at hrd
      have hq := points_any L' (some ⟨g, 0, none⟩) cap W (HL2.out.below hb HL2.out.lt) hrd (by omega) hr'
      rw [hLl] at hq
      refine hq.mono ?_
      rintro e w' ⟨v, rfl, ho, hb'⟩
      obtain ⟨P2, cp2, rfl⟩ := own_form ho
      exact ⟨P2, cp2, rfl, by rw [ptsL_len, hLl]; exact Rd.of_own ho, hb'⟩))
  have HL' := Lib.hid hL'
  have Hone := Lib.hid hone
  clear hL' hr' hone
  have en1 : 0 + (L.length - k) + k = L.length := by omega
  have ex1 : ([] : List Value) ++ xs.drop k ++ xs.take k = xs.drop k ++ xs.take k := rfl
  go_upto_region 6 with fail
  go_region_held3 (fun w' => Below w2.heap.size w2 w') ((first | exact hd | exact hb0 | exact hba | exact hbb | exact hbc))
    ((first
      | (refine step_append_any (by rfl) _ _ _ (by rfl) w2.heap.size 24 i0 (.slice none 0 0) 1 24 Tryd.underlying22 hi hz0 hz1 hz2 (by rfl) (by decide) _ 0 [] (by rfl) hown0 ⟨b, k, none⟩ (L.length - k) (cb - k) (xs.drop k) (by rfl) hl1 (HN1.out _ hb0) ho1 hm1 h631 hby1 hbase0 ?_; intro g1 cap1 wa hn1 hgr1; have hba := hb0.grown hgr1 hbase0 hrow0)
      | (refine step_append_any (by rfl) _ _ _ (by rfl) w2.heap.size 24 i0 (.slice none 0 0) 1 24 Tryd.underlying22 hi hz0 hz1 hz2 (by rfl) (by decide) _ (0 + (L.length - k)) ([] ++ xs.drop k) (by rfl) hn1 ⟨b, 0, none⟩ k cb (xs.take k) (by rfl) hl2 (HN2.out _ hba) ho2 hm2 h632 hby2 hba.size ?_; intro g2 cap2 wb hn2 hgr2; have hbb := hba.grown hgr2 hba.size (fun g hg => (hn1.lt g hg).1))
      | (go_at_call 12; refine (HPT.out _ _ _ _ _ _ (by first | omega | rfl) en1 ex1 hn2 hbb).mono ?_; rintro e wc ⟨P2, cp2, rfl, hr2, hbc0⟩; have hbc := hbb.trans (hbc0.mono hbb.size))))
  have sw2 := hbc.size
  have HP2 := Lib.hid (fun (i : Nat) (hi : i < L.length) => (show (ptsL L')[(i + L.length - k) % L.length]? = some ((ptsL L)[i]'(by rw [ptsL_len]; exact hi)) by rw [← HL'.out]; exact pts_turned L k i hkl hi))
  have HR2 := Lib.hid hr2
  have Hll := Lib.hid (show (ptsL L').length = L.length by rw [ptsL_len, hLl])
  have hb5 := hbc
  clear hbc hbc0 hr2 hn1 hn2 hgr1 hgr2 hba hbb hown0 hb0 hd HPT HN1 HN2 hl1 hl2 ho1 ho2 hm1 h631 hby1 hbase0 hrow0 hm2 h632 hby2 en1 ex1 Hone HX2 HO2 hxl hLl
  have hnn : ((L.length : Int) != (L.length : Int)) = false := by simp
  go_wp2_with fail
  go_loopw [64] (fun i wr => ∃ j : Nat, j ≤ L.length ∧ i = .int .i64 (j : Int) ∧ Below wc.heap.size wc wr) (fun i _ => L.length - (intOf i).toNat)
  case atStart => exact ⟨0, by omega, rfl, Below.refl _ _⟩
  case round =>
    obtain ⟨i, hi', rfl, hbel⟩ := hrel
    have hsr := hbel.size
    have hV := hb5.trans (hbel.mono sw2)
    have svr := hV.size
    by_cases hlt : i < L.length
    · obtain ⟨m, hm⟩ : ∃ m, (i + L.length - k) % L.length = m := ⟨_, rfl⟩
      have hml : m < L.length := by rw [← hm]; exact Nat.mod_lt _ (by omega)
      have hp2 := HP2.out i hlt
      rw [hm] at hp2
      obtain ⟨pb, po, rfl, hpw, e0, e1⟩ := rd_p HR1.out i (by rw [Hpl.out]; exact hlt)
      obtain ⟨pb2, po2, rfl, hpw2, e2, e3⟩ := rd_p HR2.out m (by rw [Hll.out]; exact hml)
      rw [List.getElem?_eq_getElem (by rw [Hll.out]; exact hml)] at hp2
      have hp3 := Option.some.inj hp2
      rw [hp3] at e2 e3
      have d0 := (bcell hV pb (po + i * 2) hpw).trans e0
      have d1 := (bcell hV pb (po + i * 2 + 1) hpw).trans e1
      have d2 := (bcell hbel pb2 (po2 + m * 2) hpw2).trans e2
      have d3 := (bcell hbel pb2 (po2 + m * 2 + 1) hpw2).trans e3
      clear e0 e1 e2 e3 hp2 hp3
      obtain ⟨f, hf⟩ : ∃ f, (ptsL L)[i]'(by rw [Hpl.out]; exact hlt) = f := ⟨_, rfl⟩
      rw [hf] at d0 d1 d2 d3
      have Hf := Lib.hid hf
      clear hf
      obtain ⟨f1, f2⟩ := f
      dsimp only at d0 d1 d2 d3
      obtain ⟨q, hq⟩ : ∃ q, i + L.length - k = q := ⟨_, rfl⟩
      have a1 : IntKind.i64.wrap ((i : Int) + (L.length : Int)) = (i : Int) + (L.length : Int) := IntWalk.i64_in _ (by omega)
      have a2 : IntKind.i64.wrap ((i : Int) + (L.length : Int) - (k : Int)) = (q : Int) := by rw [show (i : Int) + (L.length : Int) - (k : Int) = (q : Int) by omega]; exact IntWalk.i64_in _ (by omega)
      have a3 : (q : Int) % (L.length : Int) = (m : Int) := by rw [← hm, ← hq]; rfl
      have a4 : (q : Int).tmod (L.length : Int) = (m : Int) := by rw [Int.tmod_eq_emod_of_nonneg (by omega)]; exact a3
      have b0 : (0 : Int) ≤ (i : Int) := by omega
      have b1 : (i : Int) < (L.length : Int) := by omega
      have b2 : (0 : Int) ≤ (m : Int) := by omega
      have b3 : (m : Int) < (L.length : Int) := by omega
      clear hm hq
      go_upto_region 12 with fail
      go_quiet (fail)
      clear d0 d1 d2 d3 a1 a2 a3 a4 b2 b3 hml
      go_wp2_with fail
      go_loopw [86] (fun v wx => ∃ j : Nat, j ≤ L.length ∧ v = .int .i64 (j : Int) ∧ Below wc.heap.size wc wx) (fun v _ => L.length - (intOf v).toNat)
      case atStart => exact ⟨0, by omega, rfl, below_drewN hbel _⟩
      case round =>
        clear hV svr hbel hsr
        obtain ⟨j, hj, rfl, hbel⟩ := hrel
        have hsr := hbel.size
        have hV := hb5.trans (hbel.mono sw2)
        have svr := hV.size
        by_cases hlt2 : j < L.length
        · obtain ⟨b', o', Ai, ci, he, hbw, e0, -, hri⟩ := HA2.out i hlt
          obtain ⟨rfl, rfl⟩ : b = b' ∧ 0 = o' := by injection he with he; injection he with x1 x2; exact ⟨x1, x2⟩
          obtain ⟨b', o', Aj, cj, he2, -, e1, -, hrj⟩ := HA2.out j hlt2
          obtain ⟨rfl, ho'⟩ : b = b' ∧ 0 = o' := by injection he2 with he2; injection he2 with x1 x2; exact ⟨x1, x2⟩
          subst ho'
          rw [Nat.zero_add] at e0 e1
          have di := (bcell hV b i hbw).trans e0
          have dj := (bcell hV b j hbw).trans e1
          have g0 : (0 : Int) ≤ (j : Int) := by omega
          have g1 : (j : Int) < (L.length : Int) := by omega
          have hri := (hri.below hV).more svr
          have hrj := (hrj.below hV).more svr
          have nib := ((rightM_iff _).1 (Hr.out _ (List.getElem_mem hlt))).2.1
          have njb := ((rightM_iff _).1 (Hr.out _ (List.getElem_mem hlt2))).2.1
          clear e0 e1 he he2
          by_cases hi1 : (L[i]).length = 1
          · by_cases hj1 : (L[j]).length = 1
            · obtain ⟨bi, oi, rfl, hbi, f0, -⟩ := rd_p hri 0 (by omega)
              obtain ⟨bj, oj, rfl, hbj, f1', -⟩ := rd_p hrj 0 (by omega)
              rw [Nat.zero_mul, Nat.add_zero] at f0 f1'
              have ei : L[i][0]? = some (L[i][0]'(by omega)) := List.getElem?_eq_getElem (by omega)
              have ej : L[j][0]? = some (L[j][0]'(by omega)) := List.getElem?_eq_getElem (by omega)
              have hone := fun h => cmp_one L Hr.out i j hlt hlt2 hi1 hj1 _ _ _ _ ei ej h
              obtain ⟨pb', po', hpe, hpw', x2, x3⟩ := rd_p HR1.out j (by rw [Hpl.out]; exact hlt2)
              obtain ⟨rfl, rfl⟩ : pb = pb' ∧ po = po' := by injection hpe with hpe; injection hpe with y1 y2; exact ⟨y1, y2⟩
              obtain ⟨pb', po', hpe2, -, x0, x1⟩ := rd_p HR1.out i (by rw [Hpl.out]; exact hlt)
              obtain ⟨rfl, rfl⟩ : pb = pb' ∧ po = po' := by injection hpe2 with hpe2; injection hpe2 with y1 y2; exact ⟨y1, y2⟩
              have hsm := pts_sm L Hr.out (by omega)
              have HC := Lib.hid (fun W => fcmp_sm _ _ (hsm _ (List.getElem_mem (by rw [Hpl.out]; exact hlt : i < (ptsL L).length))) (hsm _ (List.getElem_mem (by rw [Hpl.out]; exact hlt2 : j < (ptsL L).length))) W)
              have d0 := (bcell hV pb (po + i * 2) hpw).trans x0
              have d1 := (bcell hV pb (po + i * 2 + 1) hpw).trans x1
              have d2 := (bcell hV pb (po + j * 2) hpw).trans x2
              have d3 := (bcell hV pb (po + j * 2 + 1) hpw).trans x3
              rw [hi1] at di
              rw [hj1] at dj
              generalize (L[i][0]'_).1 = p at f0 hone
              generalize (L[j][0]'_).1 = q at f1' hone
              generalize cmpF _ _ = u at HC hone
              generalize (ptsL L)[i]'_ = f at d0 d1 HC
              generalize (ptsL L)[j]'_ = g at d2 d3 HC
              obtain ⟨x, y⟩ := f
              obtain ⟨z, t⟩ := g
              unfold fV at HC
              dsimp only at HC d0 d1 d2 d3
              have l1 : pb < wr.heap.size := by omega
              have Hone := Lib.hid hone
              clear x0 x1 x2 x3 hpe hpe2 ei ej hone hri hrj hi1 hj1 nib njb hsm
              by_cases hpq : q ≤ p
              · have t1 : decide (p ≥ q) = true := decide_eq_true hpq
                have t2 : decide (q ≤ p) = true := decide_eq_true hpq
                go_upto_region 17 with fail
                go_quiet (fail)
                have hb9 : Below wc.heap.size wc (wr.drewN nq) := below_drewN hbel nq
                have d0 : (wr.drewN nq).cell? ⟨pb, po + i * 2, none⟩ = some (.int .i64 x) := d0
                have d1 : (wr.drewN nq).cell? ⟨pb, po + i * 2 + 1, none⟩ = some (.int .i64 y) := d1
                have d2 : (wr.drewN nq).cell? ⟨pb, po + j * 2, none⟩ = some (.int .i64 z) := d2
                have d3 : (wr.drewN nq).cell? ⟨pb, po + j * 2 + 1, none⟩ = some (.int .i64 t) := d3
                have l9 : pb < (wr.drewN nq).heap.size := l1
                have hu : 0 ≤ u := Hone.out hpq
                clear hV hbel hsr svr di dj f0 f1' hbi hbj l1
                generalize wr.drewN nq = W9 at hb9 d0 d1 d2 d3 l9 ⊢
                have hd : Below W9.heap.size W9 W9.drew := (Below.refl _ _).drew
                have HK := Lib.hid (fun (w' : World) (h : Below W9.heap.size W9 w') => (show w'.cell? ⟨pb, po + i * 2, none⟩ = some (.int .i64 x) ∧ w'.cell? ⟨pb, po + i * 2 + 1, none⟩ = some (.int .i64 y) ∧ w'.cell? ⟨pb, po + j * 2, none⟩ = some (.int .i64 z) ∧ w'.cell? ⟨pb, po + j * 2 + 1, none⟩ = some (.int .i64 t) from ⟨keepB h l9 d0, keepB h l9 d1, keepB h l9 d2, keepB h l9 d3⟩))
                go_upto_region 18 with fail
                go_region_held3 (fun w' => w'.cell? ⟨pb, po + i * 2, none⟩ = some (.int .i64 x) ∧ w'.cell? ⟨pb, po + i * 2 + 1, none⟩ = some (.int .i64 y) ∧ w'.cell? ⟨pb, po + j * 2, none⟩ = some (.int .i64 z) ∧ w'.cell? ⟨pb, po + j * 2 + 1, none⟩ = some (.int .i64 t)) ((first | exact ⟨d0, d1, d2, d3⟩ | exact HK.out _ hbo))
                  ((go_at_call 31; (with_reducible refine (HC.out _).mono ?_); rintro ee wo ⟨rfl, hbo0⟩; have hbo := hd.trans (hbo0.mono hd.size)))
                have hbz := hb9.trans (hbo.mono hb9.size)
                have v1 : decide (u < 0) = false := decide_eq_false (by omega)
                clear hd HK HC hbo0 d0 d1 d2 d3
                go_wp2
                go_roundw
                case rel => exact ⟨j + 1, by omega, by go_num, hbz⟩
                case measure => simp [intOf]; omega
              · have t1 : decide (p ≥ q) = false := decide_eq_false hpq
                have t2 : decide (q ≤ p) = false := decide_eq_false hpq
                go_upto_region 17 with fail
                go_quiet (fail)
                go_wp2
                go_roundw
                case rel => exact ⟨j + 1, by omega, by go_num, below_drewN hbel _⟩
                case measure => simp [intOf]; omega
            · rw [hi1] at di
              generalize (L[j]).length = nj at dj hj1 njb
              have t1 : ((nj : Int) == 1) = false := beq_eq_false_iff_ne.2 (by omega)
              have t2 : decide ((nj : Int) = 1) = false := decide_eq_false (by omega)
              clear hri hrj hi1
              go_upto_region 17 with fail
              go_quiet (fail)
              go_wp2
              go_roundw
              case rel => exact ⟨j + 1, by omega, by go_num, below_drewN hbel _⟩
              case measure => simp [intOf]; omega
          · generalize (L[i]).length = ni at di hi1 nib
            have t1 : ((ni : Int) == 1) = false := beq_eq_false_iff_ne.2 (by omega)
            have t2 : decide ((ni : Int) = 1) = false := decide_eq_false (by omega)
            clear hri hrj
            go_upto_region 17 with fail
            go_quiet (fail)
            go_wp2
            go_roundw
            case rel => exact ⟨j + 1, by omega, by go_num, below_drewN hbel _⟩
            case measure => simp [intOf]; omega
        · have t0 : decide ((j : Int) < (L.length : Int)) = false := decide_eq_false (by omega)
          go_wp2
          go_roundw
          case rel => exact ⟨i + 1, by omega, by go_num, hbel⟩
          case measure => simp [intOf]; omega
    · have t0 : decide ((i : Int) < (L.length : Int)) = false := decide_eq_false (by omega)
      go_wp2_with fail
      refine (awake_any _ (HL2.out.below hV HL2.out.lt)).mono ?_
      rintro ee wz ⟨rfl, hbz⟩
      go_wp2
      go_ret
      exact ⟨rfl, hB2.trans ((hV.trans (hbz.mono svr)).mono h2)⟩

end Go.Proofs.YteemknjnlocgpaaDoor
