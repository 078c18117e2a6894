/- An argument that is an entry in small numbers: three bytes, and three arrays of bytes. An argument that is a slice of entries in small numbers. What the tied tables of the package score give the walks. -/
import Derived.Test.YtchklobblkddhaaDoorAdjMadeW
import Derived.Test.YtchklobblkddhaaDoorOpen
import Derived.Lib.SmallJoins
import Derived.Lib.LaidTab
import Derived.Test.YtchklobblkddhaaDoorFouMadeW
import Derived.Deep.Slices
import Derived.Deep.Fields
import Derived.ChangeSame
import Derived.Test.YtchklobblkddhaaDoorScoW
import Derived.Test.YtchklobblkddhaaDoorMatW
import Derived.Test.YtchklobblkddhaaDoorRows
import Derived.LaidMore
import Derived.Stop.Joined
namespace Go.Proofs.YtchklobblkddhaaDoor
open Go.ChangeShapes Go.WideShapes Go.RowKit Go.Deep
open Go.RowKit

/-! ### An argument that is an entry in small numbers: three bytes, and three arrays of bytes. -/
/-- The cells of an array of integers. -/
theorem arr_cells {H : Type} {enc : TypeId × Value → H} {P : Program} {w : World} {base : Nat} {sp : Nat → Bool} {held : Bool} {fuel : Nat} {t e : TypeId} {n : Nat} {k : IntKind} {cs : List Value} {x : DataW H × List MemPlace}
    (ht : P.underlying t = some (.array n e)) (he : P.underlying e = some (.int k)) (hce : P.cellsOf e = 1) (hct : P.cellsOf t = n)
    (h : DataW.trod enc P w base sp held fuel t cs = some x) : ∀ i, i < n → ∃ z, cs[i]? = some (.int k z) ∧ (Lit.int k z).wf = true := by
  cases fuel with
  | zero => simp [DataW.trod] at h
  | succ fuel =>
    simp only [DataW.trod, ht, hce, hct, Nat.mul_one] at h
    split at h
    · obtain ⟨xs, hm, -⟩ := Option.map_eq_some_iff.1 h
      intro i hi
      obtain ⟨b, hb, hf⟩ := Lib.mapM_at hm i i (by simp [hi])
      obtain ⟨z, hc, -, hw⟩ := DataW.trod_int he hf
      refine ⟨z, ?_, hw⟩
      have := congrArg (·[0]?) hc
      simpa [List.getElem?_take, List.getElem?_drop] using this
    · cases h

theorem open_entry {H : Type} {enc : TypeId × Value → H} {P : Program} {W : World} {t : TypeId} {f0 f1 f2 f3 f4 f5 : Field} {v : Value} {d : DataW H} {ps : List MemPlace} {base : Nat} {e4 : TypeId}
    (hs : P.underlying t = some (.struct #[f0, f1, f2, f3, f4, f5])) (hC : P.cellsOf t = 14)
    (h0 : P.underlying f0.type = some (.int .u8)) (h1 : P.underlying f1.type = some (.int .u8)) (h2 : P.underlying f2.type = some (.int .u8))
    (h3 : P.underlying f3.type = some (.array 4 e4)) (h4 : P.underlying f4.type = some (.array 4 e4)) (h5 : P.underlying f5.type = some (.array 3 e4)) (he : P.underlying e4 = some (.int .u8)) (hce : P.cellsOf e4 = 1)
    (c0 : P.cellsOf f0.type = 1) (c1 : P.cellsOf f1.type = 1) (c2 : P.cellsOf f2.type = 1) (c3 : P.cellsOf f3.type = 4) (c4 : P.cellsOf f4.type = 4) (c5 : P.cellsOf f5.type = 3)
    (o0 : f0.offset = 0) (o1 : f1.offset = 1) (o2 : f2.offset = 2) (o3 : f3.offset = 3) (o4 : f4.offset = 7) (o5 : f5.offset = 11)
    (hval : Value.okWide P W .any base t v) (h : DataW.Trod enc P W 0 (fun _ => true) true t v d ps) : ∃ x : SmE, v = .agg (smA x) ∧ x.Ok := by
  obtain ⟨cs, rfl, hsz⟩ := okWide_struct hs hval
  rw [hC] at hsz
  obtain ⟨fuel, hf⟩ := h
  obtain ⟨xs, n, _, _, hl, hlen, hff⟩ := DataW.trod_struct hs hf
  obtain ⟨y0, y1, y2, y3, y4, y5, rfl⟩ : ∃ y0 y1 y2 y3 y4 y5, xs = [y0, y1, y2, y3, y4, y5] := by
    match xs, hlen with
    | [a, b, c, d, e, f], _ => exact ⟨a, b, c, d, e, f, rfl⟩
  have one : ∀ (j : Nat) (ty : TypeId) (y : DataW H × List MemPlace), P.underlying ty = some (.int .u8) → P.cellsOf ty = 1 → DataW.trod enc P W 0 (fun _ => true) true n ty (((Value.agg cs).cells.toList.drop j).take (P.cellsOf ty)) = some y → ∃ z, cs[j]? = some (.int .u8 z) ∧ (Lit.int .u8 z).wf = true := by
    intro j ty y hu hc ht
    obtain ⟨z, hz, -, hw⟩ := DataW.trod_int hu ht
    refine ⟨z, ?_, hw⟩
    rw [hc] at hz
    have := congrArg (·[0]?) hz
    simpa [List.getElem?_take, List.getElem?_drop, Value.cells] using this
  have many : ∀ (j m : Nat) (ty : TypeId) (y : DataW H × List MemPlace), P.underlying ty = some (.array m e4) → P.cellsOf ty = m → DataW.trod enc P W 0 (fun _ => true) true n ty (((Value.agg cs).cells.toList.drop j).take (P.cellsOf ty)) = some y → ∀ i, i < m → ∃ z, cs[j + i]? = some (.int .u8 z) ∧ (Lit.int .u8 z).wf = true := by
    intro j m ty y hu hc ht i hi
    obtain ⟨z, hz, hw⟩ := arr_cells hu he hce hc ht i hi
    refine ⟨z, ?_, hw⟩
    rw [hc, List.getElem?_take, if_pos hi, List.getElem?_drop] at hz
    simpa [Value.cells] using hz
  obtain ⟨z0, e0, w0⟩ := one 0 f0.type y0 h0 c0 (by have := hff 0 f0 rfl; rw [o0] at this; exact this)
  obtain ⟨z1, e1, w1⟩ := one 1 f1.type y1 h1 c1 (by have := hff 1 f1 rfl; rw [o1] at this; exact this)
  obtain ⟨z2, e2, w2⟩ := one 2 f2.type y2 h2 c2 (by have := hff 2 f2 rfl; rw [o2] at this; exact this)
  have ab := many 3 4 f3.type y3 h3 c3 (by have := hff 3 f3 rfl; rw [o3] at this; exact this)
  have at9 := many 7 4 f4.type y4 h4 c4 (by have := hff 4 f4 rfl; rw [o4] at this; exact this)
  have av := many 11 3 f5.type y5 h5 c5 (by have := hff 5 f5 rfl; rw [o5] at this; exact this)
  obtain ⟨b0, eb0, wb0⟩ := ab 0 (by decide)
  obtain ⟨b1, eb1, wb1⟩ := ab 1 (by decide)
  obtain ⟨b2, eb2, wb2⟩ := ab 2 (by decide)
  obtain ⟨b3, eb3, wb3⟩ := ab 3 (by decide)
  obtain ⟨t0, et0, wt0⟩ := at9 0 (by decide)
  obtain ⟨t1, et1, wt1⟩ := at9 1 (by decide)
  obtain ⟨t2, et2, wt2⟩ := at9 2 (by decide)
  obtain ⟨t3, et3, wt3⟩ := at9 3 (by decide)
  obtain ⟨v0, ev0, wv0⟩ := av 0 (by decide)
  obtain ⟨v1, ev1, wv1⟩ := av 1 (by decide)
  obtain ⟨v2, ev2, wv2⟩ := av 2 (by decide)
  refine ⟨⟨z0, z1, z2, fun i => if i = 0 then b0 else if i = 1 then b1 else if i = 2 then b2 else b3, fun i => if i = 0 then t0 else if i = 1 then t1 else if i = 2 then t2 else t3, fun i => if i = 0 then v0 else if i = 1 then v1 else v2⟩, ?_, ?_⟩
  · congr 1
    apply Array.ext_getElem?
    intro j
    by_cases hj : j < 14
    · have hjj : j = 0 ∨ j = 1 ∨ j = 2 ∨ j = 3 ∨ j = 4 ∨ j = 5 ∨ j = 6 ∨ j = 7 ∨ j = 8 ∨ j = 9 ∨ j = 10 ∨ j = 11 ∨ j = 12 ∨ j = 13 := by omega
      rcases hjj with rfl | rfl | rfl | rfl | rfl | rfl | rfl | rfl | rfl | rfl | rfl | rfl | rfl | rfl
      · exact e0
      · exact e1
      · exact e2
      · exact eb0
      · exact eb1
      · exact eb2
      · exact eb3
      · exact et0
      · exact et1
      · exact et2
      · exact et3
      · exact ev0
      · exact ev1
      · exact ev2
    · rw [Array.getElem?_eq_none (by omega), Array.getElem?_eq_none (by simp [smA]; omega)]
  · refine ⟨bounds_u8 w0, bounds_u8 w1, bounds_u8 w2, fun i => ?_, fun i => ?_, fun i => ?_⟩
    · dsimp only
      (repeat' split)
      · exact bounds_u8 wb0
      · exact bounds_u8 wb1
      · exact bounds_u8 wb2
      · exact bounds_u8 wb3
    · dsimp only
      (repeat' split)
      · exact bounds_u8 wt0
      · exact bounds_u8 wt1
      · exact bounds_u8 wt2
      · exact bounds_u8 wt3
    · dsimp only
      (repeat' split)
      · exact bounds_u8 wv0
      · exact bounds_u8 wv1
      · exact bounds_u8 wv2

/-! ### An argument that is a slice of entries in small numbers. -/
theorem addr_add23 (b off n : Nat) : (⟨b, off, none⟩ : Addr).add n = ⟨b, off + n, none⟩ := by
  unfold Addr.add
  split
  · rename_i h; rw [h]; rfl
  · rfl
theorem open_entry_cs {H : Type} {enc : TypeId × Value → H} {P : Program} {W : World} {t : TypeId} {f0 f1 f2 f3 f4 f5 : Field} {cs : List Value} {fuel : Nat} {x : DataW H × List MemPlace} {e4 : TypeId}
    (hs : P.underlying t = some (.struct #[f0, f1, f2, f3, f4, f5])) (hsz : cs.length = 14)
    (h0 : P.underlying f0.type = some (.int .u8)) (h1 : P.underlying f1.type = some (.int .u8)) (h2 : P.underlying f2.type = some (.int .u8))
    (h3 : P.underlying f3.type = some (.array 4 e4)) (h4 : P.underlying f4.type = some (.array 4 e4)) (h5 : P.underlying f5.type = some (.array 3 e4)) (he : P.underlying e4 = some (.int .u8)) (hce : P.cellsOf e4 = 1)
    (c0 : P.cellsOf f0.type = 1) (c1 : P.cellsOf f1.type = 1) (c2 : P.cellsOf f2.type = 1) (c3 : P.cellsOf f3.type = 4) (c4 : P.cellsOf f4.type = 4) (c5 : P.cellsOf f5.type = 3)
    (o0 : f0.offset = 0) (o1 : f1.offset = 1) (o2 : f2.offset = 2) (o3 : f3.offset = 3) (o4 : f4.offset = 7) (o5 : f5.offset = 11)
    (hf : DataW.trod enc P W 0 (fun _ => true) true fuel t cs = some x) : ∃ x : SmE, cs = (smA x).toList ∧ x.Ok := by
  obtain ⟨xs, n, _, _, hl, hlen, hff⟩ := DataW.trod_struct hs hf
  obtain ⟨y0, y1, y2, y3, y4, y5, rfl⟩ : ∃ y0 y1 y2 y3 y4 y5, xs = [y0, y1, y2, y3, y4, y5] := by
    match xs, hlen with
    | [a, b, c, d, e, f], _ => exact ⟨a, b, c, d, e, f, rfl⟩
  have one : ∀ (j : Nat) (ty : TypeId) (y : DataW H × List MemPlace), P.underlying ty = some (.int .u8) → P.cellsOf ty = 1 → DataW.trod enc P W 0 (fun _ => true) true n ty ((cs.drop j).take (P.cellsOf ty)) = some y → ∃ z, cs[j]? = some (.int .u8 z) ∧ (Lit.int .u8 z).wf = true := by
    intro j ty y hu hc ht
    obtain ⟨z, hz, -, hw⟩ := DataW.trod_int hu ht
    refine ⟨z, ?_, hw⟩
    rw [hc] at hz
    have := congrArg (·[0]?) hz
    simpa [List.getElem?_take, List.getElem?_drop] using this
  have many : ∀ (j m : Nat) (ty : TypeId) (y : DataW H × List MemPlace), P.underlying ty = some (.array m e4) → P.cellsOf ty = m → DataW.trod enc P W 0 (fun _ => true) true n ty ((cs.drop j).take (P.cellsOf ty)) = some y → ∀ i, i < m → ∃ z, cs[j + i]? = some (.int .u8 z) ∧ (Lit.int .u8 z).wf = true := by
    intro j m ty y hu hc ht i hi
    obtain ⟨z, hz, hw⟩ := arr_cells hu he hce hc ht i hi
    refine ⟨z, ?_, hw⟩
    rw [hc, List.getElem?_take, if_pos hi, List.getElem?_drop] at hz
    simpa using hz
  obtain ⟨z0, e0, w0⟩ := one 0 f0.type y0 h0 c0 (by have := hff 0 f0 rfl; rw [o0] at this; exact this)
  obtain ⟨z1, e1, w1⟩ := one 1 f1.type y1 h1 c1 (by have := hff 1 f1 rfl; rw [o1] at this; exact this)
  obtain ⟨z2, e2, w2⟩ := one 2 f2.type y2 h2 c2 (by have := hff 2 f2 rfl; rw [o2] at this; exact this)
  have ab := many 3 4 f3.type y3 h3 c3 (by have := hff 3 f3 rfl; rw [o3] at this; exact this)
  have at9 := many 7 4 f4.type y4 h4 c4 (by have := hff 4 f4 rfl; rw [o4] at this; exact this)
  have av := many 11 3 f5.type y5 h5 c5 (by have := hff 5 f5 rfl; rw [o5] at this; exact this)
  obtain ⟨b0, eb0, wb0⟩ := ab 0 (by decide)
  obtain ⟨b1, eb1, wb1⟩ := ab 1 (by decide)
  obtain ⟨b2, eb2, wb2⟩ := ab 2 (by decide)
  obtain ⟨b3, eb3, wb3⟩ := ab 3 (by decide)
  obtain ⟨t0, et0, wt0⟩ := at9 0 (by decide)
  obtain ⟨t1, et1, wt1⟩ := at9 1 (by decide)
  obtain ⟨t2, et2, wt2⟩ := at9 2 (by decide)
  obtain ⟨t3, et3, wt3⟩ := at9 3 (by decide)
  obtain ⟨v0, ev0, wv0⟩ := av 0 (by decide)
  obtain ⟨v1, ev1, wv1⟩ := av 1 (by decide)
  obtain ⟨v2, ev2, wv2⟩ := av 2 (by decide)
  refine ⟨⟨z0, z1, z2, fun i => if i = 0 then b0 else if i = 1 then b1 else if i = 2 then b2 else b3, fun i => if i = 0 then t0 else if i = 1 then t1 else if i = 2 then t2 else t3, fun i => if i = 0 then v0 else if i = 1 then v1 else v2⟩, ?_, ?_⟩
  · apply List.ext_getElem?
    intro j
    by_cases hj : j < 14
    · have hjj : j = 0 ∨ j = 1 ∨ j = 2 ∨ j = 3 ∨ j = 4 ∨ j = 5 ∨ j = 6 ∨ j = 7 ∨ j = 8 ∨ j = 9 ∨ j = 10 ∨ j = 11 ∨ j = 12 ∨ j = 13 := by omega
      rcases hjj with rfl | rfl | rfl | rfl | rfl | rfl | rfl | rfl | rfl | rfl | rfl | rfl | rfl | rfl
      · exact e0
      · exact e1
      · exact e2
      · exact eb0
      · exact eb1
      · exact eb2
      · exact eb3
      · exact et0
      · exact et1
      · exact et2
      · exact et3
      · exact ev0
      · exact ev1
      · exact ev2
    · rw [List.getElem?_eq_none (by omega), List.getElem?_eq_none (by simp [smA]; omega)]
  · refine ⟨bounds_u8 w0, bounds_u8 w1, bounds_u8 w2, fun i => ?_, fun i => ?_, fun i => ?_⟩
    · dsimp only
      (repeat' split)
      · exact bounds_u8 wb0
      · exact bounds_u8 wb1
      · exact bounds_u8 wb2
      · exact bounds_u8 wb3
    · dsimp only
      (repeat' split)
      · exact bounds_u8 wt0
      · exact bounds_u8 wt1
      · exact bounds_u8 wt2
      · exact bounds_u8 wt3
    · dsimp only
      (repeat' split)
      · exact bounds_u8 wv0
      · exact bounds_u8 wv1
      · exact bounds_u8 wv2

theorem open_ents {H : Type} {enc : TypeId × Value → H} {P : Program} {W : World} {t0 t : TypeId} {f0 f1 f2 f3 f4 f5 : Field} {v : Value} {d : DataW H} {ps : List MemPlace} {base : Nat} {e4 : TypeId}
    (ht0 : P.underlying t0 = some (.slice t)) (hC : P.cellsOf t = 14) (hs : P.underlying t = some (.struct #[f0, f1, f2, f3, f4, f5]))
    (h0 : P.underlying f0.type = some (.int .u8)) (h1 : P.underlying f1.type = some (.int .u8)) (h2 : P.underlying f2.type = some (.int .u8))
    (h3 : P.underlying f3.type = some (.array 4 e4)) (h4 : P.underlying f4.type = some (.array 4 e4)) (h5 : P.underlying f5.type = some (.array 3 e4)) (he : P.underlying e4 = some (.int .u8)) (hce : P.cellsOf e4 = 1)
    (c0 : P.cellsOf f0.type = 1) (c1 : P.cellsOf f1.type = 1) (c2 : P.cellsOf f2.type = 1) (c3 : P.cellsOf f3.type = 4) (c4 : P.cellsOf f4.type = 4) (c5 : P.cellsOf f5.type = 3)
    (o0 : f0.offset = 0) (o1 : f1.offset = 1) (o2 : f2.offset = 2) (o3 : f3.offset = 3) (o4 : f4.offset = 7) (o5 : f5.offset = 11)
    (hval : Value.okWide P W .any base t0 v) (h : DataW.Trod enc P W 0 (fun _ => true) true t0 v d ps) :
    ∃ (A : Option Addr) (c : Nat) (S : List SmE), v = .slice A S.length c ∧ Rd W W.heap.size 14 A S.length (smL S) ∧ (∀ x ∈ S, x.Ok) ∧ S.length ≤ c ∧ c ≤ 9223372036854775807 := by
  obtain ⟨a0, len, cap, rfl⟩ := okWide_slice ht0 hval
  obtain ⟨fuel, hf⟩ := h
  rcases open_slice ht0 hf with ⟨hcs, _⟩ | ⟨a, len', cap', m, n, D, Pl, hcs, _, hl, hm, hmm, _, hi⟩
  · simp [Value.cells] at hcs
    obtain ⟨rfl, rfl, rfl⟩ := hcs
    exact ⟨none, 0, [], rfl, Rd.nil_, by simp, by simp, by omega⟩
  · simp [Value.cells] at hcs
    obtain ⟨rfl, rfl, rfl⟩ := hcs
    rw [if_pos rfl] at hmm
    have each : ∀ i, i < len → ∃ x : SmE, x.Ok ∧ ∀ j, j < 14 → W.cell? ((a.add (i * 14)).add j) = (smA x)[j]? := by
      intro i hlt
      obtain ⟨cs', hcc, ht'⟩ := hi i (by omega)
      rw [hC] at hcc
      obtain ⟨_, hcl, hat⟩ := World.cells?_some hcc
      obtain ⟨x, rfl, hx⟩ := open_entry_cs hs hcl h0 h1 h2 h3 h4 h5 he hce c0 c1 c2 c3 c4 c5 o0 o1 o2 o3 o4 o5 ht'
      exact ⟨x, hx, fun j hj => (hat j hj).trans (by rw [Array.getElem?_toList])⟩
    let S : List SmE := List.ofFn (n := len) fun i => Classical.choose (each i.1 i.2)
    have hS : S.length = len := by simp [S]
    have hSi : ∀ i (hlt : i < len), (S[i]'(by omega)).Ok ∧ ∀ j, j < 14 → W.cell? ((a.add (i * 14)).add j) = (smA (S[i]'(by omega)))[j]? := by
      intro i hlt
      have := Classical.choose_spec (each i hlt)
      simpa [S] using this
    refine ⟨some a, cap, S, by rw [hS], ?_, ?_, by omega, by unfold maxLen at hm; omega⟩
    · refine ⟨by rw [smL_len], fun hn => ?_⟩
      obtain ⟨b, off, spot⟩ := a
      have hspot : spot = none := by
        have := (hSi 0 (by omega)).2 0 (by decide)
        have h2 : (smA (S[0]'(by omega)))[0]? = some (.int .u8 (S[0]'(by omega)).k) := rfl
        rw [h2] at this
        simpa [Addr.add] using World.cell?_spot this
      subst hspot
      have hlt : b < W.heap.size := cell_lt (o := off) (v := .int .u8 (S[0]'(by omega)).k) (by
        have := (hSi 0 (by omega)).2 0 (by decide)
        have h2 : (smA (S[0]'(by omega)))[0]? = some (.int .u8 (S[0]'(by omega)).k) := rfl
        rw [h2] at this
        simpa [Addr.add] using this)
      refine ⟨b, off, rfl, hlt, fun j hj => ?_⟩
      rw [smL_len] at hj
      have hdiv : j / 14 < len := by omega
      have q := (hSi (j / 14) hdiv).2 (j % 14) (by omega)
      rw [addr_add23, addr_add23] at q
      have g := smL_get S (j / 14) (by omega) (j % 14) (by omega)
      have e : j / 14 * 14 + j % 14 = j := by omega
      rw [e] at g
      rw [Nat.add_assoc, e] at q
      rw [g, q]
    · intro x hx
      obtain ⟨i, hlt, rfl⟩ := List.getElem_of_mem hx
      exact (hSi i (by omega)).1

/-! ### What the tied tables of the package score give the walks. -/
/-- The tables' names, as the rows list them. -/
def tabName (i : Nat) : String := match Rows.foulWrongRow.laid[i + 1]? with
  | some x => x.1
  | none => ""
theorem var_heap {W : World} {n : String} {g : Nat} {cs : Array Value} (hg : Tryd.prog.globalNamed n = some g) (e : W.var? Tryd.prog n = some cs) : ∃ t fr, W.heap[g]? = some (.cells cs t fr) := by
  unfold World.var? at e
  rw [hg] at e
  simp only [Option.bind_some] at e
  split at e
  · rename_i cs t fr hh
    obtain rfl := Option.some.inj e
    exact ⟨t, fr, hh⟩
  · cases e
theorem arr_of {cs : Array Value} {l : List Value} (h : cs.toList = l) : cs = l.toArray := by rw [← h]

/-- An array of arrays of integers that reads as a table holds its numbers. -/
theorem cells_of_tab3 {H : Type} {enc : TypeId × Value → H} {P : Program} {w : World} {base : Nat} {sp : Nat → Bool} {held : Bool} {fuel : Nat} {t e i : TypeId} {m : Nat} {k : IntKind} {cs : List Value} {z0 z1 z2 : List Int} {p : List MemPlace}
    (ht : P.underlying t = some (.array 3 e)) (he : P.underlying e = some (.array m i)) (hi : P.underlying i = some (.int k)) (hci : P.cellsOf i = 1) (hce : P.cellsOf e = m) (hct : P.cellsOf t = 3 * m)
    (h : DataW.trod enc P w base sp held fuel t cs = some (.agg [Lib.tabData k z0, Lib.tabData k z1, Lib.tabData k z2], p)) : cs = (z0 ++ z1 ++ z2).map fun z => Value.int k z := by
  cases fuel with
  | zero => simp [DataW.trod] at h
  | succ fuel =>
    simp only [DataW.trod, ht, hce, hct] at h
    split at h
    · rename_i hl
      obtain ⟨xs, hm, hx⟩ := Option.map_eq_some_iff.1 h
      have hxs : xs.map (·.1) = [Lib.tabData k z0, Lib.tabData k z1, Lib.tabData k z2] := by
        have := congrArg Prod.fst hx
        simpa using this
      have key : ∀ j z, j < 3 → [Lib.tabData (H := H) k z0, Lib.tabData k z1, Lib.tabData k z2][j]? = some (Lib.tabData k z) → (cs.drop (j * m)).take m = z.map fun z => Value.int k z := by
        intro j z hj hz
        obtain ⟨b, hb, hf⟩ := Lib.mapM_at hm j j (by simp [hj])
        have h2 : (xs.map (·.1))[j]? = some b.1 := by simp [hb]
        rw [hxs, hz] at h2
        obtain ⟨b1, b2⟩ := b
        obtain rfl := Option.some.inj h2
        exact Lib.cells_of_tab he hi hci hce hf
      have e0 := key 0 z0 (by decide) rfl
      have e1 := key 1 z1 (by decide) rfl
      have e2 := key 2 z2 (by decide) rfl
      rw [List.map_append, List.map_append, ← e0, ← e1, ← e2]
      apply List.ext_getElem?
      intro q
      by_cases h0 : q < m
      · rw [List.append_assoc, List.getElem?_append_left (by simp; omega)]
        simp [h0]
      · by_cases h1 : q < 2 * m
        · rw [List.getElem?_append_left (by simp; omega), List.getElem?_append_right (by simp; omega)]
          simp only [List.getElem?_take, List.getElem?_drop, List.length_take, List.length_drop]
          rw [if_pos (by omega)]
          congr 1
          omega
        · by_cases h2 : q < 3 * m
          · rw [List.getElem?_append_right (by simp; omega)]
            simp only [List.getElem?_take, List.getElem?_drop, List.length_take, List.length_drop, List.length_append]
            rw [if_pos (by omega)]
            congr 1
            omega
          · rw [List.getElem?_eq_none (by omega), List.getElem?_eq_none (by simp; omega)]
    · cases h

theorem laidS_vars {W : World} {L : List (String × DataW Unit)} (hL : L = [(tabName 0, Lib.tabData .i64 [20, 20, 30, 30, 30]), (tabName 1, Lib.tabData .i64 [1, 2, 4]), (tabName 2, Lib.tabData .i64 [0, 50, 100]), (tabName 3, .agg [Lib.tabData .i64 [0, 0], Lib.tabData .i64 [100, 200], Lib.tabData .i64 [200, 400]])])
    {ps : List MemPlace} (h : DataW.LaidVars Tryd.prog W L ps) : LaidS W := by
  subst hL
  obtain ⟨g0, t0, c0, f0, p0, q0, hg0, ht0, hv0, hd0, h, -⟩ := h
  obtain ⟨g1, t1, c1, f1, p1, q1, hg1, ht1, hv1, hd1, h, -⟩ := h
  obtain ⟨g2, t2, c2, f2, p2, q2, hg2, ht2, hv2, hd2, h, -⟩ := h
  obtain ⟨g3, t3, c3, f3, p3, q3, hg3, ht3, hv3, hd3, -, -⟩ := h
  have n0 : Tryd.prog.globalNamed (tabName 0) = some 3 := by kernel_rfl
  have n1 : Tryd.prog.globalNamed (tabName 1) = some 4 := by kernel_rfl
  have n2 : Tryd.prog.globalNamed (tabName 2) = some 6 := by kernel_rfl
  have n3 : Tryd.prog.globalNamed (tabName 3) = some 5 := by kernel_rfl
  obtain rfl : 3 = g0 := Option.some.inj (n0.symm.trans hg0)
  obtain rfl : 4 = g1 := Option.some.inj (n1.symm.trans hg1)
  obtain rfl : 6 = g2 := Option.some.inj (n2.symm.trans hg2)
  obtain rfl : 5 = g3 := Option.some.inj (n3.symm.trans hg3)
  obtain rfl : 145 = t0 := Option.some.inj ((show (Tryd.prog.globals[3]?).map (·.type) = some 145 by kernel_rfl).symm.trans ht0)
  obtain rfl : 138 = t1 := Option.some.inj ((show (Tryd.prog.globals[4]?).map (·.type) = some 138 by kernel_rfl).symm.trans ht1)
  obtain rfl : 138 = t2 := Option.some.inj ((show (Tryd.prog.globals[6]?).map (·.type) = some 138 by kernel_rfl).symm.trans ht2)
  obtain rfl : 146 = t3 := Option.some.inj ((show (Tryd.prog.globals[5]?).map (·.type) = some 146 by kernel_rfl).symm.trans ht3)
  obtain rfl := arr_of (Lib.cells_of_tab Tryd.underlying145 Tryd.underlying3 (by kernel_rfl) (by kernel_rfl) hd0)
  obtain rfl := arr_of (Lib.cells_of_tab Tryd.underlying138 Tryd.underlying3 (by kernel_rfl) (by kernel_rfl) hd1)
  obtain rfl := arr_of (Lib.cells_of_tab Tryd.underlying138 Tryd.underlying3 (by kernel_rfl) (by kernel_rfl) hd2)
  obtain rfl := arr_of (cells_of_tab3 Tryd.underlying146 Tryd.underlying30 Tryd.underlying3 (by kernel_rfl) (by kernel_rfl) (by kernel_rfl) hd3)
  exact ⟨var_heap n0 hv0, var_heap n1 hv1, var_heap n3 hv3, var_heap n2 hv2⟩
def getsNameG : String := match Rows.foulWrongRow.laid with
  | x :: _ => x.1
  | [] => ""
theorem laidG_of {W : World} (h : laidMetH Tryd.prog Rows.foulWrongRow.laid W) : Laid W ∧ LaidS W := by
  rw [MakeChecks.laidMetH_plain _ _ _ (by kernel_rfl)] at h
  obtain ⟨ps, hv, -⟩ := h
  have hL : Rows.foulWrongRow.laid = (getsNameG, Lib.tabData .i64 [0, 1, 2]) :: [(tabName 0, Lib.tabData .i64 [20, 20, 30, 30, 30]), (tabName 1, Lib.tabData .i64 [1, 2, 4]), (tabName 2, Lib.tabData .i64 [0, 50, 100]), (tabName 3, .agg [Lib.tabData .i64 [0, 0], Lib.tabData .i64 [100, 200], Lib.tabData .i64 [200, 400]])] := rfl
  rw [hL] at hv
  obtain ⟨g0, t0, c0, f0, p0, q0, hg0, ht0, hv0, hd0, h, -⟩ := hv
  refine ⟨?_, laidS_vars rfl h⟩
  have n0 : Tryd.prog.globalNamed getsNameG = some 2 := by kernel_rfl
  obtain rfl : 2 = g0 := Option.some.inj (n0.symm.trans hg0)
  obtain rfl : 138 = t0 := Option.some.inj ((show (Tryd.prog.globals[2]?).map (·.type) = some 138 by kernel_rfl).symm.trans ht0)
  obtain rfl := arr_of (Lib.cells_of_tab Tryd.underlying138 Tryd.underlying3 (by kernel_rfl) (by kernel_rfl) hd0)
  exact var_heap n0 hv0

end Go.Proofs.YtchklobblkddhaaDoor
