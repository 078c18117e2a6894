/- An argument that is an entry in small numbers: three bytes, and three arrays of bytes. -/
import Derived.Test.YtgfnggdjjigomaaDoorAdjMadeW
import Derived.Test.YtgfnggdjjigomaaDoorOpen
import Derived.Lib.SmallJoins
import Derived.Lib.LaidTab
namespace Go.Proofs.YtgfnggdjjigomaaDoor
open Go.ChangeShapes Go.WideShapes Go.RowKit Go.Deep

/-- The cells of an array of integers. -/
theorem arr_cells {H : Type} {enc : TypeId × Value → H} {P : Program} {w : World} {base : Nat} {sp : Nat → Bool} {held : Bool} {fuel : Nat} {t e : TypeId} {n : Nat} {k : IntKind} {cs : List Value} {x : DataW H × List MemPlace}
    (ht : P.underlying t = some (.array n e)) (he : P.underlying e = some (.int k)) (hce : P.cellsOf e = 1) (hct : P.cellsOf t = n)
    (h : DataW.trod enc P w base sp held fuel t cs = some x) : ∀ i, i < n → ∃ z, cs[i]? = some (.int k z) ∧ (Lit.int k z).wf = true := by
  cases fuel with
  | zero => simp [DataW.trod] at h
  | succ fuel =>
    simp only [DataW.trod, ht, hce, hct, Nat.mul_one] at h
    split at h
    · obtain ⟨xs, hm, -⟩ := Option.map_eq_some_iff.1 h
      intro i hi
      obtain ⟨b, hb, hf⟩ := Lib.mapM_at hm i i (by simp [hi])
      obtain ⟨z, hc, -, hw⟩ := DataW.trod_int he hf
      refine ⟨z, ?_, hw⟩
      have := congrArg (·[0]?) hc
      simpa [List.getElem?_take, List.getElem?_drop] using this
    · cases h

theorem open_entry {H : Type} {enc : TypeId × Value → H} {P : Program} {W : World} {t : TypeId} {f0 f1 f2 f3 f4 f5 : Field} {v : Value} {d : DataW H} {ps : List MemPlace} {base : Nat} {e4 : TypeId}
    (hs : P.underlying t = some (.struct #[f0, f1, f2, f3, f4, f5])) (hC : P.cellsOf t = 14)
    (h0 : P.underlying f0.type = some (.int .u8)) (h1 : P.underlying f1.type = some (.int .u8)) (h2 : P.underlying f2.type = some (.int .u8))
    (h3 : P.underlying f3.type = some (.array 4 e4)) (h4 : P.underlying f4.type = some (.array 4 e4)) (h5 : P.underlying f5.type = some (.array 3 e4)) (he : P.underlying e4 = some (.int .u8)) (hce : P.cellsOf e4 = 1)
    (c0 : P.cellsOf f0.type = 1) (c1 : P.cellsOf f1.type = 1) (c2 : P.cellsOf f2.type = 1) (c3 : P.cellsOf f3.type = 4) (c4 : P.cellsOf f4.type = 4) (c5 : P.cellsOf f5.type = 3)
    (o0 : f0.offset = 0) (o1 : f1.offset = 1) (o2 : f2.offset = 2) (o3 : f3.offset = 3) (o4 : f4.offset = 7) (o5 : f5.offset = 11)
    (hval : Value.okWide P W .any base t v) (h : DataW.Trod enc P W 0 (fun _ => true) true t v d ps) : ∃ x : SmE, v = .agg (smA x) ∧ x.Ok := by
  obtain ⟨cs, rfl, hsz⟩ := okWide_struct hs hval
  rw [hC] at hsz
  obtain ⟨fuel, hf⟩ := h
  obtain ⟨xs, n, _, _, hl, hlen, hff⟩ := DataW.trod_struct hs hf
  obtain ⟨y0, y1, y2, y3, y4, y5, rfl⟩ : ∃ y0 y1 y2 y3 y4 y5, xs = [y0, y1, y2, y3, y4, y5] := by
    match xs, hlen with
    | [a, b, c, d, e, f], _ => exact ⟨a, b, c, d, e, f, rfl⟩
  have one : ∀ (j : Nat) (ty : TypeId) (y : DataW H × List MemPlace), P.underlying ty = some (.int .u8) → P.cellsOf ty = 1 → DataW.trod enc P W 0 (fun _ => true) true n ty (((Value.agg cs).cells.toList.drop j).take (P.cellsOf ty)) = some y → ∃ z, cs[j]? = some (.int .u8 z) ∧ (Lit.int .u8 z).wf = true := by
    intro j ty y hu hc ht
    obtain ⟨z, hz, -, hw⟩ := DataW.trod_int hu ht
    refine ⟨z, ?_, hw⟩
    rw [hc] at hz
    have := congrArg (·[0]?) hz
    simpa [List.getElem?_take, List.getElem?_drop, Value.cells] using this
  have many : ∀ (j m : Nat) (ty : TypeId) (y : DataW H × List MemPlace), P.underlying ty = some (.array m e4) → P.cellsOf ty = m → DataW.trod enc P W 0 (fun _ => true) true n ty (((Value.agg cs).cells.toList.drop j).take (P.cellsOf ty)) = some y → ∀ i, i < m → ∃ z, cs[j + i]? = some (.int .u8 z) ∧ (Lit.int .u8 z).wf = true := by
    intro j m ty y hu hc ht i hi
    obtain ⟨z, hz, hw⟩ := arr_cells hu he hce hc ht i hi
    refine ⟨z, ?_, hw⟩
    rw [hc, List.getElem?_take, if_pos hi, List.getElem?_drop] at hz
    simpa [Value.cells] using hz
  obtain ⟨z0, e0, w0⟩ := one 0 f0.type y0 h0 c0 (by have := hff 0 f0 rfl; rw [o0] at this; exact this)
  obtain ⟨z1, e1, w1⟩ := one 1 f1.type y1 h1 c1 (by have := hff 1 f1 rfl; rw [o1] at this; exact this)
  obtain ⟨z2, e2, w2⟩ := one 2 f2.type y2 h2 c2 (by have := hff 2 f2 rfl; rw [o2] at this; exact this)
  have ab := many 3 4 f3.type y3 h3 c3 (by have := hff 3 f3 rfl; rw [o3] at this; exact this)
  have at9 := many 7 4 f4.type y4 h4 c4 (by have := hff 4 f4 rfl; rw [o4] at this; exact this)
  have av := many 11 3 f5.type y5 h5 c5 (by have := hff 5 f5 rfl; rw [o5] at this; exact this)
  obtain ⟨b0, eb0, wb0⟩ := ab 0 (by decide)
  obtain ⟨b1, eb1, wb1⟩ := ab 1 (by decide)
  obtain ⟨b2, eb2, wb2⟩ := ab 2 (by decide)
  obtain ⟨b3, eb3, wb3⟩ := ab 3 (by decide)
  obtain ⟨t0, et0, wt0⟩ := at9 0 (by decide)
  obtain ⟨t1, et1, wt1⟩ := at9 1 (by decide)
  obtain ⟨t2, et2, wt2⟩ := at9 2 (by decide)
  obtain ⟨t3, et3, wt3⟩ := at9 3 (by decide)
  obtain ⟨v0, ev0, wv0⟩ := av 0 (by decide)
  obtain ⟨v1, ev1, wv1⟩ := av 1 (by decide)
  obtain ⟨v2, ev2, wv2⟩ := av 2 (by decide)
  refine ⟨⟨z0, z1, z2, fun i => if i = 0 then b0 else if i = 1 then b1 else if i = 2 then b2 else b3, fun i => if i = 0 then t0 else if i = 1 then t1 else if i = 2 then t2 else t3, fun i => if i = 0 then v0 else if i = 1 then v1 else v2⟩, ?_, ?_⟩
  · congr 1
    apply Array.ext_getElem?
    intro j
    by_cases hj : j < 14
    · have hjj : j = 0 ∨ j = 1 ∨ j = 2 ∨ j = 3 ∨ j = 4 ∨ j = 5 ∨ j = 6 ∨ j = 7 ∨ j = 8 ∨ j = 9 ∨ j = 10 ∨ j = 11 ∨ j = 12 ∨ j = 13 := by omega
      rcases hjj with rfl | rfl | rfl | rfl | rfl | rfl | rfl | rfl | rfl | rfl | rfl | rfl | rfl | rfl
      · exact e0
      · exact e1
      · exact e2
      · exact eb0
      · exact eb1
      · exact eb2
      · exact eb3
      · exact et0
      · exact et1
      · exact et2
      · exact et3
      · exact ev0
      · exact ev1
      · exact ev2
    · rw [Array.getElem?_eq_none (by omega), Array.getElem?_eq_none (by simp [smA]; omega)]
  · refine ⟨bounds_u8 w0, bounds_u8 w1, bounds_u8 w2, fun i => ?_, fun i => ?_, fun i => ?_⟩
    · dsimp only
      (repeat' split)
      · exact bounds_u8 wb0
      · exact bounds_u8 wb1
      · exact bounds_u8 wb2
      · exact bounds_u8 wb3
    · dsimp only
      (repeat' split)
      · exact bounds_u8 wt0
      · exact bounds_u8 wt1
      · exact bounds_u8 wt2
      · exact bounds_u8 wt3
    · dsimp only
      (repeat' split)
      · exact bounds_u8 wv0
      · exact bounds_u8 wv1
      · exact bounds_u8 wv2

end Go.Proofs.YtgfnggdjjigomaaDoor
