/- An argument that is any entry. -/
import Derived.Test.YtgfnggdjjigomaaDoorOpenOuts
import Derived.Test.YtgfnggdjjigomaaDoorAdjMath
import Derived.Lib.SmallJoins
import Derived.Lib.LaidTab
namespace Go.Proofs.YtgfnggdjjigomaaDoor
open Go.ChangeShapes Go.WideShapes Go.RowKit Go.Deep

/-- The parts of an array. -/
theorem arr_parts {H : Type} {enc : TypeId × Value → H} {P : Program} {w : World} {base : Nat} {sp : Nat → Bool} {held : Bool} {fuel : Nat} {t e : TypeId} {n m : Nat} {cs : List Value} {x : DataW H × List MemPlace}
    (ht : P.underlying t = some (.array n e)) (hce : P.cellsOf e = m) (hct : P.cellsOf t = n * m)
    (h : DataW.trod enc P w base sp held fuel t cs = some x) : ∃ fu, ∀ d, d < n → ∃ b, DataW.trod enc P w base sp held fu e ((cs.drop (d * m)).take m) = some b := by
  cases fuel with
  | zero => simp [DataW.trod] at h
  | succ fuel =>
    simp only [DataW.trod, ht, hce, hct] at h
    split at h
    · obtain ⟨xs, hm, -⟩ := Option.map_eq_some_iff.1 h
      refine ⟨fuel, fun d hd => ?_⟩
      obtain ⟨b, hb, hf⟩ := Lib.mapM_at hm d d (by simp [hd])
      exact ⟨b, hf⟩
    · cases h

theorem open_raw {H : Type} {enc : TypeId × Value → H} {P : Program} {W : World} {t oc it : TypeId} {e0 e1 e2 e3 e4 e5 e6 e7 e8 f0 f1 f2 g0 g1 g2 g3 : Field} {v : Value} {d : DataW H} {ps : List MemPlace} {base : Nat}
    (hs : P.underlying t = some (.struct #[e0, e1, e2, e3, e4, e5, e6, e7, e8])) (hC : P.cellsOf t = 33)
    (hu4 : P.underlying e4.type = some (.int .u8)) (hu5 : P.underlying e5.type = some (.int .u8)) (hu7 : P.underlying e7.type = some (.array 4 oc)) (hu8 : P.underlying e8.type = some (.array 2 it)) (hit : P.underlying it = some (.int .i64))
    (n4 : P.cellsOf e4.type = 1) (n5 : P.cellsOf e5.type = 1) (n7 : P.cellsOf e7.type = 24) (n8 : P.cellsOf e8.type = 2) (nit : P.cellsOf it = 1) (noc : P.cellsOf oc = 6)
    (x4 : e4.offset = 4) (x5 : e5.offset = 5) (x7 : e7.offset = 7) (x8 : e8.offset = 31)
    (ht : P.underlying oc = some (.struct #[f0, f1, f2])) (hc : P.underlying f0.type = some (.struct #[g0, g1, g2, g3])) (h1 : P.underlying f1.type = some (.int .i64)) (h2 : P.underlying f2.type = some (.int .i64))
    (k0 : P.underlying g0.type = some (.int .u8)) (k1 : P.underlying g1.type = some (.int .u8)) (k2 : P.underlying g2.type = some (.int .u8)) (k3 : P.underlying g3.type = some (.int .u8))
    (c0 : P.cellsOf f0.type = 4) (c1 : P.cellsOf f1.type = 1) (c2 : P.cellsOf f2.type = 1) (d0 : P.cellsOf g0.type = 1) (d1 : P.cellsOf g1.type = 1) (d2 : P.cellsOf g2.type = 1) (d3 : P.cellsOf g3.type = 1)
    (o0 : f0.offset = 0) (o1 : f1.offset = 4) (o2 : f2.offset = 5) (p0 : g0.offset = 0) (p1 : g1.offset = 1) (p2 : g2.offset = 2) (p3 : g3.offset = 3)
    (hval : Value.okWide P W .any base t v) (h : DataW.Trod enc P W 0 (fun _ => true) true t v d ps) :
    ∃ (C : Array Value) (k f a0 a1 : Int) (o : Nat → Oc), v = .agg C ∧ EnC C k f o a0 a1 ∧ (∀ i, i < 4 → OcOk (o i)) ∧ (0 ≤ f ∧ f ≤ 255) ∧ (0 ≤ k ∧ k ≤ 255) := by
  obtain ⟨cs, rfl, hsz⟩ := okWide_struct hs hval
  rw [hC] at hsz
  obtain ⟨fuel, hf⟩ := h
  obtain ⟨xs, n, _, _, hl, hlen, hff⟩ := DataW.trod_struct hs hf
  obtain ⟨y0, y1, y2, y3, y4, y5, y6, y7, y8, rfl⟩ : ∃ y0 y1 y2 y3 y4 y5 y6 y7 y8, xs = [y0, y1, y2, y3, y4, y5, y6, y7, y8] := by
    match xs, hlen with
    | [a, b, c, d, e, f, g, h, i], _ => exact ⟨a, b, c, d, e, f, g, h, i, rfl⟩
  have q4 := hff 4 e4 rfl
  have q5 := hff 5 e5 rfl
  have q7 := hff 7 e7 rfl
  have q8 := hff 8 e8 rfl
  rw [x4] at q4
  rw [x5] at q5
  rw [x7, n7] at q7
  rw [x8, n8] at q8
  obtain ⟨kk, ek, wk⟩ := one_cell 4 hu4 n4 q4
  obtain ⟨fv, ef, wf⟩ := one_cell 5 hu5 n5 q5
  obtain ⟨fu8, hp8⟩ := arr_parts hu8 nit (by rw [n8]) q8
  obtain ⟨fu7, hp7⟩ := arr_parts hu7 noc (by rw [n7]) q7
  have hcell : ∀ j, (Value.agg cs).cells.toList[j]? = cs[j]? := fun j => Array.getElem?_toList
  obtain ⟨z0, hz0⟩ := hp8 0 (by decide)
  obtain ⟨z1, hz1⟩ := hp8 1 (by decide)
  obtain ⟨a0, ea0, -⟩ := one_cell (cs := ((Value.agg cs).cells.toList.drop 31).take 2) 0 hit nit (by rw [nit]; exact hz0)
  obtain ⟨a1, ea1, -⟩ := one_cell (cs := ((Value.agg cs).cells.toList.drop 31).take 2) 1 hit nit (by rw [nit]; exact hz1)
  have each : ∀ i, i < 4 → ∃ x : Oc, OcOk x ∧ cs[7 + i * 6]? = some (.int .u8 x.l) ∧ cs[7 + i * 6 + 1]? = some (.int .u8 x.d) ∧ cs[7 + i * 6 + 2]? = some (.int .u8 x.r) ∧ cs[7 + i * 6 + 3]? = some (.int .u8 x.s) ∧ cs[7 + i * 6 + 4]? = some (.int .i64 x.t) ∧ cs[7 + i * 6 + 5]? = some (.int .i64 x.w) := fun i hi => by
    obtain ⟨b, hb⟩ := hp7 i hi
    obtain ⟨x, hx, r0, r1, r2, r3, r4, r5⟩ := open_oc ht hc h1 h2 k0 k1 k2 k3 c0 c1 c2 d0 d1 d2 d3 o0 o1 o2 p0 p1 p2 p3 hb
    have conv : ∀ j, j < 6 → (((((Value.agg cs).cells.toList.drop 7).take 24).drop (i * 6)).take 6)[j]? = cs[7 + i * 6 + j]? := fun j hj => by
      rw [List.getElem?_take, if_pos hj, List.getElem?_drop, List.getElem?_take, if_pos (by omega), List.getElem?_drop, hcell, Nat.add_assoc]
    exact ⟨x, hx, (conv 0 (by omega)).symm.trans r0, (conv 1 (by omega)).symm.trans r1, (conv 2 (by omega)).symm.trans r2, (conv 3 (by omega)).symm.trans r3, (conv 4 (by omega)).symm.trans r4, (conv 5 (by omega)).symm.trans r5⟩
  let o : Nat → Oc := fun i => if h : i < 4 then Classical.choose (each i h) else ⟨0, 0, 0, 0, 0, 0⟩
  have ho : ∀ i (h : i < 4), o i = Classical.choose (each i h) := fun i h => dif_pos h
  refine ⟨cs, kk, fv, a0, a1, o, rfl, ⟨hsz, by rw [← hcell]; exact ek, by rw [← hcell]; exact ef, ?_, ?_, fun i hi => ?_⟩, fun i hi => ?_, bounds_u8 wf, bounds_u8 wk⟩
  · rw [← hcell]; simpa [List.getElem?_take, List.getElem?_drop] using ea0
  · rw [← hcell]; simpa [List.getElem?_take, List.getElem?_drop] using ea1
  · rw [ho i hi]; exact (Classical.choose_spec (each i hi)).2
  · rw [ho i hi]; exact (Classical.choose_spec (each i hi)).1

end Go.Proofs.YtgfnggdjjigomaaDoor
