/- Arguments that are structs of a signed and an unsigned integer and a slice of integers, and slices of them. No program stands in this text. -/
import Derived.Test.YtlobdeakgoicpaaDoorOpenRows
import Derived.Lib.SmallJoins
namespace Go.Proofs.YtlobdeakgoicpaaDoor
open Go.ChangeShapes Go.WideShapes Go.RowKit Go.Deep

theorem open_int_cs {H : Type} {enc : TypeId × Value → H} {P : Program} {W : World} {t e : TypeId} {k : IntKind} {fuel : Nat} {cs : List Value} {x : DataW H × List MemPlace}
    (ht : P.underlying t = some (.slice e)) (he : P.underlying e = some (.int k)) (hc : P.cellsOf e = 1) (hf : DataW.trod enc P W 0 (fun _ => true) true fuel t cs = some x) :
    ∃ (A : Option Addr) (c : Nat) (u : List Int), cs = [.slice A u.length c] ∧ Rd W W.heap.size 1 A u.length (u.map (Value.int k)) ∧ (∀ x ∈ u, (Lit.int k x).wf = true) ∧ u.length ≤ c ∧ c ≤ 9223372036854775807 ∧ (A = none → c = 0) := by
  rcases open_ints ht he hc hf with ⟨hcs, _⟩ | ⟨a, len, cap, zs, hcs, _, hl, hm, hz, _, hcell, hwf⟩
  · subst hcs
    exact ⟨none, 0, [], rfl, Rd.nil_, by simp, by simp, by omega, fun _ => rfl⟩
  · subst hcs
    rw [if_pos rfl] at hz
    have hul : (zs.take len).length = len := by rw [List.length_take]; omega
    refine ⟨some a, cap, zs.take len, by rw [hul], ?_, fun x hx => hwf x (List.mem_of_mem_take hx), by rw [hul]; exact hl, by unfold maxLen at hm; omega, fun h => by cases h⟩
    rw [hul]
    refine ⟨by rw [List.length_map, hul]; omega, fun hn => ?_⟩
    obtain ⟨b, off, rfl, hat⟩ := ints_at hcell (by omega)
    refine ⟨b, off, rfl, cell_lt (hat 0 (by omega)), fun j hj => ?_⟩
    have hj' : j < len := by rw [List.length_map, hul] at hj; exact hj
    rw [hat j (by omega), List.getElem?_map, List.getElem?_take, if_pos hj']
    simp [List.getD, List.getElem?_eq_getElem (show j < zs.length by omega)]

theorem open_small {H : Type} {enc : TypeId × Value → H} {P : Program} {W : World} {t e : TypeId} {k0 k1 k2 : IntKind} {f0 f1 f2 : Field} {v : Value} {d : DataW H} {ps : List MemPlace} {base : Nat}
    (ht : P.underlying t = some (.struct #[f0, f1, f2])) (hone : oneCellFields P #[f0, f1, f2] = true) (hC : P.cellsOf t = 3)
    (h0 : P.underlying f0.type = some (.int k0)) (h1 : P.underlying f1.type = some (.int k1)) (h2 : P.underlying f2.type = some (.slice e)) (he : P.underlying e = some (.int k2)) (hc : P.cellsOf e = 1)
    (hval : Value.okWide P W .any base t v) (h : DataW.Trod enc P W 0 (fun _ => true) true t v d ps) :
    ∃ (x y : Int) (A : Option Addr) (c : Nat) (u : List Int), v = .agg #[.int k0 x, .int k1 y, .slice A u.length c] ∧ (Lit.int k0 x).wf = true ∧ (Lit.int k1 y).wf = true ∧ Rd W W.heap.size 1 A u.length (u.map (Value.int k2)) ∧ (∀ z ∈ u, (Lit.int k2 z).wf = true) ∧ u.length ≤ c ∧ c ≤ 9223372036854775807 := by
  obtain ⟨v0, v1, v2, y0, y1, y2, n, rfl, _, _, g0, g1, g2⟩ := Joins.open_agg3 ht hone hC hval h
  obtain ⟨x, e0, _, wx⟩ := DataW.trod_int h0 g0
  obtain ⟨y, e1, _, wy⟩ := DataW.trod_int h1 g1
  obtain ⟨A, c, u, e2, r1, r2, r3, r4, _⟩ := open_int_cs h2 he hc g2
  simp at e0 e1 e2
  subst e0 e1 e2
  exact ⟨x, y, A, c, u, rfl, wx, wy, r1, r2, r3, r4⟩

theorem open_smalls {H : Type} {enc : TypeId × Value → H} {P : Program} {W : World} {t0 t e : TypeId} {k0 k1 k2 : IntKind} {f0 f1 f2 : Field} {v : Value} {d : DataW H} {ps : List MemPlace} {base : Nat}
    (ht0 : P.underlying t0 = some (.slice t)) (ht : P.underlying t = some (.struct #[f0, f1, f2])) (hone : oneCellFields P #[f0, f1, f2] = true) (hC : P.cellsOf t = 3)
    (h0 : P.underlying f0.type = some (.int k0)) (h1 : P.underlying f1.type = some (.int k1)) (h2 : P.underlying f2.type = some (.slice e)) (he : P.underlying e = some (.int k2)) (hc : P.cellsOf e = 1)
    (hval : Value.okWide P W .any base t0 v) (h : DataW.Trod enc P W 0 (fun _ => true) true t0 v d ps) :
    ∃ (A : Option Addr) (c : Nat) (S : List (Int × Int × List Int)), v = .slice A S.length c ∧ S.length ≤ c ∧ c ≤ 9223372036854775807 ∧
      (∀ i (hi : i < S.length), ∃ b off Ai ci, A = some ⟨b, off, none⟩ ∧ b < W.heap.size ∧ W.cell? ⟨b, off + i * 3, none⟩ = some (.int k0 S[i].1) ∧ W.cell? ⟨b, off + i * 3 + 1, none⟩ = some (.int k1 S[i].2.1) ∧
        W.cell? ⟨b, off + i * 3 + 2, none⟩ = some (.slice Ai (S[i].2.2).length ci) ∧ (S[i].2.2).length ≤ ci ∧ Rd W W.heap.size 1 Ai (S[i].2.2).length ((S[i].2.2).map (Value.int k2))) ∧
      (∀ s ∈ S, (Lit.int k0 s.1).wf = true ∧ (Lit.int k1 s.2.1).wf = true ∧ (∀ z ∈ s.2.2, (Lit.int k2 z).wf = true) ∧ s.2.2.length ≤ 9223372036854775807) := by
  obtain ⟨a0, len, cap, rfl⟩ := okWide_slice ht0 hval
  obtain ⟨fuel, hf⟩ := h
  rcases open_slice ht0 hf with ⟨hcs, _⟩ | ⟨a, len', cap', m, n, D, Pl, hcs, _, hl, hm, hmm, _, hx⟩
  · simp [Value.cells] at hcs
    obtain ⟨rfl, rfl, rfl⟩ := hcs
    exact ⟨none, 0, [], rfl, by simp, by omega, fun i hi => by simp at hi, by simp⟩
  · simp [Value.cells] at hcs
    obtain ⟨rfl, rfl, rfl⟩ := hcs
    rw [if_pos rfl] at hmm
    have each : ∀ i, i < len → ∃ (x y : Int) (Ai : Option Addr) (ci : Nat) (u : List Int), W.cell? (a.add (i * 3)) = some (.int k0 x) ∧ W.cell? ((a.add (i * 3)).add 1) = some (.int k1 y) ∧ W.cell? ((a.add (i * 3)).add 2) = some (.slice Ai u.length ci) ∧ u.length ≤ ci ∧
        Rd W W.heap.size 1 Ai u.length (u.map (Value.int k2)) ∧ (Lit.int k0 x).wf = true ∧ (Lit.int k1 y).wf = true ∧ (∀ z ∈ u, (Lit.int k2 z).wf = true) ∧ u.length ≤ 9223372036854775807 := by
      intro i hi
      obtain ⟨cs', hcc, htr⟩ := hx i (by omega)
      rw [hC] at hcc
      obtain ⟨_, hcl, hat⟩ := World.cells?_some hcc
      obtain ⟨ys, n', _, _, hlen2, hyl, hg⟩ := DataW.trod_struct ht htr
      obtain ⟨o0, q0⟩ := hone_of hone 0 f0 rfl
      obtain ⟨o1, q1⟩ := hone_of hone 1 f1 rfl
      obtain ⟨o2, q2⟩ := hone_of hone 2 f2 rfl
      match cs', hcl with
      | [c0, c1, c2], _ =>
        have g0 := hg 0 f0 rfl
        have g1 := hg 1 f1 rfl
        have g2 := hg 2 f2 rfl
        rw [o0, q0] at g0
        rw [o1, q1] at g1
        rw [o2, q2] at g2
        have y0 : ys[0]? = some (ys[0]'(by rw [hyl]; simp)) := List.getElem?_eq_getElem _
        have y1 : ys[1]? = some (ys[1]'(by rw [hyl]; simp)) := List.getElem?_eq_getElem _
        have y2 : ys[2]? = some (ys[2]'(by rw [hyl]; simp)) := List.getElem?_eq_getElem _
        obtain ⟨x, e0, _, wx⟩ := DataW.trod_int h0 (g0.trans y0)
        obtain ⟨y, e1, _, wy⟩ := DataW.trod_int h1 (g1.trans y1)
        obtain ⟨Ai, ci, u, e2, r1, r2, r3, r4, _⟩ := open_int_cs h2 he hc (g2.trans y2)
        simp at e0 e1 e2
        subst e0 e1 e2
        have p0 := hat 0 (by omega)
        have p1 := hat 1 (by omega)
        have p2 := hat 2 (by omega)
        exact ⟨x, y, Ai, ci, u, by simpa [Addr.add] using p0, by simpa using p1, by simpa using p2, r3, r1, wx, wy, r2, by omega⟩
    let F := fun (i : Fin len) => ((Classical.choose (each i.1 i.2), Classical.choose (Classical.choose_spec (each i.1 i.2)), Classical.choose (Classical.choose_spec (Classical.choose_spec (Classical.choose_spec (Classical.choose_spec (each i.1 i.2)))))) : Int × Int × List Int)
    let S : List (Int × Int × List Int) := List.ofFn F
    have hS : S.length = len := by simp [S]
    have hSi : ∀ i (hlt : i < len), ∃ (Ai : Option Addr) (ci : Nat), W.cell? (a.add (i * 3)) = some (.int k0 (S[i]'(by omega)).1) ∧ W.cell? ((a.add (i * 3)).add 1) = some (.int k1 (S[i]'(by omega)).2.1) ∧ W.cell? ((a.add (i * 3)).add 2) = some (.slice Ai ((S[i]'(by omega)).2.2).length ci) ∧ ((S[i]'(by omega)).2.2).length ≤ ci ∧
        Rd W W.heap.size 1 Ai ((S[i]'(by omega)).2.2).length (((S[i]'(by omega)).2.2).map (Value.int k2)) ∧ (Lit.int k0 (S[i]'(by omega)).1).wf = true ∧ (Lit.int k1 (S[i]'(by omega)).2.1).wf = true ∧ (∀ z ∈ ((S[i]'(by omega)).2.2), (Lit.int k2 z).wf = true) ∧ ((S[i]'(by omega)).2.2).length ≤ 9223372036854775807 := by
      intro i hlt
      have := Classical.choose_spec (Classical.choose_spec (Classical.choose_spec (Classical.choose_spec (Classical.choose_spec (each i hlt)))))
      exact ⟨_, _, by simpa [S, F] using this⟩
    refine ⟨some a, cap, S, by rw [hS], by omega, by unfold maxLen at hm; omega, fun i hi => ?_, fun s hs => ?_⟩
    · obtain ⟨Ai, ci, g0, g1, g2, g3, g4, _⟩ := hSi i (by omega)
      obtain ⟨b, off, spot⟩ := a
      have hspot : spot = none := by
        obtain ⟨A0, c0, f1, _⟩ := hSi 0 (by omega)
        simpa [Addr.add] using World.cell?_spot f1
      subst hspot
      rw [addr_add] at g0
      rw [addr_add, addr_add] at g1
      rw [addr_add, addr_add] at g2
      exact ⟨b, off, Ai, ci, rfl, cell_lt g0, g0, g1, g2, g3, g4⟩
    · obtain ⟨i, hi, rfl⟩ := List.getElem_of_mem hs
      obtain ⟨_, _, _, _, _, _, _, w0, w1, w2, w3⟩ := hSi i (by omega)
      exact ⟨w0, w1, w2, w3⟩

end Go.Proofs.YtlobdeakgoicpaaDoor
