/- Arguments that are slices of slices of structs of two integers. No program stands in this text. -/
import Derived.Test.YtlobdeakgoicpaaDoorOpenPairs
import Derived.Deep.Matrix
namespace Go.Proofs.YtlobdeakgoicpaaDoor
open Go.ChangeShapes Go.WideShapes Go.RowKit Go.Deep

theorem open_pairs_cs {H : Type} {enc : TypeId × Value → H} {P : Program} {W : World} {t e : TypeId} {k : IntKind} {f0 f1 : Field} {fuel : Nat} {cs : List Value} {x : DataW H × List MemPlace}
    (ht : P.underlying t = some (.slice e)) (he : P.underlying e = some (.struct #[f0, f1])) (hone : oneCellFields P #[f0, f1] = true) (hC : P.cellsOf e = 2)
    (h0 : P.underlying f0.type = some (.int k)) (h1 : P.underlying f1.type = some (.int k))
    (hf : DataW.trod enc P W 0 (fun _ => true) true fuel t cs = some x) :
    ∃ (A : Option Addr) (c : Nat) (L : List (Int × Int)), cs = [.slice A L.length c] ∧ Rd W W.heap.size 2 A L.length (L.flatMap fun b => [Value.int k b.1, Value.int k b.2]) ∧ (A = none → c = 0) ∧
      (∀ b ∈ L, (Lit.int k b.1).wf = true ∧ (Lit.int k b.2).wf = true) ∧ L.length ≤ c ∧ c ≤ 9223372036854775807 := by
  rcases open_slice ht hf with ⟨hcs, _⟩ | ⟨a, len, cap, m, n, D, Pl, hcs, _, hl, hm, hmm, _, hi⟩
  · subst hcs
    exact ⟨none, 0, [], rfl, Rd.nil_, fun _ => rfl, by simp, by simp, by omega⟩
  · subst hcs
    rw [if_pos rfl] at hmm
    have each : ∀ i, i < len → ∃ x y : Int, W.cell? (a.add (i * 2)) = some (.int k x) ∧ W.cell? ((a.add (i * 2)).add 1) = some (.int k y) ∧ (Lit.int k x).wf = true ∧ (Lit.int k y).wf = true := by
      intro i hlt
      obtain ⟨cs', hc, ht'⟩ := hi i (by omega)
      rw [hC] at hc
      obtain ⟨_, hcl, hat⟩ := World.cells?_some hc
      obtain ⟨ys, n', _, _, hlen2, hyl, hg⟩ := DataW.trod_struct he ht'
      obtain ⟨o0, k0⟩ := hone_of hone 0 f0 rfl
      obtain ⟨o1, k1⟩ := hone_of hone 1 f1 rfl
      match cs', hcl with
      | [c0, c1], _ =>
        have g0 := hg 0 f0 rfl
        have g1 := hg 1 f1 rfl
        rw [o0, k0] at g0
        rw [o1, k1] at g1
        have y0 : ys[0]? = some (ys[0]'(by rw [hyl]; simp)) := List.getElem?_eq_getElem _
        have y1 : ys[1]? = some (ys[1]'(by rw [hyl]; simp)) := List.getElem?_eq_getElem _
        obtain ⟨x, e0, _, wx⟩ := DataW.trod_int h0 (g0.trans y0)
        obtain ⟨y, e1, _, wy⟩ := DataW.trod_int h1 (g1.trans y1)
        simp at e0 e1
        subst e0 e1
        have q0 := hat 0 (by omega)
        have q1 := hat 1 (by omega)
        exact ⟨x, y, by simpa [Addr.add] using q0, by simpa using q1, wx, wy⟩
    let L : List (Int × Int) := List.ofFn (n := len) fun i => (Classical.choose (each i.1 i.2), Classical.choose (Classical.choose_spec (each i.1 i.2)))
    have hL : L.length = len := by simp [L]
    have hLi : ∀ i (hlt : i < len), W.cell? (a.add (i * 2)) = some (.int k (L[i]'(by omega)).1) ∧ W.cell? ((a.add (i * 2)).add 1) = some (.int k (L[i]'(by omega)).2) ∧ (Lit.int k (L[i]'(by omega)).1).wf = true ∧ (Lit.int k (L[i]'(by omega)).2).wf = true := by
      intro i hlt
      have := Classical.choose_spec (Classical.choose_spec (each i hlt))
      simpa [L] using this
    refine ⟨some a, cap, L, by rw [hL], ?_, fun h => (by cases h), ?_, by omega, by unfold maxLen at hm; omega⟩
    · refine ⟨by rw [flat2_len], fun hn => ?_⟩
      obtain ⟨b, off, spot⟩ := a
      have hspot : spot = none := by
        have := (hLi 0 (by omega)).1
        simpa [Addr.add] using World.cell?_spot this
      subst hspot
      have hlt : b < W.heap.size := cell_lt (o := off) (by simpa [Addr.add] using (hLi 0 (by omega)).1)
      refine ⟨b, off, rfl, hlt, fun j hj => ?_⟩
      rw [flat2_len] at hj
      have hdiv : j / 2 < len := by omega
      obtain ⟨q0, q1, _, _⟩ := hLi (j / 2) hdiv
      obtain ⟨r0, r1⟩ := flat2_get k L (j / 2) (by omega)
      by_cases hpar : j % 2 = 0
      · rw [show j = j / 2 * 2 by omega, r0, ← q0, addr_add]
      · rw [show j = j / 2 * 2 + 1 by omega, r1, ← q1, addr_add, addr_add, Nat.add_assoc]
    · intro x hx
      obtain ⟨i, hlt, rfl⟩ := List.getElem_of_mem hx
      obtain ⟨_, _, w0, w1⟩ := hLi i (by omega)
      exact ⟨w0, w1⟩

theorem open_results {H : Type} {enc : TypeId × Value → H} {P : Program} {W : World} {t q e : TypeId} {k : IntKind} {f0 f1 : Field} {v : Value} {d : DataW H} {ps : List MemPlace} {base : Nat}
    (ht : P.underlying t = some (.slice q)) (cq : P.cellsOf q = 1) (hq : P.underlying q = some (.slice e)) (he : P.underlying e = some (.struct #[f0, f1])) (hone : oneCellFields P #[f0, f1] = true) (hC : P.cellsOf e = 2)
    (h0 : P.underlying f0.type = some (.int k)) (h1 : P.underlying f1.type = some (.int k)) (hval : Value.okWide P W .any base t v) (h : DataW.Trod enc P W 0 (fun _ => true) true t v d ps) :
    ∃ (A : Option Addr) (c : Nat) (L : List (List (Int × Int))), v = .slice A L.length c ∧ L.length ≤ c ∧ c ≤ 9223372036854775807 ∧ (A = none → c = 0) ∧
      (∀ k' (h : k' < L.length), ∃ b off Ak ck, A = some ⟨b, off, none⟩ ∧ b < W.heap.size ∧ W.cell? ⟨b, off + k', none⟩ = some (.slice Ak (L[k']).length ck) ∧ (Ak = none → ck = 0) ∧ Rd W W.heap.size 2 Ak (L[k']).length ((L[k']).flatMap fun b => [Value.int k b.1, Value.int k b.2])) ∧
      (∀ l ∈ L, l.length ≤ 9223372036854775807 ∧ ∀ b ∈ l, (Lit.int k b.1).wf = true ∧ (Lit.int k b.2).wf = true) := by
  obtain ⟨a0, len, cap, rfl⟩ := okWide_slice ht hval
  obtain ⟨fuel, hf⟩ := h
  rcases open_slice1 ht cq hf with ⟨hcs, _⟩ | ⟨a, len1, cap1, m, n, V, D, Pl, hcs, _, hl, hm, hmm, _, hx⟩
  · simp [Value.cells] at hcs
    obtain ⟨rfl, rfl, rfl⟩ := hcs
    exact ⟨none, 0, [], rfl, by simp, by omega, fun _ => rfl, fun k' h => by simp at h, by simp⟩
  · simp [Value.cells] at hcs
    obtain ⟨rfl, rfl, rfl⟩ := hcs
    rw [if_pos rfl] at hmm
    have each : ∀ i, i < len → ∃ (A : Option Addr) (c : Nat) (l : List (Int × Int)), W.cell? (a.add i) = some (.slice A l.length c) ∧ Rd W W.heap.size 2 A l.length (l.flatMap fun b => [Value.int k b.1, Value.int k b.2]) ∧ (A = none → c = 0) ∧ (l.length ≤ 9223372036854775807 ∧ ∀ b ∈ l, (Lit.int k b.1).wf = true ∧ (Lit.int k b.2).wf = true) := by
      intro i hi
      obtain ⟨g1, g2⟩ := hx i (by omega)
      obtain ⟨A, c, l, e1, e2, e3, e4, e5, e6⟩ := open_pairs_cs hq he hone hC h0 h1 g2
      obtain e1 : V i = .slice A l.length c := by simpa using e1
      exact ⟨A, c, l, by rw [g1, e1], e2, e3, by omega, e4⟩
    let L : List (List (Int × Int)) := List.ofFn (n := len) fun i => Classical.choose (Classical.choose_spec (Classical.choose_spec (each i.1 i.2)))
    have hL : L.length = len := by simp [L]
    have hLi : ∀ i (hlt : i < len), ∃ (A : Option Addr) (c : Nat), W.cell? (a.add i) = some (.slice A (L[i]'(by omega)).length c) ∧ Rd W W.heap.size 2 A (L[i]'(by omega)).length ((L[i]'(by omega)).flatMap fun b => [Value.int k b.1, Value.int k b.2]) ∧ (A = none → c = 0) ∧ ((L[i]'(by omega)).length ≤ 9223372036854775807 ∧ ∀ b ∈ (L[i]'(by omega)), (Lit.int k b.1).wf = true ∧ (Lit.int k b.2).wf = true) := by
      intro i hlt
      have := Classical.choose_spec (Classical.choose_spec (Classical.choose_spec (each i hlt)))
      exact ⟨_, _, by simpa [L] using this⟩
    refine ⟨some a, cap, L, by rw [hL], by omega, by unfold maxLen at hm; omega, fun h => (by cases h), fun k' hk' => ?_, fun l hl' => ?_⟩
    · obtain ⟨A, c, g1, g2, g3, _⟩ := hLi k' (by omega)
      obtain ⟨b, off, spot⟩ := a
      have hspot : spot = none := by
        have := g1
        rw [show (⟨b, off, spot⟩ : Addr).add k' = (⟨b, off, spot⟩ : Addr).add k' from rfl] at this
        obtain ⟨A0, c0, f1, _⟩ := hLi 0 (by omega)
        simpa [Addr.add] using World.cell?_spot f1
      subst hspot
      rw [addr_add] at g1
      exact ⟨b, off, A, c, rfl, cell_lt g1, g1, g3, g2⟩
    · obtain ⟨i, hi, rfl⟩ := List.getElem_of_mem hl'
      obtain ⟨_, _, _, _, _, g4⟩ := hLi i (by omega)
      exact g4

end Go.Proofs.YtlobdeakgoicpaaDoor
