/- Arguments that are slices of structs of two integers, opened to the words of these walks. No program stands in this text. -/
import Derived.Test.YtlobdeakgoicpaaDoorOpen
import Derived.Deep.Slices
import Derived.Deep.Fields
import Derived.ChangeSame
namespace Go.Proofs.YtlobdeakgoicpaaDoor
open Go.ChangeShapes Go.WideShapes Go.RowKit Go.Deep

theorem addr_add (b off n : Nat) : (⟨b, off, none⟩ : Addr).add n = ⟨b, off + n, none⟩ := by
  unfold Addr.add
  split
  · rename_i h; rw [h]; rfl
  · rfl
theorem flat2_len (l : List (Int × Int)) (k : IntKind) : (l.flatMap fun b => [Value.int k b.1, Value.int k b.2]).length = l.length * 2 := by
  induction l with
  | nil => rfl
  | cons b l ih => simp at ih ⊢; omega
theorem flat2_get (k : IntKind) (l : List (Int × Int)) : ∀ (j : Nat) (h : j < l.length), (l.flatMap fun b => [Value.int k b.1, Value.int k b.2])[j * 2]? = some (.int k l[j].1) ∧ (l.flatMap fun b => [Value.int k b.1, Value.int k b.2])[j * 2 + 1]? = some (.int k l[j].2) := by
  induction l with
  | nil => intro j h; simp at h
  | cons b l ih =>
    intro j h
    have e : ((b :: l).flatMap fun b => [Value.int k b.1, Value.int k b.2]) = [.int k b.1, .int k b.2] ++ (l.flatMap fun b => [Value.int k b.1, Value.int k b.2]) := rfl
    rw [e]
    cases j with
    | zero => exact ⟨rfl, rfl⟩
    | succ j =>
      have := ih j (by simpa using h)
      rw [List.getElem?_append_right (by simp; omega), List.getElem?_append_right (by simp; omega)]
      simpa [show (j + 1) * 2 - 2 = j * 2 by omega, show (j + 1) * 2 + 1 - 2 = j * 2 + 1 by omega] using this

theorem open_pairs {H : Type} {enc : TypeId × Value → H} {P : Program} {W : World} {t e : TypeId} {k : IntKind} {f0 f1 : Field} {v : Value} {d : DataW H} {ps : List MemPlace} {base : Nat}
    (ht : P.underlying t = some (.slice e)) (he : P.underlying e = some (.struct #[f0, f1])) (hone : oneCellFields P #[f0, f1] = true) (hC : P.cellsOf e = 2)
    (h0 : P.underlying f0.type = some (.int k)) (h1 : P.underlying f1.type = some (.int k))
    (hval : Value.okWide P W .any base t v) (h : DataW.Trod enc P W 0 (fun _ => true) true t v d ps) :
    ∃ (A : Option Addr) (c : Nat) (L : List (Int × Int)), v = .slice A L.length c ∧ Rd W W.heap.size 2 A L.length (L.flatMap fun b => [Value.int k b.1, Value.int k b.2]) ∧ (A = none → c = 0) ∧
      (∀ b ∈ L, (Lit.int k b.1).wf = true ∧ (Lit.int k b.2).wf = true) ∧ L.length ≤ c ∧ c ≤ 9223372036854775807 := by
  obtain ⟨a0, len, cap, rfl⟩ := okWide_slice ht hval
  obtain ⟨fuel, hf⟩ := h
  rcases open_slice ht hf with ⟨hcs, _⟩ | ⟨a, len', cap', m, n, D, Pl, hcs, _, hl, hm, hmm, _, hi⟩
  · simp [Value.cells] at hcs
    obtain ⟨rfl, rfl, rfl⟩ := hcs
    exact ⟨none, 0, [], rfl, Rd.nil_, fun _ => rfl, by simp, by simp, by omega⟩
  · simp [Value.cells] at hcs
    obtain ⟨rfl, rfl, rfl⟩ := hcs
    rw [if_pos rfl] at hmm
    have each : ∀ i, i < len → ∃ x y : Int, W.cell? (a.add (i * 2)) = some (.int k x) ∧ W.cell? ((a.add (i * 2)).add 1) = some (.int k y) ∧ (Lit.int k x).wf = true ∧ (Lit.int k y).wf = true := by
      intro i hlt
      obtain ⟨cs', hc, ht'⟩ := hi i (by omega)
      rw [hC] at hc
      obtain ⟨_, hcl, hat⟩ := World.cells?_some hc
      obtain ⟨ys, n', _, _, hlen2, hyl, hg⟩ := DataW.trod_struct he ht'
      obtain ⟨o0, k0⟩ := hone_of hone 0 f0 rfl
      obtain ⟨o1, k1⟩ := hone_of hone 1 f1 rfl
      match cs', hcl with
      | [c0, c1], _ =>
        have g0 := hg 0 f0 rfl
        have g1 := hg 1 f1 rfl
        rw [o0, k0] at g0
        rw [o1, k1] at g1
        have y0 : ys[0]? = some (ys[0]'(by rw [hyl]; simp)) := List.getElem?_eq_getElem _
        have y1 : ys[1]? = some (ys[1]'(by rw [hyl]; simp)) := List.getElem?_eq_getElem _
        obtain ⟨x, e0, _, wx⟩ := DataW.trod_int h0 (g0.trans y0)
        obtain ⟨y, e1, _, wy⟩ := DataW.trod_int h1 (g1.trans y1)
        simp at e0 e1
        subst e0 e1
        have q0 := hat 0 (by omega)
        have q1 := hat 1 (by omega)
        exact ⟨x, y, by simpa [Addr.add] using q0, by simpa using q1, wx, wy⟩
    let L : List (Int × Int) := List.ofFn (n := len) fun i => (Classical.choose (each i.1 i.2), Classical.choose (Classical.choose_spec (each i.1 i.2)))
    have hL : L.length = len := by simp [L]
    have hLi : ∀ i (hlt : i < len), W.cell? (a.add (i * 2)) = some (.int k (L[i]'(by omega)).1) ∧ W.cell? ((a.add (i * 2)).add 1) = some (.int k (L[i]'(by omega)).2) ∧ (Lit.int k (L[i]'(by omega)).1).wf = true ∧ (Lit.int k (L[i]'(by omega)).2).wf = true := by
      intro i hlt
      have := Classical.choose_spec (Classical.choose_spec (each i hlt))
      simpa [L] using this
    refine ⟨some a, cap, L, by rw [hL], ?_, fun h => (by cases h), ?_, by omega, by unfold maxLen at hm; omega⟩
    · refine ⟨by rw [flat2_len], fun hn => ?_⟩
      obtain ⟨b, off, spot⟩ := a
      have hspot : spot = none := by
        have := (hLi 0 (by omega)).1
        simpa [Addr.add] using World.cell?_spot this
      subst hspot
      have hlt : b < W.heap.size := cell_lt (o := off) (by simpa [Addr.add] using (hLi 0 (by omega)).1)
      refine ⟨b, off, rfl, hlt, fun j hj => ?_⟩
      rw [flat2_len] at hj
      have hdiv : j / 2 < len := by omega
      obtain ⟨q0, q1, _, _⟩ := hLi (j / 2) hdiv
      obtain ⟨r0, r1⟩ := flat2_get k L (j / 2) (by omega)
      by_cases hpar : j % 2 = 0
      · rw [show j = j / 2 * 2 by omega, r0, ← q0, addr_add]
      · rw [show j = j / 2 * 2 + 1 by omega, r1, ← q1, addr_add, addr_add, Nat.add_assoc]
    · intro x hx
      obtain ⟨i, hlt, rfl⟩ := List.getElem_of_mem hx
      obtain ⟨_, _, w0, w1⟩ := hLi i (by omega)
      exact ⟨w0, w1⟩

end Go.Proofs.YtlobdeakgoicpaaDoor
