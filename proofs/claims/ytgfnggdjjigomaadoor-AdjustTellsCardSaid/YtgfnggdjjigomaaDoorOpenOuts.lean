/- Arguments that are slices of outcomes, opened to the words of these walks. -/
import Derived.Test.YtgfnggdjjigomaaDoorAdjSide
import Derived.Test.YtgfnggdjjigomaaDoorOpen
import Derived.Deep.Slices
import Derived.Deep.Fields
import Derived.ChangeSame
namespace Go.Proofs.YtgfnggdjjigomaaDoor
open Go.ChangeShapes Go.WideShapes Go.RowKit Go.Deep

theorem addr_add6 (b off n : Nat) : (⟨b, off, none⟩ : Addr).add n = ⟨b, off + n, none⟩ := by
  unfold Addr.add
  split
  · rename_i h; rw [h]; rfl
  · rfl
theorem one_cell {H : Type} {enc : TypeId × Value → H} {P : Program} {W : World} {base : Nat} {sp : Nat → Bool} {held : Bool} {n : Nat} {ty : TypeId} {k : IntKind} {cs : List Value} {y : DataW H × List MemPlace} (j : Nat)
    (hu : P.underlying ty = some (.int k)) (hc : P.cellsOf ty = 1) (h : DataW.trod enc P W base sp held n ty ((cs.drop j).take (P.cellsOf ty)) = some y) : ∃ z, cs[j]? = some (.int k z) ∧ (Lit.int k z).wf = true := by
  obtain ⟨z, hz, -, hw⟩ := DataW.trod_int hu h
  refine ⟨z, ?_, hw⟩
  rw [hc] at hz
  have := congrArg (·[0]?) hz
  simpa [List.getElem?_take, List.getElem?_drop] using this
/-- The cells of an outcome. -/
theorem open_oc {H : Type} {enc : TypeId × Value → H} {P : Program} {W : World} {base : Nat} {sp : Nat → Bool} {held : Bool} {fuel : Nat} {t : TypeId} {f0 f1 f2 g0 g1 g2 g3 : Field} {cs : List Value} {y : DataW H × List MemPlace}
    (ht : P.underlying t = some (.struct #[f0, f1, f2])) (hc : P.underlying f0.type = some (.struct #[g0, g1, g2, g3])) (h1 : P.underlying f1.type = some (.int .i64)) (h2 : P.underlying f2.type = some (.int .i64))
    (k0 : P.underlying g0.type = some (.int .u8)) (k1 : P.underlying g1.type = some (.int .u8)) (k2 : P.underlying g2.type = some (.int .u8)) (k3 : P.underlying g3.type = some (.int .u8))
    (c0 : P.cellsOf f0.type = 4) (c1 : P.cellsOf f1.type = 1) (c2 : P.cellsOf f2.type = 1) (d0 : P.cellsOf g0.type = 1) (d1 : P.cellsOf g1.type = 1) (d2 : P.cellsOf g2.type = 1) (d3 : P.cellsOf g3.type = 1)
    (o0 : f0.offset = 0) (o1 : f1.offset = 4) (o2 : f2.offset = 5) (p0 : g0.offset = 0) (p1 : g1.offset = 1) (p2 : g2.offset = 2) (p3 : g3.offset = 3)
    (h : DataW.trod enc P W base sp held fuel t cs = some y) : ∃ x : Oc, OcOk x ∧ cs[0]? = some (.int .u8 x.l) ∧ cs[1]? = some (.int .u8 x.d) ∧ cs[2]? = some (.int .u8 x.r) ∧ cs[3]? = some (.int .u8 x.s) ∧ cs[4]? = some (.int .i64 x.t) ∧ cs[5]? = some (.int .i64 x.w) := by
  obtain ⟨xs, n, _, _, hl, hlen, hff⟩ := DataW.trod_struct ht h
  obtain ⟨y0, y1, y2, rfl⟩ : ∃ y0 y1 y2, xs = [y0, y1, y2] := by
    match xs, hlen with
    | [a, b, c], _ => exact ⟨a, b, c, rfl⟩
  have q0 := hff 0 f0 rfl
  rw [o0] at q0
  obtain ⟨zs, n2, _, _, hl2, hlen2, hgg⟩ := DataW.trod_struct hc q0
  obtain ⟨z0, z1, z2, z3, rfl⟩ : ∃ z0 z1 z2 z3, zs = [z0, z1, z2, z3] := by
    match zs, hlen2 with
    | [a, b, c, d], _ => exact ⟨a, b, c, d, rfl⟩
  obtain ⟨a0, e0, w0⟩ := one_cell 0 k0 d0 (by have := hgg 0 g0 rfl; rw [p0] at this; exact this)
  obtain ⟨a1, e1, w1⟩ := one_cell 1 k1 d1 (by have := hgg 1 g1 rfl; rw [p1] at this; exact this)
  obtain ⟨a2, e2, w2⟩ := one_cell 2 k2 d2 (by have := hgg 2 g2 rfl; rw [p2] at this; exact this)
  obtain ⟨a3, e3, w3⟩ := one_cell 3 k3 d3 (by have := hgg 3 g3 rfl; rw [p3] at this; exact this)
  obtain ⟨a4, e4, w4⟩ := one_cell 4 h1 c1 (by have := hff 1 f1 rfl; rw [o1] at this; exact this)
  obtain ⟨a5, e5, w5⟩ := one_cell 5 h2 c2 (by have := hff 2 f2 rfl; rw [o2] at this; exact this)
  rw [c0] at e0 e1 e2 e3
  refine ⟨⟨a0, a1, a2, a3, a4, a5⟩, ⟨bounds_u8 w0, bounds_u8 w1, bounds_u8 w2, bounds_u8 w3, bounds_i64 w4, bounds_i64 w5⟩, ?_, ?_, ?_, ?_, e4, e5⟩
  · simpa [List.getElem?_take, List.getElem?_drop] using e0
  · simpa [List.getElem?_take, List.getElem?_drop] using e1
  · simpa [List.getElem?_take, List.getElem?_drop] using e2
  · simpa [List.getElem?_take, List.getElem?_drop] using e3

theorem open_outs {H : Type} {enc : TypeId × Value → H} {P : Program} {W : World} {t e : TypeId} {f0 f1 f2 g0 g1 g2 g3 : Field} {v : Value} {d : DataW H} {ps : List MemPlace} {base : Nat}
    (hs : P.underlying t = some (.slice e)) (hC : P.cellsOf e = 6)
    (ht : P.underlying e = some (.struct #[f0, f1, f2])) (hc : P.underlying f0.type = some (.struct #[g0, g1, g2, g3])) (h1 : P.underlying f1.type = some (.int .i64)) (h2 : P.underlying f2.type = some (.int .i64))
    (k0 : P.underlying g0.type = some (.int .u8)) (k1 : P.underlying g1.type = some (.int .u8)) (k2 : P.underlying g2.type = some (.int .u8)) (k3 : P.underlying g3.type = some (.int .u8))
    (c0 : P.cellsOf f0.type = 4) (c1 : P.cellsOf f1.type = 1) (c2 : P.cellsOf f2.type = 1) (d0 : P.cellsOf g0.type = 1) (d1 : P.cellsOf g1.type = 1) (d2 : P.cellsOf g2.type = 1) (d3 : P.cellsOf g3.type = 1)
    (o0 : f0.offset = 0) (o1 : f1.offset = 4) (o2 : f2.offset = 5) (p0 : g0.offset = 0) (p1 : g1.offset = 1) (p2 : g2.offset = 2) (p3 : g3.offset = 3)
    (hval : Value.okWide P W .any base t v) (h : DataW.Trod enc P W 0 (fun _ => true) true t v d ps) :
    ∃ (A : Option Addr) (c : Nat) (L : List Oc), v = .slice A L.length c ∧ Rd W W.heap.size 6 A L.length (ocC L) ∧ (A = none → c = 0) ∧ (∀ x ∈ L, OcOk x) ∧ L.length ≤ c ∧ c ≤ 9223372036854775807 := by
  obtain ⟨a0, len, cap, rfl⟩ := okWide_slice hs hval
  obtain ⟨fuel, hf⟩ := h
  rcases open_slice hs hf with ⟨hcs, _⟩ | ⟨a, len', cap', m, n, D, Pl, hcs, _, hl, hm, hmm, _, hi⟩
  · simp [Value.cells] at hcs
    obtain ⟨rfl, rfl, rfl⟩ := hcs
    exact ⟨none, 0, [], rfl, Rd.nil_, fun _ => rfl, by simp, by simp, by omega⟩
  · simp [Value.cells] at hcs
    obtain ⟨rfl, rfl, rfl⟩ := hcs
    rw [if_pos rfl] at hmm
    have each : ∀ i, i < len → ∃ x : Oc, OcOk x ∧ W.cell? ((a.add (i * 6)).add 0) = some (.int .u8 x.l) ∧ W.cell? ((a.add (i * 6)).add 1) = some (.int .u8 x.d) ∧ W.cell? ((a.add (i * 6)).add 2) = some (.int .u8 x.r) ∧ W.cell? ((a.add (i * 6)).add 3) = some (.int .u8 x.s) ∧ W.cell? ((a.add (i * 6)).add 4) = some (.int .i64 x.t) ∧ W.cell? ((a.add (i * 6)).add 5) = some (.int .i64 x.w) := by
      intro i hlt
      obtain ⟨cs', hcc, ht'⟩ := hi i (by omega)
      rw [hC] at hcc
      obtain ⟨_, hcl, hat⟩ := World.cells?_some hcc
      obtain ⟨x, hx, q0, q1, q2, q3, q4, q5⟩ := open_oc ht hc h1 h2 k0 k1 k2 k3 c0 c1 c2 d0 d1 d2 d3 o0 o1 o2 p0 p1 p2 p3 ht'
      exact ⟨x, hx, (hat 0 (by omega)).trans q0, (hat 1 (by omega)).trans q1, (hat 2 (by omega)).trans q2, (hat 3 (by omega)).trans q3, (hat 4 (by omega)).trans q4, (hat 5 (by omega)).trans q5⟩
    let L : List Oc := List.ofFn (n := len) fun i => Classical.choose (each i.1 i.2)
    have hL : L.length = len := by simp [L]
    have hLi : ∀ i (hlt : i < len), OcOk (L[i]'(by omega)) ∧ W.cell? ((a.add (i * 6)).add 0) = some (.int .u8 (L[i]'(by omega)).l) ∧ W.cell? ((a.add (i * 6)).add 1) = some (.int .u8 (L[i]'(by omega)).d) ∧ W.cell? ((a.add (i * 6)).add 2) = some (.int .u8 (L[i]'(by omega)).r) ∧ W.cell? ((a.add (i * 6)).add 3) = some (.int .u8 (L[i]'(by omega)).s) ∧ W.cell? ((a.add (i * 6)).add 4) = some (.int .i64 (L[i]'(by omega)).t) ∧ W.cell? ((a.add (i * 6)).add 5) = some (.int .i64 (L[i]'(by omega)).w) := by
      intro i hlt
      have := Classical.choose_spec (each i hlt)
      simpa [L] using this
    refine ⟨some a, cap, L, by rw [hL], ?_, fun h => (by cases h), ?_, by omega, by unfold maxLen at hm; omega⟩
    · refine ⟨by rw [ocC_len], fun hn => ?_⟩
      obtain ⟨b, off, spot⟩ := a
      have hspot : spot = none := by
        have := (hLi 0 (by omega)).2.1
        simpa [Addr.add] using World.cell?_spot this
      subst hspot
      have hlt : b < W.heap.size := cell_lt (o := off) (by simpa [Addr.add] using (hLi 0 (by omega)).2.1)
      refine ⟨b, off, rfl, hlt, fun j hj => ?_⟩
      rw [ocC_len] at hj
      have hdiv : j / 6 < len := by omega
      obtain ⟨_, q0, q1, q2, q3, q4, q5⟩ := hLi (j / 6) hdiv
      obtain ⟨r0, r1, r2, r3, r4, r5⟩ := ocC_get L (j / 6) (by omega)
      rw [addr_add6, addr_add6] at q0 q1 q2 q3 q4 q5
      rcases (show j % 6 = 0 ∨ j % 6 = 1 ∨ j % 6 = 2 ∨ j % 6 = 3 ∨ j % 6 = 4 ∨ j % 6 = 5 by omega) with e | e | e | e | e | e
      · rw [show j = j / 6 * 6 by omega, r0, ← q0]; rfl
      · rw [show j = j / 6 * 6 + 1 by omega, r1, ← q1, Nat.add_assoc]
      · rw [show j = j / 6 * 6 + 2 by omega, r2, ← q2, Nat.add_assoc]
      · rw [show j = j / 6 * 6 + 3 by omega, r3, ← q3, Nat.add_assoc]
      · rw [show j = j / 6 * 6 + 4 by omega, r4, ← q4, Nat.add_assoc]
      · rw [show j = j / 6 * 6 + 5 by omega, r5, ← q5, Nat.add_assoc]
    · intro x hx
      obtain ⟨i, hlt, rfl⟩ := List.getElem_of_mem hx
      exact (hLi i (by omega)).1

end Go.Proofs.YtgfnggdjjigomaaDoor
