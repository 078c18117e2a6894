/- An argument that is a slice of any entries. What the tied tables give the walks. -/
import Derived.Test.YtchklobblkddhaaGreatDoorAdjSide
import Derived.Test.YtchklobblkddhaaGreatDoorOpen
import Derived.Test.YtchklobblkddhaaGreatDoorEntLent
import Derived.Test.YtchklobblkddhaaGreatDoorScoW
import Derived.Test.YtchklobblkddhaaGreatDoorMatW
import Derived.Test.YtchklobblkddhaaGreatDoorRows
import Derived.Lib.SmallJoins
import Derived.Lib.LaidTab
import Derived.Deep.Slices
import Derived.Deep.Fields
import Derived.ChangeSame
import Derived.LaidMore
import Derived.Stop.Joined
namespace Go.Proofs.YtchklobblkddhaaGreatDoor
open Go.ChangeShapes Go.WideShapes Go.RowKit Go.Deep

theorem addr_add6 (b off n : Nat) : (⟨b, off, none⟩ : Addr).add n = ⟨b, off + n, none⟩ := by
  unfold Addr.add
  split
  · rename_i h; rw [h]; rfl
  · rfl
theorem one_cell {H : Type} {enc : TypeId × Value → H} {P : Program} {W : World} {base : Nat} {sp : Nat → Bool} {held : Bool} {n : Nat} {ty : TypeId} {k : IntKind} {cs : List Value} {y : DataW H × List MemPlace} (j : Nat)
    (hu : P.underlying ty = some (.int k)) (hc : P.cellsOf ty = 1) (h : DataW.trod enc P W base sp held n ty ((cs.drop j).take (P.cellsOf ty)) = some y) : ∃ z, cs[j]? = some (.int k z) ∧ (Lit.int k z).wf = true := by
  obtain ⟨z, hz, -, hw⟩ := DataW.trod_int hu h
  refine ⟨z, ?_, hw⟩
  rw [hc] at hz
  have := congrArg (·[0]?) hz
  simpa [List.getElem?_take, List.getElem?_drop] using this
/-- The cells of an outcome. -/
theorem open_oc {H : Type} {enc : TypeId × Value → H} {P : Program} {W : World} {base : Nat} {sp : Nat → Bool} {held : Bool} {fuel : Nat} {t : TypeId} {f0 f1 f2 g0 g1 g2 g3 : Field} {cs : List Value} {y : DataW H × List MemPlace}
    (ht : P.underlying t = some (.struct #[f0, f1, f2])) (hc : P.underlying f0.type = some (.struct #[g0, g1, g2, g3])) (h1 : P.underlying f1.type = some (.int .i64)) (h2 : P.underlying f2.type = some (.int .i64))
    (k0 : P.underlying g0.type = some (.int .u8)) (k1 : P.underlying g1.type = some (.int .u8)) (k2 : P.underlying g2.type = some (.int .u8)) (k3 : P.underlying g3.type = some (.int .u8))
    (c0 : P.cellsOf f0.type = 4) (c1 : P.cellsOf f1.type = 1) (c2 : P.cellsOf f2.type = 1) (d0 : P.cellsOf g0.type = 1) (d1 : P.cellsOf g1.type = 1) (d2 : P.cellsOf g2.type = 1) (d3 : P.cellsOf g3.type = 1)
    (o0 : f0.offset = 0) (o1 : f1.offset = 4) (o2 : f2.offset = 5) (p0 : g0.offset = 0) (p1 : g1.offset = 1) (p2 : g2.offset = 2) (p3 : g3.offset = 3)
    (h : DataW.trod enc P W base sp held fuel t cs = some y) : ∃ x : Oc, OcOk x ∧ cs[0]? = some (.int .u8 x.l) ∧ cs[1]? = some (.int .u8 x.d) ∧ cs[2]? = some (.int .u8 x.r) ∧ cs[3]? = some (.int .u8 x.s) ∧ cs[4]? = some (.int .i64 x.t) ∧ cs[5]? = some (.int .i64 x.w) := by
  obtain ⟨xs, n, _, _, hl, hlen, hff⟩ := DataW.trod_struct ht h
  obtain ⟨y0, y1, y2, rfl⟩ : ∃ y0 y1 y2, xs = [y0, y1, y2] := by
    match xs, hlen with
    | [a, b, c], _ => exact ⟨a, b, c, rfl⟩
  have q0 := hff 0 f0 rfl
  rw [o0] at q0
  obtain ⟨zs, n2, _, _, hl2, hlen2, hgg⟩ := DataW.trod_struct hc q0
  obtain ⟨z0, z1, z2, z3, rfl⟩ : ∃ z0 z1 z2 z3, zs = [z0, z1, z2, z3] := by
    match zs, hlen2 with
    | [a, b, c, d], _ => exact ⟨a, b, c, d, rfl⟩
  obtain ⟨a0, e0, w0⟩ := one_cell 0 k0 d0 (by have := hgg 0 g0 rfl; rw [p0] at this; exact this)
  obtain ⟨a1, e1, w1⟩ := one_cell 1 k1 d1 (by have := hgg 1 g1 rfl; rw [p1] at this; exact this)
  obtain ⟨a2, e2, w2⟩ := one_cell 2 k2 d2 (by have := hgg 2 g2 rfl; rw [p2] at this; exact this)
  obtain ⟨a3, e3, w3⟩ := one_cell 3 k3 d3 (by have := hgg 3 g3 rfl; rw [p3] at this; exact this)
  obtain ⟨a4, e4, w4⟩ := one_cell 4 h1 c1 (by have := hff 1 f1 rfl; rw [o1] at this; exact this)
  obtain ⟨a5, e5, w5⟩ := one_cell 5 h2 c2 (by have := hff 2 f2 rfl; rw [o2] at this; exact this)
  rw [c0] at e0 e1 e2 e3
  refine ⟨⟨a0, a1, a2, a3, a4, a5⟩, ⟨bounds_u8 w0, bounds_u8 w1, bounds_u8 w2, bounds_u8 w3, bounds_i64 w4, bounds_i64 w5⟩, ?_, ?_, ?_, ?_, e4, e5⟩
  · simpa [List.getElem?_take, List.getElem?_drop] using e0
  · simpa [List.getElem?_take, List.getElem?_drop] using e1
  · simpa [List.getElem?_take, List.getElem?_drop] using e2
  · simpa [List.getElem?_take, List.getElem?_drop] using e3

theorem open_outs {H : Type} {enc : TypeId × Value → H} {P : Program} {W : World} {t e : TypeId} {f0 f1 f2 g0 g1 g2 g3 : Field} {v : Value} {d : DataW H} {ps : List MemPlace} {base : Nat}
    (hs : P.underlying t = some (.slice e)) (hC : P.cellsOf e = 6)
    (ht : P.underlying e = some (.struct #[f0, f1, f2])) (hc : P.underlying f0.type = some (.struct #[g0, g1, g2, g3])) (h1 : P.underlying f1.type = some (.int .i64)) (h2 : P.underlying f2.type = some (.int .i64))
    (k0 : P.underlying g0.type = some (.int .u8)) (k1 : P.underlying g1.type = some (.int .u8)) (k2 : P.underlying g2.type = some (.int .u8)) (k3 : P.underlying g3.type = some (.int .u8))
    (c0 : P.cellsOf f0.type = 4) (c1 : P.cellsOf f1.type = 1) (c2 : P.cellsOf f2.type = 1) (d0 : P.cellsOf g0.type = 1) (d1 : P.cellsOf g1.type = 1) (d2 : P.cellsOf g2.type = 1) (d3 : P.cellsOf g3.type = 1)
    (o0 : f0.offset = 0) (o1 : f1.offset = 4) (o2 : f2.offset = 5) (p0 : g0.offset = 0) (p1 : g1.offset = 1) (p2 : g2.offset = 2) (p3 : g3.offset = 3)
    (hval : Value.okWide P W .any base t v) (h : DataW.Trod enc P W 0 (fun _ => true) true t v d ps) :
    ∃ (A : Option Addr) (c : Nat) (L : List Oc), v = .slice A L.length c ∧ Rd W W.heap.size 6 A L.length (ocC L) ∧ (A = none → c = 0) ∧ (∀ x ∈ L, OcOk x) ∧ L.length ≤ c ∧ c ≤ 9223372036854775807 := by
  obtain ⟨a0, len, cap, rfl⟩ := okWide_slice hs hval
  obtain ⟨fuel, hf⟩ := h
  rcases open_slice hs hf with ⟨hcs, _⟩ | ⟨a, len', cap', m, n, D, Pl, hcs, _, hl, hm, hmm, _, hi⟩
  · simp [Value.cells] at hcs
    obtain ⟨rfl, rfl, rfl⟩ := hcs
    exact ⟨none, 0, [], rfl, Rd.nil_, fun _ => rfl, by simp, by simp, by omega⟩
  · simp [Value.cells] at hcs
    obtain ⟨rfl, rfl, rfl⟩ := hcs
    rw [if_pos rfl] at hmm
    have each : ∀ i, i < len → ∃ x : Oc, OcOk x ∧ W.cell? ((a.add (i * 6)).add 0) = some (.int .u8 x.l) ∧ W.cell? ((a.add (i * 6)).add 1) = some (.int .u8 x.d) ∧ W.cell? ((a.add (i * 6)).add 2) = some (.int .u8 x.r) ∧ W.cell? ((a.add (i * 6)).add 3) = some (.int .u8 x.s) ∧ W.cell? ((a.add (i * 6)).add 4) = some (.int .i64 x.t) ∧ W.cell? ((a.add (i * 6)).add 5) = some (.int .i64 x.w) := by
      intro i hlt
      obtain ⟨cs', hcc, ht'⟩ := hi i (by omega)
      rw [hC] at hcc
      obtain ⟨_, hcl, hat⟩ := World.cells?_some hcc
      obtain ⟨x, hx, q0, q1, q2, q3, q4, q5⟩ := open_oc ht hc h1 h2 k0 k1 k2 k3 c0 c1 c2 d0 d1 d2 d3 o0 o1 o2 p0 p1 p2 p3 ht'
      exact ⟨x, hx, (hat 0 (by omega)).trans q0, (hat 1 (by omega)).trans q1, (hat 2 (by omega)).trans q2, (hat 3 (by omega)).trans q3, (hat 4 (by omega)).trans q4, (hat 5 (by omega)).trans q5⟩
    let L : List Oc := List.ofFn (n := len) fun i => Classical.choose (each i.1 i.2)
    have hL : L.length = len := by simp [L]
    have hLi : ∀ i (hlt : i < len), OcOk (L[i]'(by omega)) ∧ W.cell? ((a.add (i * 6)).add 0) = some (.int .u8 (L[i]'(by omega)).l) ∧ W.cell? ((a.add (i * 6)).add 1) = some (.int .u8 (L[i]'(by omega)).d) ∧ W.cell? ((a.add (i * 6)).add 2) = some (.int .u8 (L[i]'(by omega)).r) ∧ W.cell? ((a.add (i * 6)).add 3) = some (.int .u8 (L[i]'(by omega)).s) ∧ W.cell? ((a.add (i * 6)).add 4) = some (.int .i64 (L[i]'(by omega)).t) ∧ W.cell? ((a.add (i * 6)).add 5) = some (.int .i64 (L[i]'(by omega)).w) := by
      intro i hlt
      have := Classical.choose_spec (each i hlt)
      simpa [L] using this
    refine ⟨some a, cap, L, by rw [hL], ?_, fun h => (by cases h), ?_, by omega, by unfold maxLen at hm; omega⟩
    · refine ⟨by rw [ocC_len], fun hn => ?_⟩
      obtain ⟨b, off, spot⟩ := a
      have hspot : spot = none := by
        have := (hLi 0 (by omega)).2.1
        simpa [Addr.add] using World.cell?_spot this
      subst hspot
      have hlt : b < W.heap.size := cell_lt (o := off) (by simpa [Addr.add] using (hLi 0 (by omega)).2.1)
      refine ⟨b, off, rfl, hlt, fun j hj => ?_⟩
      rw [ocC_len] at hj
      have hdiv : j / 6 < len := by omega
      obtain ⟨_, q0, q1, q2, q3, q4, q5⟩ := hLi (j / 6) hdiv
      obtain ⟨r0, r1, r2, r3, r4, r5⟩ := ocC_get L (j / 6) (by omega)
      rw [addr_add6, addr_add6] at q0 q1 q2 q3 q4 q5
      rcases (show j % 6 = 0 ∨ j % 6 = 1 ∨ j % 6 = 2 ∨ j % 6 = 3 ∨ j % 6 = 4 ∨ j % 6 = 5 by omega) with e | e | e | e | e | e
      · rw [show j = j / 6 * 6 by omega, r0, ← q0]; rfl
      · rw [show j = j / 6 * 6 + 1 by omega, r1, ← q1, Nat.add_assoc]
      · rw [show j = j / 6 * 6 + 2 by omega, r2, ← q2, Nat.add_assoc]
      · rw [show j = j / 6 * 6 + 3 by omega, r3, ← q3, Nat.add_assoc]
      · rw [show j = j / 6 * 6 + 4 by omega, r4, ← q4, Nat.add_assoc]
      · rw [show j = j / 6 * 6 + 5 by omega, r5, ← q5, Nat.add_assoc]
    · intro x hx
      obtain ⟨i, hlt, rfl⟩ := List.getElem_of_mem hx
      exact (hLi i (by omega)).1


/-- The parts of an array. -/
theorem arr_parts {H : Type} {enc : TypeId × Value → H} {P : Program} {w : World} {base : Nat} {sp : Nat → Bool} {held : Bool} {fuel : Nat} {t e : TypeId} {n m : Nat} {cs : List Value} {x : DataW H × List MemPlace}
    (ht : P.underlying t = some (.array n e)) (hce : P.cellsOf e = m) (hct : P.cellsOf t = n * m)
    (h : DataW.trod enc P w base sp held fuel t cs = some x) : ∃ fu, ∀ d, d < n → ∃ b, DataW.trod enc P w base sp held fu e ((cs.drop (d * m)).take m) = some b := by
  cases fuel with
  | zero => simp [DataW.trod] at h
  | succ fuel =>
    simp only [DataW.trod, ht, hce, hct] at h
    split at h
    · obtain ⟨xs, hm, -⟩ := Option.map_eq_some_iff.1 h
      refine ⟨fuel, fun d hd => ?_⟩
      obtain ⟨b, hb, hf⟩ := Lib.mapM_at hm d d (by simp [hd])
      exact ⟨b, hf⟩
    · cases h

theorem bool_cell {H : Type} {enc : TypeId × Value → H} {P : Program} {W : World} {base : Nat} {sp : Nat → Bool} {held : Bool} {n : Nat} {ty : TypeId} {cs : List Value} {y : DataW H × List MemPlace} (j : Nat)
    (hu : P.underlying ty = some .bool) (hc : P.cellsOf ty = 1) (h : DataW.trod enc P W base sp held n ty ((cs.drop j).take (P.cellsOf ty)) = some y) : ∃ z, cs[j]? = some (.bool z) := by
  obtain ⟨z, hz, -⟩ := DataW.trod_bool hu h
  refine ⟨z, ?_⟩
  rw [hc] at hz
  have := congrArg (·[0]?) hz
  simpa [List.getElem?_take, List.getElem?_drop] using this
/-- The cells of any entry. -/
theorem open_ent_cs {H : Type} {enc : TypeId × Value → H} {P : Program} {W : World} {t oc it : TypeId} {e0 e1 e2 e3 e4 e5 e6 e7 e8 f0 f1 f2 g0 g1 g2 g3 : Field} {cs : List Value} {fuel : Nat} {y : DataW H × List MemPlace}
    (hs : P.underlying t = some (.struct #[e0, e1, e2, e3, e4, e5, e6, e7, e8])) (hsz : cs.length = 33)
    (hu0 : P.underlying e0.type = some (.int .i64)) (hu1 : P.underlying e1.type = some (.int .i64)) (hu2 : P.underlying e2.type = some (.int .i64)) (hu3 : P.underlying e3.type = some (.int .i64)) (hu6 : P.underlying e6.type = some .bool)
    (hu4 : P.underlying e4.type = some (.int .u8)) (hu5 : P.underlying e5.type = some (.int .u8)) (hu7 : P.underlying e7.type = some (.array 4 oc)) (hu8 : P.underlying e8.type = some (.array 2 it)) (hit : P.underlying it = some (.int .i64))
    (n0 : P.cellsOf e0.type = 1) (n1 : P.cellsOf e1.type = 1) (n2 : P.cellsOf e2.type = 1) (n3 : P.cellsOf e3.type = 1) (n6 : P.cellsOf e6.type = 1)
    (n4 : P.cellsOf e4.type = 1) (n5 : P.cellsOf e5.type = 1) (n7 : P.cellsOf e7.type = 24) (n8 : P.cellsOf e8.type = 2) (nit : P.cellsOf it = 1) (noc : P.cellsOf oc = 6)
    (x0 : e0.offset = 0) (x1 : e1.offset = 1) (x2 : e2.offset = 2) (x3 : e3.offset = 3) (x6 : e6.offset = 6)
    (x4 : e4.offset = 4) (x5 : e5.offset = 5) (x7 : e7.offset = 7) (x8 : e8.offset = 31)
    (ht : P.underlying oc = some (.struct #[f0, f1, f2])) (hc : P.underlying f0.type = some (.struct #[g0, g1, g2, g3])) (h1 : P.underlying f1.type = some (.int .i64)) (h2 : P.underlying f2.type = some (.int .i64))
    (k0 : P.underlying g0.type = some (.int .u8)) (k1 : P.underlying g1.type = some (.int .u8)) (k2 : P.underlying g2.type = some (.int .u8)) (k3 : P.underlying g3.type = some (.int .u8))
    (c0 : P.cellsOf f0.type = 4) (c1 : P.cellsOf f1.type = 1) (c2 : P.cellsOf f2.type = 1) (d0 : P.cellsOf g0.type = 1) (d1 : P.cellsOf g1.type = 1) (d2 : P.cellsOf g2.type = 1) (d3 : P.cellsOf g3.type = 1)
    (o0 : f0.offset = 0) (o1 : f1.offset = 4) (o2 : f2.offset = 5) (p0 : g0.offset = 0) (p1 : g1.offset = 1) (p2 : g2.offset = 2) (p3 : g3.offset = 3)
    (hf : DataW.trod enc P W 0 (fun _ => true) true fuel t cs = some y) :
    ∃ (r t b v k f a0 a1 : Int) (tu : Bool) (o : Nat → Oc), cs = (fulC r t b v k f tu o a0 a1).toList ∧ (∀ i, i < 4 → OcOk (o i)) ∧ (0 ≤ f ∧ f ≤ 255) ∧ (0 ≤ k ∧ k ≤ 255) := by
  obtain ⟨xs, n, _, _, hl, hlen, hff⟩ := DataW.trod_struct hs hf
  obtain ⟨y0, y1, y2, y3, y4, y5, y6, y7, y8, rfl⟩ : ∃ y0 y1 y2 y3 y4 y5 y6 y7 y8, xs = [y0, y1, y2, y3, y4, y5, y6, y7, y8] := by
    match xs, hlen with
    | [a, b, c, d, e, f, g, h, i], _ => exact ⟨a, b, c, d, e, f, g, h, i, rfl⟩
  have q0 := hff 0 e0 rfl
  have q1 := hff 1 e1 rfl
  have q2 := hff 2 e2 rfl
  have q3 := hff 3 e3 rfl
  have q4 := hff 4 e4 rfl
  have q5 := hff 5 e5 rfl
  have q6 := hff 6 e6 rfl
  have q7 := hff 7 e7 rfl
  have q8 := hff 8 e8 rfl
  rw [x0] at q0
  rw [x1] at q1
  rw [x2] at q2
  rw [x3] at q3
  rw [x4] at q4
  rw [x5] at q5
  rw [x6] at q6
  rw [x7, n7] at q7
  rw [x8, n8] at q8
  obtain ⟨rr, er, -⟩ := one_cell 0 hu0 n0 q0
  obtain ⟨tt, et, -⟩ := one_cell 1 hu1 n1 q1
  obtain ⟨bb, eb, -⟩ := one_cell 2 hu2 n2 q2
  obtain ⟨vv, ev, -⟩ := one_cell 3 hu3 n3 q3
  obtain ⟨kk, ek, wk⟩ := one_cell 4 hu4 n4 q4
  obtain ⟨fv, ef, wf⟩ := one_cell 5 hu5 n5 q5
  obtain ⟨tu, eu⟩ := bool_cell 6 hu6 n6 q6
  obtain ⟨fu8, hp8⟩ := arr_parts hu8 nit (by rw [n8]) q8
  obtain ⟨fu7, hp7⟩ := arr_parts hu7 noc (by rw [n7]) q7
  obtain ⟨z0, hz0⟩ := hp8 0 (by decide)
  obtain ⟨z1, hz1⟩ := hp8 1 (by decide)
  obtain ⟨a0, ea0, -⟩ := one_cell (cs := (cs.drop 31).take 2) 0 hit nit (by rw [nit]; exact hz0)
  obtain ⟨a1, ea1, -⟩ := one_cell (cs := (cs.drop 31).take 2) 1 hit nit (by rw [nit]; exact hz1)
  have each : ∀ i, i < 4 → ∃ x : Oc, OcOk x ∧ cs[7 + i * 6]? = some (.int .u8 x.l) ∧ cs[7 + i * 6 + 1]? = some (.int .u8 x.d) ∧ cs[7 + i * 6 + 2]? = some (.int .u8 x.r) ∧ cs[7 + i * 6 + 3]? = some (.int .u8 x.s) ∧ cs[7 + i * 6 + 4]? = some (.int .i64 x.t) ∧ cs[7 + i * 6 + 5]? = some (.int .i64 x.w) := fun i hi => by
    obtain ⟨b, hb⟩ := hp7 i hi
    obtain ⟨x, hx, r0, r1, r2, r3, r4, r5⟩ := open_oc ht hc h1 h2 k0 k1 k2 k3 c0 c1 c2 d0 d1 d2 d3 o0 o1 o2 p0 p1 p2 p3 hb
    have conv : ∀ j, j < 6 → ((((cs.drop 7).take 24).drop (i * 6)).take 6)[j]? = cs[7 + i * 6 + j]? := fun j hj => by
      rw [List.getElem?_take, if_pos hj, List.getElem?_drop, List.getElem?_take, if_pos (by omega), List.getElem?_drop, Nat.add_assoc]
    exact ⟨x, hx, (conv 0 (by omega)).symm.trans r0, (conv 1 (by omega)).symm.trans r1, (conv 2 (by omega)).symm.trans r2, (conv 3 (by omega)).symm.trans r3, (conv 4 (by omega)).symm.trans r4, (conv 5 (by omega)).symm.trans r5⟩
  obtain ⟨u0, v0, w00, w01, w02, w03, w04, w05⟩ := each 0 (by decide)
  obtain ⟨u1, v1, w10, w11, w12, w13, w14, w15⟩ := each 1 (by decide)
  obtain ⟨u2, v2, w20, w21, w22, w23, w24, w25⟩ := each 2 (by decide)
  obtain ⟨u3, v3, w30, w31, w32, w33, w34, w35⟩ := each 3 (by decide)
  have ea0' : cs[31]? = some (.int .i64 a0) := by simpa [List.getElem?_take, List.getElem?_drop] using ea0
  have ea1' : cs[32]? = some (.int .i64 a1) := by simpa [List.getElem?_take, List.getElem?_drop] using ea1
  refine ⟨rr, tt, bb, vv, kk, fv, a0, a1, tu, fun i => if i = 0 then u0 else if i = 1 then u1 else if i = 2 then u2 else u3, ?_, fun i hi => ?_, bounds_u8 wf, bounds_u8 wk⟩
  · apply List.ext_getElem?
    intro j
    by_cases hj : j < 33
    · rcases (show j = 0 ∨ j = 1 ∨ j = 2 ∨ j = 3 ∨ j = 4 ∨ j = 5 ∨ j = 6 ∨ j = 7 ∨ j = 8 ∨ j = 9 ∨ j = 10 ∨ j = 11 ∨ j = 12 ∨ j = 13 ∨ j = 14 ∨ j = 15 ∨ j = 16 ∨ j = 17 ∨ j = 18 ∨ j = 19 ∨ j = 20 ∨ j = 21 ∨ j = 22 ∨ j = 23 ∨ j = 24 ∨ j = 25 ∨ j = 26 ∨ j = 27 ∨ j = 28 ∨ j = 29 ∨ j = 30 ∨ j = 31 ∨ j = 32 by omega) with rfl | rfl | rfl | rfl | rfl | rfl | rfl | rfl | rfl | rfl | rfl | rfl | rfl | rfl | rfl | rfl | rfl | rfl | rfl | rfl | rfl | rfl | rfl | rfl | rfl | rfl | rfl | rfl | rfl | rfl | rfl | rfl | rfl
      · exact er
      · exact et
      · exact eb
      · exact ev
      · exact ek
      · exact ef
      · exact eu
      · exact w00
      · exact w01
      · exact w02
      · exact w03
      · exact w04
      · exact w05
      · exact w10
      · exact w11
      · exact w12
      · exact w13
      · exact w14
      · exact w15
      · exact w20
      · exact w21
      · exact w22
      · exact w23
      · exact w24
      · exact w25
      · exact w30
      · exact w31
      · exact w32
      · exact w33
      · exact w34
      · exact w35
      · exact ea0'
      · exact ea1'
    · rw [List.getElem?_eq_none (by omega), List.getElem?_eq_none (by simp [fulC]; omega)]
  · dsimp only
    (repeat' split)
    · exact v0
    · exact v1
    · exact v2
    · exact v3

theorem open_rawents {H : Type} {enc : TypeId × Value → H} {P : Program} {W : World} {T t oc it : TypeId} {e0 e1 e2 e3 e4 e5 e6 e7 e8 f0 f1 f2 g0 g1 g2 g3 : Field} {v : Value} {d : DataW H} {ps : List MemPlace} {base : Nat}
    (hT : P.underlying T = some (.slice t)) (hC : P.cellsOf t = 33)
    (hs : P.underlying t = some (.struct #[e0, e1, e2, e3, e4, e5, e6, e7, e8]))
    (hu0 : P.underlying e0.type = some (.int .i64)) (hu1 : P.underlying e1.type = some (.int .i64)) (hu2 : P.underlying e2.type = some (.int .i64)) (hu3 : P.underlying e3.type = some (.int .i64)) (hu6 : P.underlying e6.type = some .bool)
    (hu4 : P.underlying e4.type = some (.int .u8)) (hu5 : P.underlying e5.type = some (.int .u8)) (hu7 : P.underlying e7.type = some (.array 4 oc)) (hu8 : P.underlying e8.type = some (.array 2 it)) (hit : P.underlying it = some (.int .i64))
    (n0 : P.cellsOf e0.type = 1) (n1 : P.cellsOf e1.type = 1) (n2 : P.cellsOf e2.type = 1) (n3 : P.cellsOf e3.type = 1) (n6 : P.cellsOf e6.type = 1)
    (n4 : P.cellsOf e4.type = 1) (n5 : P.cellsOf e5.type = 1) (n7 : P.cellsOf e7.type = 24) (n8 : P.cellsOf e8.type = 2) (nit : P.cellsOf it = 1) (noc : P.cellsOf oc = 6)
    (x0 : e0.offset = 0) (x1 : e1.offset = 1) (x2 : e2.offset = 2) (x3 : e3.offset = 3) (x6 : e6.offset = 6)
    (x4 : e4.offset = 4) (x5 : e5.offset = 5) (x7 : e7.offset = 7) (x8 : e8.offset = 31)
    (ht : P.underlying oc = some (.struct #[f0, f1, f2])) (hc : P.underlying f0.type = some (.struct #[g0, g1, g2, g3])) (h1 : P.underlying f1.type = some (.int .i64)) (h2 : P.underlying f2.type = some (.int .i64))
    (k0 : P.underlying g0.type = some (.int .u8)) (k1 : P.underlying g1.type = some (.int .u8)) (k2 : P.underlying g2.type = some (.int .u8)) (k3 : P.underlying g3.type = some (.int .u8))
    (c0 : P.cellsOf f0.type = 4) (c1 : P.cellsOf f1.type = 1) (c2 : P.cellsOf f2.type = 1) (d0 : P.cellsOf g0.type = 1) (d1 : P.cellsOf g1.type = 1) (d2 : P.cellsOf g2.type = 1) (d3 : P.cellsOf g3.type = 1)
    (o0 : f0.offset = 0) (o1 : f1.offset = 4) (o2 : f2.offset = 5) (p0 : g0.offset = 0) (p1 : g1.offset = 1) (p2 : g2.offset = 2) (p3 : g3.offset = 3)
    (hval : Value.okWide P W .any base T v) (h : DataW.Trod enc P W 0 (fun _ => true) true T v d ps) :
    ∃ (A : Option Addr) (c : Nat) (L : List Ent), v = .slice A L.length c ∧ Rd W W.heap.size 33 A L.length (enL L) ∧ (A = none → c = 0) ∧ (∀ e ∈ L, e.Ok) ∧ (∀ e ∈ L, EqC e.C) := by
  obtain ⟨a0, len, cap, rfl⟩ := okWide_slice hT hval
  obtain ⟨fuel, hf⟩ := h
  rcases open_slice hT hf with ⟨hcs, _⟩ | ⟨a, len', cap', m, n, D, Pl, hcs, _, hl, hm, hmm, _, hi⟩
  · simp [Value.cells] at hcs
    obtain ⟨rfl, rfl, rfl⟩ := hcs
    exact ⟨none, 0, [], rfl, Rd.nil_, fun _ => rfl, by simp, by simp⟩
  · simp [Value.cells] at hcs
    obtain ⟨rfl, rfl, rfl⟩ := hcs
    rw [if_pos rfl] at hmm
    have each : ∀ i, i < len → ∃ x : Ent, x.Ok ∧ (EqC x.C ∧ ∃ r : Int, x.C[0]? = some (.int .i64 r)) ∧ ∀ j, j < 33 → W.cell? ((a.add (i * 33)).add j) = x.C[j]? := by
      intro i hlt
      obtain ⟨cs', hcc, ht'⟩ := hi i (by omega)
      rw [hC] at hcc
      obtain ⟨_, hcl, hat⟩ := World.cells?_some hcc
      obtain ⟨r, tt, b, vv, k, f, x0', x1', tu, o, rfl, hx, hf', hk'⟩ := open_ent_cs hs hcl hu0 hu1 hu2 hu3 hu6 hu4 hu5 hu7 hu8 hit n0 n1 n2 n3 n6 n4 n5 n7 n8 nit noc x0 x1 x2 x3 x6 x4 x5 x7 x8 ht hc h1 h2 k0 k1 k2 k3 c0 c1 c2 d0 d1 d2 d3 o0 o1 o2 p0 p1 p2 p3 ht'
      exact ⟨⟨fulC r tt b vv k f tu o x0' x1', k, f, o, x0', x1'⟩, ⟨fulC_ok _ _ _ _ _ _ _ _ _ _, fulC_one _ _ _ _ _ _ _ _ _ _, hx, hf', hk'⟩, ⟨eqC_ful _ _ _ _ _ _ _ _ _ _, r, rfl⟩, fun j hj => (hat j hj).trans (by rw [Array.getElem?_toList])⟩
    let S : List Ent := List.ofFn (n := len) fun i => Classical.choose (each i.1 i.2)
    have hS : S.length = len := by simp [S]
    have hSi : ∀ i (hlt : i < len), (S[i]'(by omega)).Ok ∧ (EqC (S[i]'(by omega)).C ∧ ∃ r : Int, (S[i]'(by omega)).C[0]? = some (.int .i64 r)) ∧ ∀ j, j < 33 → W.cell? ((a.add (i * 33)).add j) = (S[i]'(by omega)).C[j]? := by
      intro i hlt
      have := Classical.choose_spec (each i hlt)
      simpa [S] using this
    have hSz : ∀ e ∈ S, e.C.size = 33 := fun e he => by
      obtain ⟨i, hlt, rfl⟩ := List.getElem_of_mem he
      exact (hSi i (by omega)).1.1.1
    refine ⟨some a, cap, S, by rw [hS], ?_, fun h => (by cases h), ?_, ?_⟩
    · refine ⟨by rw [enL_len S hSz], fun hn => ?_⟩
      obtain ⟨b, off, spot⟩ := a
      obtain ⟨r5, h5⟩ := (hSi 0 (by omega)).2.1.2
      have hspot : spot = none := by
        have := (hSi 0 (by omega)).2.2 0 (by decide)
        rw [h5] at this
        simpa [Addr.add] using World.cell?_spot this
      subst hspot
      have hlt : b < W.heap.size := cell_lt (o := off) (v := .int .i64 r5) (by
        have := (hSi 0 (by omega)).2.2 0 (by decide)
        rw [h5] at this
        simpa [Addr.add] using this)
      refine ⟨b, off, rfl, hlt, fun j hj => ?_⟩
      rw [enL_len S hSz] at hj
      have hdiv : j / 33 < len := by omega
      have q := (hSi (j / 33) hdiv).2.2 (j % 33) (by omega)
      rw [addr_add6, addr_add6] at q
      have g := enL_get S hSz (j / 33) (by omega) (j % 33) (by omega)
      have e : j / 33 * 33 + j % 33 = j := by omega
      rw [e] at g
      rw [Nat.add_assoc, e] at q
      rw [g, q]
    · intro x hx
      obtain ⟨i, hlt, rfl⟩ := List.getElem_of_mem hx
      exact (hSi i (by omega)).1
    · intro x hx
      obtain ⟨i, hlt, rfl⟩ := List.getElem_of_mem hx
      exact (hSi i (by omega)).2.1.1

/-! ### What the tied tables of the package score give the walks. -/
/-- The tables' names, as the rows list them. -/
def tabName (i : Nat) : String := match Rows.foulTellsRow.laid[i + 1]? with
  | some x => x.1
  | none => ""
theorem var_heap {W : World} {n : String} {g : Nat} {cs : Array Value} (hg : Tryz.prog.globalNamed n = some g) (e : W.var? Tryz.prog n = some cs) : ∃ t fr, W.heap[g]? = some (.cells cs t fr) := by
  unfold World.var? at e
  rw [hg] at e
  simp only [Option.bind_some] at e
  split at e
  · rename_i cs t fr hh
    obtain rfl := Option.some.inj e
    exact ⟨t, fr, hh⟩
  · cases e
theorem arr_of {cs : Array Value} {l : List Value} (h : cs.toList = l) : cs = l.toArray := by rw [← h]

/-- An array of arrays of integers that reads as a table holds its numbers. -/
theorem cells_of_tab3 {H : Type} {enc : TypeId × Value → H} {P : Program} {w : World} {base : Nat} {sp : Nat → Bool} {held : Bool} {fuel : Nat} {t e i : TypeId} {m : Nat} {k : IntKind} {cs : List Value} {z0 z1 z2 : List Int} {p : List MemPlace}
    (ht : P.underlying t = some (.array 3 e)) (he : P.underlying e = some (.array m i)) (hi : P.underlying i = some (.int k)) (hci : P.cellsOf i = 1) (hce : P.cellsOf e = m) (hct : P.cellsOf t = 3 * m)
    (h : DataW.trod enc P w base sp held fuel t cs = some (.agg [Lib.tabData k z0, Lib.tabData k z1, Lib.tabData k z2], p)) : cs = (z0 ++ z1 ++ z2).map fun z => Value.int k z := by
  cases fuel with
  | zero => simp [DataW.trod] at h
  | succ fuel =>
    simp only [DataW.trod, ht, hce, hct] at h
    split at h
    · rename_i hl
      obtain ⟨xs, hm, hx⟩ := Option.map_eq_some_iff.1 h
      have hxs : xs.map (·.1) = [Lib.tabData k z0, Lib.tabData k z1, Lib.tabData k z2] := by
        have := congrArg Prod.fst hx
        simpa using this
      have key : ∀ j z, j < 3 → [Lib.tabData (H := H) k z0, Lib.tabData k z1, Lib.tabData k z2][j]? = some (Lib.tabData k z) → (cs.drop (j * m)).take m = z.map fun z => Value.int k z := by
        intro j z hj hz
        obtain ⟨b, hb, hf⟩ := Lib.mapM_at hm j j (by simp [hj])
        have h2 : (xs.map (·.1))[j]? = some b.1 := by simp [hb]
        rw [hxs, hz] at h2
        obtain ⟨b1, b2⟩ := b
        obtain rfl := Option.some.inj h2
        exact Lib.cells_of_tab he hi hci hce hf
      have e0 := key 0 z0 (by decide) rfl
      have e1 := key 1 z1 (by decide) rfl
      have e2 := key 2 z2 (by decide) rfl
      rw [List.map_append, List.map_append, ← e0, ← e1, ← e2]
      apply List.ext_getElem?
      intro q
      by_cases h0 : q < m
      · rw [List.append_assoc, List.getElem?_append_left (by simp; omega)]
        simp [h0]
      · by_cases h1 : q < 2 * m
        · rw [List.getElem?_append_left (by simp; omega), List.getElem?_append_right (by simp; omega)]
          simp only [List.getElem?_take, List.getElem?_drop, List.length_take, List.length_drop]
          rw [if_pos (by omega)]
          congr 1
          omega
        · by_cases h2 : q < 3 * m
          · rw [List.getElem?_append_right (by simp; omega)]
            simp only [List.getElem?_take, List.getElem?_drop, List.length_take, List.length_drop, List.length_append]
            rw [if_pos (by omega)]
            congr 1
            omega
          · rw [List.getElem?_eq_none (by omega), List.getElem?_eq_none (by simp; omega)]
    · cases h

theorem laidS_vars {W : World} {L : List (String × DataW Unit)} (hL : L = [(tabName 0, Lib.tabData .i64 [20, 20, 30, 30, 30]), (tabName 1, Lib.tabData .i64 [1, 2, 4]), (tabName 2, Lib.tabData .i64 [0, 50, 100]), (tabName 3, .agg [Lib.tabData .i64 [0, 0], Lib.tabData .i64 [100, 200], Lib.tabData .i64 [200, 400]])])
    {ps : List MemPlace} (h : DataW.LaidVars Tryz.prog W L ps) : LaidS W := by
  subst hL
  obtain ⟨g0, t0, c0, f0, p0, q0, hg0, ht0, hv0, hd0, h, -⟩ := h
  obtain ⟨g1, t1, c1, f1, p1, q1, hg1, ht1, hv1, hd1, h, -⟩ := h
  obtain ⟨g2, t2, c2, f2, p2, q2, hg2, ht2, hv2, hd2, h, -⟩ := h
  obtain ⟨g3, t3, c3, f3, p3, q3, hg3, ht3, hv3, hd3, -, -⟩ := h
  have n0 : Tryz.prog.globalNamed (tabName 0) = some 3 := by kernel_rfl
  have n1 : Tryz.prog.globalNamed (tabName 1) = some 4 := by kernel_rfl
  have n2 : Tryz.prog.globalNamed (tabName 2) = some 6 := by kernel_rfl
  have n3 : Tryz.prog.globalNamed (tabName 3) = some 5 := by kernel_rfl
  obtain rfl : 3 = g0 := Option.some.inj (n0.symm.trans hg0)
  obtain rfl : 4 = g1 := Option.some.inj (n1.symm.trans hg1)
  obtain rfl : 6 = g2 := Option.some.inj (n2.symm.trans hg2)
  obtain rfl : 5 = g3 := Option.some.inj (n3.symm.trans hg3)
  obtain rfl : 152 = t0 := Option.some.inj ((show (Tryz.prog.globals[3]?).map (·.type) = some 152 by kernel_rfl).symm.trans ht0)
  obtain rfl : 138 = t1 := Option.some.inj ((show (Tryz.prog.globals[4]?).map (·.type) = some 138 by kernel_rfl).symm.trans ht1)
  obtain rfl : 138 = t2 := Option.some.inj ((show (Tryz.prog.globals[6]?).map (·.type) = some 138 by kernel_rfl).symm.trans ht2)
  obtain rfl : 153 = t3 := Option.some.inj ((show (Tryz.prog.globals[5]?).map (·.type) = some 153 by kernel_rfl).symm.trans ht3)
  obtain rfl := arr_of (Lib.cells_of_tab Tryz.underlying152 Tryz.underlying3 (by kernel_rfl) (by kernel_rfl) hd0)
  obtain rfl := arr_of (Lib.cells_of_tab Tryz.underlying138 Tryz.underlying3 (by kernel_rfl) (by kernel_rfl) hd1)
  obtain rfl := arr_of (Lib.cells_of_tab Tryz.underlying138 Tryz.underlying3 (by kernel_rfl) (by kernel_rfl) hd2)
  obtain rfl := arr_of (cells_of_tab3 Tryz.underlying153 Tryz.underlying49 Tryz.underlying3 (by kernel_rfl) (by kernel_rfl) (by kernel_rfl) hd3)
  exact ⟨var_heap n0 hv0, var_heap n1 hv1, var_heap n3 hv3, var_heap n2 hv2⟩
def getsNameG : String := match Rows.foulTellsRow.laid with
  | x :: _ => x.1
  | [] => ""
theorem laidG_of {W : World} (h : laidMetH Tryz.prog Rows.foulTellsRow.laid W) : Laid W ∧ LaidS W := by
  rw [MakeChecks.laidMetH_plain _ _ _ (by kernel_rfl)] at h
  obtain ⟨ps, hv, -⟩ := h
  have hL : Rows.foulTellsRow.laid = (getsNameG, Lib.tabData .i64 [0, 1, 2]) :: [(tabName 0, Lib.tabData .i64 [20, 20, 30, 30, 30]), (tabName 1, Lib.tabData .i64 [1, 2, 4]), (tabName 2, Lib.tabData .i64 [0, 50, 100]), (tabName 3, .agg [Lib.tabData .i64 [0, 0], Lib.tabData .i64 [100, 200], Lib.tabData .i64 [200, 400]])] := rfl
  rw [hL] at hv
  obtain ⟨g0, t0, c0, f0, p0, q0, hg0, ht0, hv0, hd0, h, -⟩ := hv
  refine ⟨?_, laidS_vars rfl h⟩
  have n0 : Tryz.prog.globalNamed getsNameG = some 0 := by kernel_rfl
  obtain rfl : 0 = g0 := Option.some.inj (n0.symm.trans hg0)
  obtain rfl : 138 = t0 := Option.some.inj ((show (Tryz.prog.globals[0]?).map (·.type) = some 138 by kernel_rfl).symm.trans ht0)
  obtain rfl := arr_of (Lib.cells_of_tab Tryz.underlying138 Tryz.underlying3 (by kernel_rfl) (by kernel_rfl) hd0)
  exact var_heap n0 hv0

end Go.Proofs.YtchklobblkddhaaGreatDoor
