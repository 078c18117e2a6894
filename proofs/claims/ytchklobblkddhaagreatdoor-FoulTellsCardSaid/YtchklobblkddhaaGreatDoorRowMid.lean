/- Slices of entries: built of whole entries, and stored to in the middle. -/
import Derived.Test.YtchklobblkddhaaGreatDoorFouMath
import Derived.Deep.MidRow
import Derived.Laws.MakeOwn
namespace Go.Proofs.YtchklobblkddhaaGreatDoor
open Go.RowKit

/-! ### A slice built of values that are known by name -/
/-- The parts, laid over n zero values, are the cells C. -/
def FillsTo (size n : Nat) (Z : Array Value) (parts : List (Nat × Value)) (C : Array Value) : Prop := Instr.fill (fun k => some (k * size, size)) (madeCells Z (n * size)) parts = some C
theorem run_buildSlice_to {P : Program} (w : World) (t elem n : Nat) (i : TypeInfo) (z : Value) (size : Nat) (parts : Array (Nat × Value)) (C : Array Value) (ht : P.underlying t = some (.slice elem)) (hi : P.info? elem = some i) (hz : i.zero = some z) (hsz : i.size = size) (h0 : n * size ≠ 0) (hm : n * size ≤ 16777216)
    (hf : FillsTo size n z.cells parts.toList C) :
    (Instr.buildSlice t n parts).run P w = .ok (.slice (some ⟨w.heap.size, 0, none⟩) n n) (w.alloc (.cells C elem)) := by
  subst hsz
  have hm2 : ¬ (16777216 < n * i.size) := by omega
  unfold FillsTo madeCells at hf
  simp [Instr.buildSlice, run_underlying ht, sizeOf, typeInfo, hi, zeroValue, hz, h0, hm2, hf, newRow]
theorem wp_buildSlice_to {P : Program} {o : Oper} {a : Act} {w : World} {K : Act → World → Prop} {Q : Exit → Act → World → Prop} (t elem n : Nat) (parts : Array (Nat × Operand)) (ho : o.op = .buildSlice t n parts) (i : TypeInfo) (z : Value) (size : Nat) (C : Array Value) (ht : P.underlying t = some (.slice elem)) (hi : P.info? elem = some i) (hz : i.zero = some z) (hsz : i.size = size) (h0 : n * size ≠ 0) (hm : n * size ≤ 16777216)
    (hf : FillsTo size n z.cells (parts.map fun (k, x) => (k, a.eval x)).toList C)
    (h : K (a.put o.dst (.slice (some ⟨w.heap.size, 0, none⟩) n n)) (w.alloc (.cells C elem))) : o.wp P a w K Q := by
  unfold Oper.wp execOp
  simp only [ho, Sem.run_bind, run_buildSlice_to w t elem n i z size _ C ht hi hz hsz h0 hm hf, Result.andThen_ok]
  exact h
theorem wpList_buildSlice_to {P : Program} {ops : Array Oper} {rest : List Oper} {o : Oper} {a : Act} {w : World} {Q : Exit → Act → World → Prop} (hg : o.guard = none) (t elem n : Nat) (parts : Array (Nat × Operand)) (ho : o.op = .buildSlice t n parts) (i : TypeInfo) (z : Value) (size : Nat) (C : Array Value) (ht : P.underlying t = some (.slice elem)) (hi : P.info? elem = some i) (hz : i.zero = some z) (hsz : i.size = size) (h0 : n * size ≠ 0) (hm : n * size ≤ 16777216)
    (hf : FillsTo size n z.cells (parts.map fun (k, x) => (k, a.eval x)).toList C)
    (h : wpList P ops Q rest (a.put o.dst (.slice (some ⟨w.heap.size, 0, none⟩) n n)) (w.alloc (.cells C elem))) : wpList P ops Q (o :: rest) a w :=
  wpList_plain hg fun _ hK => wp_buildSlice_to t elem n parts ho i z size C ht hi hz hsz h0 hm hf (hK _ _ h)

theorem fill_aux (l : List Value) : ∀ (k : Nat) (Z : Array Value), k + l.length ≤ Z.size → ((l.zipIdx k).foldl (fun cs (p : Value × Nat) => cs.setIfInBounds p.2 p.1) Z).toList = Z.toList.take k ++ l ++ Z.toList.drop (k + l.length) := by
  induction l with
  | nil => intro k Z _; simp
  | cons a l ih =>
    intro k Z h
    rw [List.length_cons] at h
    rw [List.zipIdx_cons, List.foldl_cons, ih (k + 1) _ (by simp; omega)]
    have hk : k < Z.toList.length := by simp; omega
    rw [Array.toList_setIfInBounds]
    have e1 : (Z.toList.set k a).take (k + 1) = Z.toList.take k ++ [a] := by
      rw [List.take_succ_eq_append_getElem (by rw [List.length_set]; exact hk), List.take_set_of_le (Nat.le_refl _), List.getElem_set_self]
    have e2 : (Z.toList.set k a).drop (k + 1 + l.length) = Z.toList.drop (k + (l.length + 1)) := by
      rw [List.drop_set_of_lt (by omega)]
      congr 1; omega
    rw [e1, e2, List.length_cons]
    simp
/-- One part that is as long as all. -/
theorem fill_whole (Z C : Array Value) (hs : C.size = Z.size) : Instr.fill (fun k => some (k * Z.size, Z.size)) Z [(0, .agg C)] = some C := by
  have e : (Value.agg C).cells = C := rfl
  have h1 : ¬ (C.size ≠ Z.size ∨ 0 * Z.size + C.size > Z.size) := by omega
  unfold Instr.fill
  simp only [e]
  rw [if_neg (by simp [hs])]
  unfold Instr.fill
  congr 1
  have := fill_aux C.toList 0 Z (by simp; omega)
  apply Array.toList_inj.1
  have e2 : (C.zipIdx.foldl (fun cs (p : Value × Nat) => cs.setIfInBounds (0 * Z.size + p.2) p.1) Z) = ((C.toList.zipIdx 0).foldl (fun cs (p : Value × Nat) => cs.setIfInBounds p.2 p.1) Z) := by
    rw [← Array.foldl_toList, Array.toList_zipIdx]
    congr 1
    funext cs p
    rw [Nat.zero_mul, Nat.zero_add]
  show (C.zipIdx.foldl (fun cs (p : Value × Nat) => cs.setIfInBounds (0 * Z.size + p.2) p.1) Z).toList = _
  rw [e2, this]
  simp [hs]

theorem fills_one {size : Nat} {Z C : Array Value} (hs : C.size = size) : FillsTo size 1 Z [(0, .agg C)] C := by
  have h := fill_whole (madeCells Z (1 * size)) C (by rw [hs, size_madeCells]; omega)
  rw [size_madeCells, Nat.one_mul] at h
  unfold FillsTo
  rw [Nat.one_mul]
  exact h

/-! ### A slice of entries out of its entries -/
theorem enL_split (L : List Ent) (h : ∀ e ∈ L, e.C.size = 33) (j : Nat) (hj : j < L.length * 33) : ∃ k i, ∃ hk : k < L.length, i < 33 ∧ j = k * 33 + i ∧ (enL L)[j]? = (L[k]).C[i]? := by
  have hk : j / 33 < L.length := by omega
  refine ⟨j / 33, j % 33, hk, Nat.mod_lt _ (by decide), by omega, ?_⟩
  have := enL_get L h (j / 33) hk (j % 33) (Nat.mod_lt _ (by decide))
  rw [← this]
  congr 1
  omega
theorem rd_of_ranges {w : World} {B g o n : Nat} {L : List Ent} (h : ∀ e ∈ L, e.C.size = 33) (hg : g < B) (hn : n = L.length) (hr : ∀ k (hk : k < L.length), w.rangeAt g (o + k * 33) (L[k]).C.toList) : Rd w B 33 (some ⟨g, o, none⟩) n (enL L) := by
  subst hn
  refine ⟨enL_len L h, fun _ => ⟨g, o, rfl, hg, fun j hj => ?_⟩⟩
  rw [enL_len L h] at hj
  obtain ⟨k, i, hk, hi, rfl, e⟩ := enL_split L h j hj
  have hs := h _ (List.getElem_mem hk)
  have hi2 : i < (L[k]).C.size := by omega
  rw [e, ← Nat.add_assoc]
  rw [hr k hk i ((L[k]).C[i]) (by simp [hi2])]
  exact (Array.getElem?_eq_getElem hi2).symm
theorem ranges_of_rd {w : World} {B g o : Nat} {L : List Ent} (h : ∀ e ∈ L, e.C.size = 33) (hr : Rd w B 33 (some ⟨g, o, none⟩) L.length (enL L)) (k : Nat) (hk : k < L.length) : w.rangeAt g (o + k * 33) (L[k]).C.toList := by
  obtain ⟨b, off, e, _, hc⟩ := rd_e h hr k hk
  injection e with e
  injection e with e1 e2
  rw [e1, e2]; exact hc
theorem blk_rd_e {w : World} {g t : Nat} {cs : Array Value} {fr : Nat × Nat} {L : List Ent} (h : ∀ e ∈ L, e.C.size = 33) (hg : w.heap[g]? = some (.cells cs t fr)) (hc : cs.toList.take (L.length * 33) = enL L) : Rd w w.heap.size 33 (some ⟨g, 0, none⟩) L.length (enL L) := by
  refine ⟨enL_len L h, fun _ => ⟨g, 0, rfl, blk_lt hg, fun j hj => ?_⟩⟩
  rw [enL_len L h] at hj
  rw [← hc, List.getElem?_take_of_lt hj, Nat.zero_add, blk_cell hg j]
  simp

theorem below_setCells23 {B b : Nat} {a : World} (hb : B ≤ b) : ∀ (vs : List Value) (o : Nat) (w : World), Below B a w → Below B a (w.setCells b o vs)
  | [], _, _, h => h
  | v :: vs, o, _, h => below_setCells23 hb vs (o + 1) _ (h.setCell (p := ⟨b, o, none⟩) hb v)
theorem size_setCells23 (b : Nat) : ∀ (vs : List Value) (o : Nat) (w : World), (w.setCells b o vs).heap.size = w.heap.size
  | [], _, _ => rfl
  | v :: vs, o, w => by
    show ((w.setCell ⟨b, o, none⟩ v).setCells b (o + 1) vs).heap.size = _
    rw [size_setCells23 b vs]
    simp
theorem heap_setCells_other23 {b k : Nat} (hk : k ≠ b) : ∀ (vs : List Value) (o : Nat) (w : World), (w.setCells b o vs).heap[k]? = w.heap[k]?
  | [], _, _ => rfl
  | v :: vs, o, w => by
    show ((w.setCell ⟨b, o, none⟩ v).setCells b (o + 1) vs).heap[k]? = _
    rw [heap_setCells_other23 hk vs]
    exact blk_far rfl hk _
theorem there_of_blk {w : World} {g t : Nat} {cs : Array Value} (h : w.heap[g]? = some (.cells cs t (0, 0))) (o n : Nat) (ho : o + n ≤ cs.size) : w.there g o n := fun j hj => by
  refine ⟨?_, blk_free h _⟩
  rw [blk_cell h, Array.getElem?_eq_getElem (by omega)]; rfl
/-- An entry stored into a slice of entries. -/
theorem rd_store {w : World} {B g k : Nat} {L : List Ent} {e : Ent} (h : ∀ e ∈ L, e.C.size = 33) (he : e.C.size = 33) (hr : Rd w B 33 (some ⟨g, 0, none⟩) L.length (enL L)) (hk : k < L.length) (hth : w.there g (k * 33) 33) : Rd (w.setCells g (k * 33) e.C.toList) B 33 (some ⟨g, 0, none⟩) L.length (enL (L.set k e)) := by
  obtain ⟨b, off, e1, hgb, _⟩ := hr.pos (by omega)
  injection e1 with e1
  injection e1 with e1 e2
  subst e1 e2
  have hl : e.C.toList.length = 33 := by simpa using he
  refine rd_of_ranges (fun x hx => ?_) hgb (by rw [List.length_set]) (fun i hi => ?_)
  · rcases List.mem_or_eq_of_mem_set hx with h1 | h1
    · exact h x h1
    · rw [h1]; exact he
  · rw [Nat.zero_add]
    by_cases e3 : i = k
    · subst e3
      rw [List.getElem_set_self]
      exact World.rangeAt_setCells_same _ _ _ _ (by rw [hl]; exact hth)
    · rw [List.length_set] at hi
      rw [List.getElem_set_ne (fun e4 => e3 e4.symm)]
      have h2 := ranges_of_rd h hr i hi
      rw [Nat.zero_add] at h2
      have hli : (L[i]).C.toList.length = 33 := by simpa using h _ (List.getElem_mem hi)
      refine World.rangeAt_setCells_apart h2 _ _ _ (.inr ?_)
      rw [hl, hli]
      omega

end Go.Proofs.YtchklobblkddhaaGreatDoor
