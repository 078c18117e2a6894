/- append of new zero elements (append of a make) onto a new slice without elements. No program stands in this text. -/
import Derived.Test.YtkkemdjeobnpfaaDoorAppend
namespace Go.Proofs.YtkkemdjeobnpfaaDoor
open Go.RowKit

section
variable {P : Program} {w : World}
theorem run_append_zeros (t ti ty e : TypeId) (i : TypeInfo) (z : Value) (k : IntKind) (ht : P.underlying t = some (.slice e)) (hti : P.underlying ti = some (.int k)) (hi : P.info? e = some i) (hz : i.zero = some z)
    (b : Addr) (n : Nat) (hn0 : 0 < n) (hsz : 0 < i.size) (hn : n ≤ 65536) (hby : i.bytes ≤ 65536) :
    (Builtin.append_ #[t, ti] ty #[.slice (some b) 0 0, .int .i64 (n : Int)]).run P w =
      .ok (.slice (some ⟨w.heap.size, 0, none⟩) n (grownCap w n 0 e)) (w.drew.alloc (.cells (Builtin.zeroCells z.cells n ++ Builtin.zeroCells z.cells (grownCap w n 0 e - n)) e)) := by
  have h1 : IntKind.i64.wrap (n : Int) = (n : Int) := IntWalk.i64_in _ (by omega)
  have h2 : ¬ ((n : Int) < 0) := by omega
  have hmul : n * i.bytes ≤ 65536 * 65536 := Nat.mul_le_mul hn hby
  have h3 : ¬ (281474976710656 < (n : Int) * (i.bytes : Int)) := by
    have : ((n * i.bytes : Nat) : Int) ≤ 4294967296 := by omega
    rw [Int.natCast_mul] at this
    omega
  have h4 : ¬ (n * i.size = 0) := Nat.pos_iff_ne_zero.1 (Nat.mul_pos hn0 hsz)
  have h5 : ¬ (n ≤ 0) := by omega
  have h6 : ¬ (9223372036854775807 < (n : Int)) := by omega
  have h7 : Builtin.nextslicecap n 0 = n := by
    unfold Builtin.nextslicecap
    rw [if_pos (by omega)]
  have h8 : ¬ (281474976710656 < n * i.bytes) := by omega
  have h9 : n ≠ 0 := by omega
  simp [Builtin.append_, asInt, asIntOf, run_underlying ht, run_underlying hti, sizeOf, typeInfo, zeroValue, hi, hz, h1, h2, h3, h6, h7, h8, h9, Question.forced, Builtin.firstCells, loadCells, loadCellsFrom, newRow, grownCap]
  exact fun h => absurd h h4

theorem wpList_append_zeros {ops : Array Oper} {rest : List Oper} {o : Oper} {a : Act} {Q : Exit → Act → World → Prop} (hgd : o.guard = none) (s x : Operand) (t ti : TypeId)
    (ho : o.op = .call { callee := .builtin .append, args := #[s, x], argTypes := #[t, ti] })
    (base : Nat) (e : TypeId) (i : TypeInfo) (z : Value) (k : IntKind) (ht : P.underlying t = some (.slice e)) (hti : P.underlying ti = some (.int k)) (hi : P.info? e = some i) (hz : i.zero = some z)
    (hzs : z.cells.size = i.size) (b : Addr) (n : Nat) (hs : a.eval s = .slice (some b) 0 0) (hx : a.eval x = .int .i64 (n : Int)) (hn0 : 0 < n) (hsz : 0 < i.size) (hn : n ≤ 65536) (hby : i.bytes ≤ 65536) (hbase : base ≤ w.heap.size)
    (h : ∀ v' w', w'.ownsRow base e i.size v' n (Builtin.zeroCells z.cells n).toList → Below w.heap.size w w' → wpList P ops Q rest (a.put o.dst v') w') :
    wpList P ops Q (o :: rest) a w := by
  refine wpList_plain hgd fun K hK => ?_
  have hrun := run_append_zeros (P := P) (w := w) t ti o.type e i z k ht hti hi hz b n hn0 hsz hn hby
  unfold Oper.wp
  simp [execOp, ho, resolve, invoke, builtin, hs, hx, hrun, Result.andThen]
  refine hK _ _ (h _ _ ⟨?_, .inr ⟨w.heap.size, _, _, rfl, hbase, heap_alloc_new w.drew _, grownCap_ge w n 0 e, grownCap_le_maxLen w n 0 e (by unfold maxLen; omega), ?_, ?_⟩⟩ ?_)
  · simp [size_zeroCells, hzs]
  · have := grownCap_ge w n 0 e
    simp only [Array.size_append, size_zeroCells, hzs, ← Nat.add_mul]
    congr 1
    omega
  · have e1 : (Builtin.zeroCells z.cells n).toList.length = n * i.size := by simp [size_zeroCells, hzs]
    rw [Array.toList_append, ← e1]
    exact List.take_left
  · exact ((Below.refl w.heap.size w).drew).alloc (Nat.le_refl _) _
end

end Go.Proofs.YtkkemdjeobnpfaaDoor
