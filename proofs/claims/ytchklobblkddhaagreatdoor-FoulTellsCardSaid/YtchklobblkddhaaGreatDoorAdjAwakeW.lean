/- The walks of the helpers of layer 22's statements: q, is, spades, awake. (Written by genawake22.py.) -/
import Derived.Test.YtchklobblkddhaaGreatDoorAdjAwardW
import Derived.Deep.WholeRow
namespace Go.Proofs.YtchklobblkddhaaGreatDoor
open Go.RowKit

/-! ### Entries of up to two outcomes -/
def zO : Oc := ⟨0, 0, 0, 0, 0, 0⟩
def oo (a b : Oc) : Nat → Oc
  | 0 => a
  | 1 => b
  | _ => zO
/-- The cells of an entry. -/
def enCells (k f : Int) (o : Nat → Oc) (a0 a1 : Int) : Array Value :=
  #[.int .i64 0, .int .i64 0, .int .i64 0, .int .i64 0, .int .u8 k, .int .u8 f, .bool false, .int .u8 (o 0).l, .int .u8 (o 0).d, .int .u8 (o 0).r, .int .u8 (o 0).s, .int .i64 (o 0).t, .int .i64 (o 0).w, .int .u8 (o 1).l, .int .u8 (o 1).d, .int .u8 (o 1).r, .int .u8 (o 1).s, .int .i64 (o 1).t, .int .i64 (o 1).w, .int .u8 (o 2).l, .int .u8 (o 2).d, .int .u8 (o 2).r, .int .u8 (o 2).s, .int .i64 (o 2).t, .int .i64 (o 2).w, .int .u8 (o 3).l, .int .u8 (o 3).d, .int .u8 (o 3).r, .int .u8 (o 3).s, .int .i64 (o 3).t, .int .i64 (o 3).w, .int .i64 a0, .int .i64 a1]
theorem enCells_ok (k f : Int) (o : Nat → Oc) (a0 a1 : Int) : EnC (enCells k f o a0 a1) k f o a0 a1 := by
  refine ⟨rfl, rfl, rfl, rfl, rfl, fun i hi => ?_⟩
  obtain rfl | rfl | rfl | rfl : i = 0 ∨ i = 1 ∨ i = 2 ∨ i = 3 := by omega
  all_goals exact ⟨rfl, rfl, rfl, rfl, rfl, rfl⟩
def fourA (o : Nat → Oc) : Array Value := #[.int .u8 (o 0).l, .int .u8 (o 0).d, .int .u8 (o 0).r, .int .u8 (o 0).s, .int .i64 (o 0).t, .int .i64 (o 0).w, .int .u8 (o 1).l, .int .u8 (o 1).d, .int .u8 (o 1).r, .int .u8 (o 1).s, .int .i64 (o 1).t, .int .i64 (o 1).w, .int .u8 (o 2).l, .int .u8 (o 2).d, .int .u8 (o 2).r, .int .u8 (o 2).s, .int .i64 (o 2).t, .int .i64 (o 2).w, .int .u8 (o 3).l, .int .u8 (o 3).d, .int .u8 (o 3).r, .int .u8 (o 3).s, .int .i64 (o 3).t, .int .i64 (o 3).w]
theorem enCells_one (k f : Int) (o : Nat → Oc) (a0 a1 : Int) : (enCells k f o a0 a1).all (·.oneCell') = true := by simp [enCells, Value.oneCell']

theorem wpList_build_to {P : Program} {ops : Array Oper} {rest : List Oper} {o : Oper} {a : Act} {w : World} {Q : Exit → Act → World → Prop} (hg : o.guard = none) (t : TypeId) (parts : Array (Nat × Operand)) (ho : o.op = .build t parts)
    (C : Array Value) (hf : P.built t (parts.map fun (i, x) => (i, a.eval x)).toList = some C)
    (h : wpList P ops Q rest (a.put o.dst (.agg C)) w) : wpList P ops Q (o :: rest) a w := by
  refine wpList_build hg t parts ho (by rw [hf]; rfl) ?_
  rw [hf]; exact h
/-- A value stored whole into the variable that was made last. -/
theorem wpList_store_new {P : Program} {ops : Array Oper} {rest : List Oper} {o : Oper} {a : Act} {w : World} {Q : Exit → Act → World → Prop} (hgd : o.guard = none) (ty : TypeId) (x y : Operand) (ho : o.op = .store ty x y)
    (cells : Array Value) (t : TypeId) (old : Array Value) (hx : a.eval x = .pointer (some ⟨w.heap.size, 0, none⟩)) (hy : a.eval y = .agg cells)
    (hi : (P.info? ty).map (·.size) = some cells.size) (hold : old.size = cells.size) (h1 : cells.all (·.oneCell') = true)
    (h : wpList P ops Q rest (a.put o.dst undef) (w.alloc (.cells cells t))) : wpList P ops Q (o :: rest) a (w.alloc (.cells old t)) := by
  refine wpList_store_row hgd ty x y ho w.heap.size cells hx hy t old (heap_alloc_last w _) hi hold h1 ?_
  rw [World.setRow_alloc_new]; exact h

def ex1 : Nat → Oc := oo ⟨2, 3, 0, 0, 8, 0⟩ zO
def ex2 : Nat → Oc := oo ⟨4, 3, 0, 0, 10, 60⟩ ⟨4, 3, 0, 0, 9, 40⟩
def ex3 : Nat → Oc := oo ⟨4, 3, 0, 0, 10, 0⟩ ⟨4, 3, 0, 0, 9, 0⟩
def ex0 : Nat → Oc := oo zO zO
theorem oo_ok {a b : Oc} (ha : OcOk a) (hb : OcOk b) : ∀ i, i < 4 → OcOk (oo a b i) := fun i _ => by
  match i with
  | 0 => exact ha
  | 1 => exact hb
  | n + 2 => exact (show OcOk zO by unfold OcOk zO; decide)

end Go.Proofs.YtchklobblkddhaaGreatDoor
