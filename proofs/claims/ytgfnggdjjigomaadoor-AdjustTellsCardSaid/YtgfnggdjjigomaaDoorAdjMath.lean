/- Outcomes and the contents of entries, in plain Lean. -/
import Derived.Test.YtgfnggdjjigomaaDoorScoMath
namespace Go.Proofs.YtgfnggdjjigomaaDoor
open Go.RowKit

/-- An outcome: level, denomination, risk, declarer, tricks, weight. -/
structure Oc where
  l : Int
  d : Int
  r : Int
  s : Int
  t : Int
  w : Int
/-- The zero outcome. -/
def zB (x : Oc) : Bool := decide (x.l = 0 ∧ x.d = 0 ∧ x.r = 0 ∧ x.s = 0 ∧ x.t = 0 ∧ x.w = 0)
/-- It is played out. -/
def outB (x : Oc) : Bool := resultC x.l x.d x.r x.s x.t
def wholeB (x : Oc) : Bool := outB x && decide (x.w = 0)
/-- All outcomes from one on are zero. -/
def restB (o : Nat → Oc) (n : Nat) : Bool := (List.range 4).all fun i => decide (i < n) || zB (o i)
theorem restB_iff (o : Nat → Oc) (n : Nat) : restB o n = true ↔ ∀ i, i < 4 → n ≤ i → zB (o i) = true := by
  unfold restB
  rw [List.all_eq_true]
  constructor
  · intro h i h4 hn
    have := h i (List.mem_range.2 h4)
    rcases Bool.or_eq_true_iff.1 this with h1 | h1
    · have := of_decide_eq_true h1; omega
    · exact h1
  · intro h i hi
    have h4 := List.mem_range.1 hi
    by_cases hn : i < n
    · rw [decide_eq_true hn]; rfl
    · rw [h i h4 (by omega), Bool.or_true]
/-- How many of the first outcomes have a weight. -/
def partsTo (o : Nat → Oc) : Nat → Nat
  | 0 => 0
  | n + 1 => if partsTo o n = n ∧ (o n).w ≠ 0 then n + 1 else partsTo o n
def partsN (o : Nat → Oc) : Nat := partsTo o 4
def okW (x : Oc) : Bool := outB x && decide (1 ≤ x.w) && decide (x.w ≤ 100)
def wSum (o : Nat → Oc) : Nat → Int
  | 0 => 0
  | n + 1 => wSum o n + (o n).w
def allW (o : Nat → Oc) (n : Nat) : Bool := (List.range n).all fun i => okW (o i)
def weightedB (o : Nat → Oc) (a0 a1 : Int) : Bool := allW o (partsN o) && (decide (2 ≤ partsN o) && decide (wSum o (partsN o) = 100) && restB o (partsN o) && decide (a0 = 0 ∧ a1 = 0))
def shareB (n : Int) : Bool := decide (n = 0 ∨ n = 30 ∨ n = 40 ∨ n = 50 ∨ n = 60 ∨ n = 70 ∨ n = 100)
def voidB (o : Nat → Oc) (a0 a1 : Int) : Bool := restB o 0 && decide (a0 = 0 ∧ a1 = 0)
def playedB (o : Nat → Oc) (a0 a1 : Int) : Bool := wholeB (o 0) && restB o 1 && decide (a0 = 0 ∧ a1 = 0)
def splitB (o : Nat → Oc) (a0 a1 : Int) : Bool := wholeB (o 0) && wholeB (o 1) && restB o 2 && decide (a0 = 0 ∧ a1 = 0)
def awardB (o : Nat → Oc) (a0 a1 : Int) : Bool := shareB a0 && shareB a1 && restB o 0
/-- The content of an entry is right. -/
def rightE (k f : Int) (o : Nat → Oc) (a0 a1 : Int) : Bool :=
  decide (f ≤ 3) && (if k = 0 then voidB o a0 a1 else if k = 1 then playedB o a0 a1 else if k = 2 then weightedB o a0 a1 else if k = 3 then splitB o a0 a1 else if k = 4 then awardB o a0 a1 else false)

/-- The cells of an entry. -/
def EnC (C : Array Value) (k f : Int) (o : Nat → Oc) (a0 a1 : Int) : Prop :=
  C.size = 33 ∧ C[4]? = some (.int .u8 k) ∧ C[5]? = some (.int .u8 f) ∧ C[31]? = some (.int .i64 a0) ∧ C[32]? = some (.int .i64 a1) ∧
  ∀ i, i < 4 → C[7 + i * 6]? = some (.int .u8 (o i).l) ∧ C[7 + i * 6 + 1]? = some (.int .u8 (o i).d) ∧ C[7 + i * 6 + 2]? = some (.int .u8 (o i).r) ∧ C[7 + i * 6 + 3]? = some (.int .u8 (o i).s) ∧ C[7 + i * 6 + 4]? = some (.int .i64 (o i).t) ∧ C[7 + i * 6 + 5]? = some (.int .i64 (o i).w)
def OcOk (x : Oc) : Prop := (0 ≤ x.l ∧ x.l ≤ 255) ∧ (0 ≤ x.d ∧ x.d ≤ 255) ∧ (0 ≤ x.r ∧ x.r ≤ 255) ∧ (0 ≤ x.s ∧ x.s ≤ 255) ∧ (-9223372036854775808 ≤ x.t ∧ x.t ≤ 9223372036854775807) ∧ (-9223372036854775808 ≤ x.w ∧ x.w ≤ 9223372036854775807)
/-- An outcome as a value. -/
def ocV (x : Oc) : Value := .agg #[.int .u8 x.l, .int .u8 x.d, .int .u8 x.r, .int .u8 x.s, .int .i64 x.t, .int .i64 x.w]

end Go.Proofs.YtgfnggdjjigomaaDoor
