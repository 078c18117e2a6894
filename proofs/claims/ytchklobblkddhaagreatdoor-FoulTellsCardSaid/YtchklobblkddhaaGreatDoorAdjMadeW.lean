/- The walks of outcome and Made of layer 22's statements. -/
import Derived.Test.YtchklobblkddhaaGreatDoorAdjAwakeW
namespace Go.Proofs.YtchklobblkddhaaGreatDoor
open Go.RowKit

/-- The outcome of two numbers. -/
def outO (b t : Int) : Oc := if b % 211 = 210 then zO else ⟨1 + b % 211 / 30, b % 211 / 6 % 5, b % 211 % 3, (b + t) % 4, t % 14, 0⟩
theorem outO_ok (b t : Int) : OcOk (outO b t) := by
  unfold outO
  split
  · unfold OcOk zO; decide
  · unfold OcOk
    dsimp only
    omega
theorem outO_w (b t : Int) : (outO b t).w = 0 := by unfold outO; split <;> rfl
theorem outO_out (b t : Int) : outB (outO b t) = true := by
  unfold outO
  split
  · decide
  · unfold outB resultC rightC
    dsimp only
    refine decide_eq_true ⟨decide_eq_true (Or.inr (by omega)), by omega, by omega, Or.inl (by omega)⟩

/-- An entry in small numbers. -/
structure SmE where
  k : Int
  f : Int
  a : Int
  b : Nat → Int
  t : Nat → Int
  v : Nat → Int
def SmE.Ok (x : SmE) : Prop := (0 ≤ x.k ∧ x.k ≤ 255) ∧ (0 ≤ x.f ∧ x.f ≤ 255) ∧ (0 ≤ x.a ∧ x.a ≤ 255) ∧ (∀ i, 0 ≤ x.b i ∧ x.b i ≤ 255) ∧ (∀ i, 0 ≤ x.t i ∧ x.t i ≤ 255) ∧ (∀ i, 0 ≤ x.v i ∧ x.v i ≤ 255)
def smA (x : SmE) : Array Value := #[.int .u8 x.k, .int .u8 x.f, .int .u8 x.a, .int .u8 (x.b 0), .int .u8 (x.b 1), .int .u8 (x.b 2), .int .u8 (x.b 3), .int .u8 (x.t 0), .int .u8 (x.t 1), .int .u8 (x.t 2), .int .u8 (x.t 3), .int .u8 (x.v 0), .int .u8 (x.v 1), .int .u8 (x.v 2)]
def upd (o : Nat → Oc) (i : Nat) (x : Oc) : Nat → Oc := fun j => if j = i then x else o j
/-- What is left for the outcomes from i on, of n. -/
def leftM (v : Nat → Int) (n : Nat) : Nat → Int
  | 0 => 100
  | i + 1 => leftM v n i - (if i + 1 < n then 1 + v i % (leftM v n i - ((n : Int) - 1 - i)) else leftM v n i)
def wgtM (v : Nat → Int) (n i : Nat) : Int := if i + 1 < n then 1 + v i % (leftM v n i - ((n : Int) - 1 - i)) else leftM v n i
theorem leftM_succ (v : Nat → Int) (n i : Nat) : leftM v n (i + 1) = leftM v n i - wgtM v n i := rfl
theorem leftM_bd (v : Nat → Int) (n : Nat) (hn : n ≤ 4) (i : Nat) (h : i < n) : (n : Int) - i ≤ leftM v n i ∧ leftM v n i ≤ 100 := by
  induction i with
  | zero => show (n : Int) - 0 ≤ 100 ∧ (100 : Int) ≤ 100; omega
  | succ i ih =>
    have h1 := ih (by omega)
    rw [leftM_succ]
    unfold wgtM
    rw [if_pos h]
    have h2 := Int.emod_nonneg (v i) (show leftM v n i - ((n : Int) - 1 - i) ≠ 0 by omega)
    have h3 := Int.emod_lt_of_pos (v i) (show 0 < leftM v n i - ((n : Int) - 1 - i) by omega)
    omega
theorem wgtM_bd (v : Nat → Int) (n : Nat) (hn : n ≤ 4) (i : Nat) (h : i < n) : 1 ≤ wgtM v n i ∧ wgtM v n i ≤ 100 := by
  have h1 := leftM_bd v n hn i h
  unfold wgtM
  split
  · have h2 := Int.emod_nonneg (v i) (show leftM v n i - ((n : Int) - 1 - i) ≠ 0 by omega)
    have h3 := Int.emod_lt_of_pos (v i) (show 0 < leftM v n i - ((n : Int) - 1 - i) by omega)
    omega
  · omega
def nM (x : SmE) : Nat := (2 + x.v 0 % 3).toNat
/-- The first k outcomes of a weighted entry. -/
def wghO (x : SmE) (n k : Nat) : Nat → Oc := fun i => if i < k then { outO (x.b i) (x.t i) with w := wgtM x.v n i } else zO
def madeO (x : SmE) : Nat → Oc :=
  if x.k % 5 = 1 then upd ex0 0 (outO (x.b 0) (x.t 0)) else if x.k % 5 = 3 then upd (upd ex0 0 (outO (x.b 0) (x.t 0))) 1 (outO (x.b 1) (x.t 1)) else if x.k % 5 = 2 then wghO x (nM x) (nM x) else ex0
def awT (i : Int) : Int := if i = 0 then 0 else if i = 1 then 30 else if i = 2 then 40 else if i = 3 then 50 else if i = 4 then 60 else if i = 5 then 70 else 100
def madeA0 (x : SmE) : Int := if x.k % 5 = 4 then awT (x.a % 7) else 0
def madeA1 (x : SmE) : Int := if x.k % 5 = 4 then awT (x.a / 7 % 7) else 0
/-- The entry that Made makes. -/
def madeC (x : SmE) : Array Value := enCells (x.k % 5) (x.f % 4) (madeO x) (madeA0 x) (madeA1 x)

theorem enCells_set (k f : Int) (o : Nat → Oc) (a0 a1 : Int) (i : Nat) (hi : i < 4) (x : Oc) :
    ((((((enCells k f o a0 a1).setIfInBounds (7 + i * 6) (.int .u8 x.l)).setIfInBounds (7 + i * 6 + 1) (.int .u8 x.d)).setIfInBounds (7 + i * 6 + 2) (.int .u8 x.r)).setIfInBounds (7 + i * 6 + 3) (.int .u8 x.s)).setIfInBounds (7 + i * 6 + 4) (.int .i64 x.t)).setIfInBounds (7 + i * 6 + 5) (.int .i64 x.w) = enCells k f (upd o i x) a0 a1 := by
  obtain rfl | rfl | rfl | rfl : i = 0 ∨ i = 1 ∨ i = 2 ∨ i = 3 := by omega
  all_goals simp [enCells, upd]
theorem enCells_wgt (k f : Int) (o : Nat → Oc) (a0 a1 : Int) (i : Nat) (hi : i < 4) (y : Int) :
    (enCells k f o a0 a1).setIfInBounds (7 + i * 6 + 5) (.int .i64 y) = enCells k f (upd o i { o i with w := y }) a0 a1 := by
  obtain rfl | rfl | rfl | rfl : i = 0 ∨ i = 1 ∨ i = 2 ∨ i = 3 := by omega
  all_goals simp [enCells, upd]
theorem enCells_congr (k f : Int) (o o' : Nat → Oc) (a0 a1 : Int) (h : ∀ i, i < 4 → o i = o' i) : enCells k f o a0 a1 = enCells k f o' a0 a1 := by
  unfold enCells
  rw [h 0 (by decide), h 1 (by decide), h 2 (by decide), h 3 (by decide)]
theorem wgh_succ (x : SmE) (n k : Nat) (i : Nat) : upd (upd (wghO x n k) k (outO (x.b k) (x.t k))) k { outO (x.b k) (x.t k) with w := wgtM x.v n k } i = wghO x n (k + 1) i := by
  unfold upd wghO
  by_cases h : i = k
  · subst h; rw [if_pos rfl, if_pos (by omega)]
  · rw [if_neg h, if_neg h]
    by_cases h2 : i < k
    · rw [if_pos h2, if_pos (by omega)]
    · rw [if_neg h2, if_neg (by omega)]

end Go.Proofs.YtchklobblkddhaaGreatDoor
