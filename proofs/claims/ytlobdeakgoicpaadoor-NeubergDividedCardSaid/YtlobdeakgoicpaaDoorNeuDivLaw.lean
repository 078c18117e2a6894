/- Plain laws of a board that is divided into two fields. -/
import Derived.Test.YtlobdeakgoicpaaDoorNeuLaw
import Derived.Shelf.Spec.TrailingZeros
namespace Go.Proofs.YtlobdeakgoicpaaDoor
open Go.RowKit

/-- The field of a result. -/
def bitOf (bits i : Nat) : Nat := bits / 2 ^ i % 2
theorem bitOf_lt (bits i : Nat) : bitOf bits i = 0 ∨ bitOf bits i = 1 := by unfold bitOf; omega
/-- The results of a field, of the first k. -/
def partL (bits b : Nat) (L : List (List Pt)) : Nat → List (List Pt)
  | 0 => []
  | k + 1 => partL bits b L k ++ if bitOf bits k = b then [L.getD k []] else []
theorem part_len (bits : Nat) (L : List (List Pt)) (k : Nat) : (partL bits 0 L k).length + (partL bits 1 L k).length = k := by
  induction k with
  | zero => rfl
  | succ k ih =>
    unfold partL
    rw [List.length_append, List.length_append]
    rcases bitOf_lt bits k with h | h <;> rw [h] <;> simp <;> omega
theorem part_right (bits b : Nat) (L : List (List Pt)) (hL : ∀ o ∈ L, rightM o = true) (k : Nat) (hk : k ≤ L.length) : ∀ o ∈ partL bits b L k, rightM o = true := by
  induction k with
  | zero => intro o ho; cases ho
  | succ k ih =>
    intro o ho
    unfold partL at ho
    rcases List.mem_append.1 ho with h | h
    · exact ih (by omega) o h
    · split at h
      · rw [List.mem_singleton.1 h, List.getD_eq_getElem?_getD, List.getElem?_eq_getElem (by omega)]
        exact hL _ (List.getElem_mem _)
      · cases h
theorem add_whole (x y : Int) : addF (x, 1) (y, 1) = (x + y, 1) := by
  rw [← whole_frD x 1 (by decide), ← whole_frD y 1 (by decide), add_frD _ _ _ (by decide), ← whole_frD (x + y) 1 (by decide)]
  congr 1
  omega
theorem div_total (a b : Nat) (N : Int) (h : ((a + b : Nat) : Int) = N) : addF (addF (0, 1) ((a : Int) * (N - 1), 1)) ((b : Int) * (N - 1), 1) = (N * (N - 1), 1) := by
  rw [add_whole, add_whole, Int.zero_add, ← Int.add_mul, ← h, Int.natCast_add]

/-- 'e & 1' on a uint32 is 'e % 2'. -/
theorem and_one_u32 (E : Int) (h0 : 0 ≤ E) (h1 : E ≤ 4294967295) : Go.bits BinOp.and IntKind.u32 E 1 = E % 2 := by
  have h := bits_and_u32_nat E.toNat 1 (by omega) (by omega)
  rw [Nat.and_one_is_mod, Int.toNat_of_nonneg h0] at h
  have h2 : ((E.toNat % 2 : Nat) : Int) = E % 2 := by omega
  exact h.trans h2

end Go.Proofs.YtlobdeakgoicpaaDoor
