/- The walk of frac.Sum for fractions that are not too great, and Right, Add, Cmp by pairs. -/
import Derived.Test.YtgfnggdjjigomaaDoorFracCmp
import Derived.Test.YtgfnggdjjigomaaDoorMatW2
namespace Go.Proofs.YtgfnggdjjigomaaDoor
open Go.RowKit

theorem sm_form {f : Pt} (h : smF f) : ∃ (n : Int) (a : Nat), f = (n, (a : Int)) := ⟨f.1, f.2.toNat, by have := h.1.1; exact Prod.ext rfl (by show f.2 = _; omega)⟩

theorem right_sm (f : Pt) (hf : smF f) (w : World) : Calls Tryd.prog 49 #[fV f] w fun e w' => e = .returned (.bool true) ∧ Below w.heap.size w w' := by
  obtain ⟨n, a, rfl⟩ := sm_form hf
  exact right_low n a hf w

theorem add_sm (f g : Pt) (hf : smF f) (hg : smF g) (w : World) : Calls Tryd.prog 53 #[fV f, fV g, .bool (decide (g.1 < 0))] w fun e w' => e = .returned (.tuple #[fV (addF f g), .int .i64 0]) ∧ Below w.heap.size w w' := by
  obtain ⟨n, a, rfl⟩ := sm_form hf
  obtain ⟨m, b, rfl⟩ := sm_form hg
  exact add_low n m a b hf hg w

theorem fadd_sm (f g : Pt) (hf : smF f) (hg : smF g) (w : World) : Calls Tryd.prog 27 #[fV f, fV g] w fun e w' => e = .returned (.tuple #[fV (addF f g), .int .i64 0]) ∧ Below w.heap.size w w' := by
  obtain ⟨n, a, rfl⟩ := sm_form hf
  obtain ⟨m, b, rfl⟩ := sm_form hg
  exact fadd_low n m a b hf hg w

theorem fcmp_sm (f g : Pt) (hf : smF f) (hg : smF g) (w : World) : Calls Tryd.prog 25 #[fV f, fV g] w fun e w' => e = .returned (.tuple #[.int .i64 (cmpF f g), .int .i64 0]) ∧ Below w.heap.size w w' := by
  obtain ⟨n, a, rfl⟩ := sm_form hf
  obtain ⟨m, b, rfl⟩ := sm_form hg
  exact fcmp_low n m a b hf hg w

/-- The sum of the first fractions of a list. -/
def sumK (l : List Pt) (k : Nat) : Pt := (l.take k).foldl addF (0, 1)
theorem sumK_succ (l : List Pt) (k : Nat) (h : k < l.length) : sumK l (k + 1) = addF (sumK l k) l[k] := by
  unfold sumK; rw [List.take_succ_eq_append_getElem h, List.foldl_append]; rfl

end Go.Proofs.YtgfnggdjjigomaaDoor
