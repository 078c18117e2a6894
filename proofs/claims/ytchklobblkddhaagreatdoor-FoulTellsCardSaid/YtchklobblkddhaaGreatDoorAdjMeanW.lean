/- The walks of adjust.mean, Mean. The walks of adjust.Mean. -/
import Derived.Test.YtchklobblkddhaaGreatDoorAdjSideW2
import Derived.Test.YtchklobblkddhaaGreatDoorFracMulW
import Derived.RegionTactic
import Derived.ChangeAlike
namespace Go.Proofs.YtchklobblkddhaaGreatDoor
open Go.RowKit

/-! ### The walks of adjust.mean, Mean. -/
/-- The points on average. -/
def meanS (l : List Pt) : Int := sumF l fun p => p.1 * p.2
def meanF (l : List Pt) : Pt := fr (meanS l) 100
theorem sumTo_abs (l : List Pt) (f : Pt → Int) (B : Int) (hf : ∀ p ∈ l, -B ≤ f p ∧ f p ≤ B) (k : Nat) (h : k ≤ l.length) : -(B * k) ≤ sumTo l f k ∧ sumTo l f k ≤ B * k := by
  induction k with
  | zero => simp [sumTo]
  | succ k ih =>
    have := ih (by omega)
    have := hf l[k] (List.getElem_mem (by omega))
    rw [sumTo_succ l f k (by omega)]
    have e : B * ((k + 1 : Nat) : Int) = B * k + B := by rw [Int.natCast_add, Int.mul_add]; simp
    omega
theorem prod_bd (p : Pt) (h : okPt p = true) : -1000000 ≤ p.1 * p.2 ∧ p.1 * p.2 ≤ 1000000 := by
  obtain ⟨⟨h1, h2⟩, h3, h4⟩ := (okPt_iff p).1 h
  constructor
  · have : (-p.1) * p.2 ≤ 10000 * 100 := by
      by_cases hn : 0 ≤ -p.1
      · exact Int.mul_le_mul (by omega) h2 (by omega) (by omega)
      · have : (-p.1) * p.2 ≤ 0 := Int.mul_nonpos_of_nonpos_of_nonneg (by omega) (by omega)
        omega
    rw [Int.neg_mul] at this; omega
  · by_cases hn : 0 ≤ p.1
    · have := Int.mul_le_mul (show p.1 ≤ 10000 by omega) h2 (by omega) (by omega); omega
    · have : p.1 * p.2 ≤ 0 := Int.mul_nonpos_of_nonpos_of_nonneg (by omega) (by omega)
      omega
theorem meanS_bd (l : List Pt) (h : rightM l = true) : -4000000 ≤ meanS l ∧ meanS l ≤ 4000000 := by
  obtain ⟨_, h4, hok, _⟩ := (rightM_iff l).1 h
  have := sumTo_abs l (fun p => p.1 * p.2) 1000000 (fun p hp => prod_bd p (hok p hp)) l.length (Nat.le_refl _)
  rw [sumTo_all] at this
  unfold meanS
  omega

/-! ### The walks of adjust.Mean. -/
/-- Sides fails at an entry. -/
def SidesErr (C : Array Value) (vul E : Int) : Prop := ∀ W : World, LaidS W → Calls Tryz.prog 30 #[.agg C, .int .u8 vul] W fun e w' => e = .returned (.tuple #[.slice none 0 0, .slice none 0 0, .int .i64 E]) ∧ Below W.heap.size W w'

end Go.Proofs.YtchklobblkddhaaGreatDoor
