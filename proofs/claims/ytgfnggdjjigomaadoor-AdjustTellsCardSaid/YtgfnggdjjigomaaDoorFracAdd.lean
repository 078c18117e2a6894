/- The walks of the package frac: the sum of two fractions that are not too great. -/
import Derived.Test.YtgfnggdjjigomaaDoorFracW2
import Derived.Deep.CutBlock
import Derived.Deep.DeepMust
import Derived.Deep.DeepCutAuto
namespace Go.Proofs.YtgfnggdjjigomaaDoor
open Go.RowKit

/-- A fraction in lowest terms that is not too great. -/
def smF (f : Pt) : Prop := isF f ∧ (-1000000000 ≤ f.1 ∧ f.1 ≤ 1000000000) ∧ f.2 ≤ 1000000

/-- How two fractions add up: the sign, and how far the sum by the common divisor is from 0. -/
def addWay (p q : Bool) (P1 P2 : Nat) (sg : Bool) (M : Nat) : Prop :=
  (p = q ∧ sg = p ∧ M = P1 + P2) ∨ (p ≠ q ∧ P2 ≤ P1 ∧ sg = p ∧ M = P1 - P2) ∨ (p ≠ q ∧ P1 < P2 ∧ sg = q ∧ M = P2 - P1)

theorem add_plan (n m : Int) (a b : Nat) (hf : smF (n, (a : Int))) (hg : smF (m, (b : Int))) :
    ∃ (c x y P1 P2 M e X Y : Nat) (sg : Bool), Nat.gcd a b = c ∧ a / c = x ∧ b / c = y ∧ n.natAbs * y = P1 ∧ m.natAbs * x = P2 ∧ addWay (decide (n < 0)) (decide (m < 0)) P1 P2 sg M ∧ Nat.gcd c (M % c) = e ∧ M / e = X ∧ b / e = Y ∧
      addF (n, (a : Int)) (m, (b : Int)) = ((if sg then -(X : Int) else (X : Int)), ((x * Y : Nat) : Int)) ∧
      1 ≤ c ∧ c ≤ 1000000 ∧ x ≤ 1000000 ∧ y ≤ 1000000 ∧ P1 ≤ 1000000000000000 ∧ P2 ≤ 1000000000000000 ∧ M ≤ 2000000000000000 ∧ 1 ≤ e ∧ e ≤ 1000000 ∧ Y ≤ 1000000 ∧ x * Y ≤ 1000000000000 ∧ X ≤ 2000000000000000 ∧ n.natAbs ≤ 1000000000 ∧ m.natAbs ≤ 1000000000 ∧ 1 ≤ a ∧ a ≤ 1000000 ∧ 1 ≤ b ∧ b ≤ 1000000 := by
  obtain ⟨⟨ha1, hga⟩, hn, ha⟩ := hf
  obtain ⟨⟨hb1, hgb⟩, hm, hb⟩ := hg
  dsimp only at *
  obtain ⟨c, hc⟩ : ∃ c, Nat.gcd a b = c := ⟨_, rfl⟩
  obtain ⟨x, hx⟩ : ∃ x, a / c = x := ⟨_, rfl⟩
  obtain ⟨y, hy⟩ : ∃ y, b / c = y := ⟨_, rfl⟩
  have hc1 : 1 ≤ c := by rw [← hc]; exact Nat.gcd_pos_of_pos_left _ (by omega)
  have hca : c ≤ a := by rw [← hc]; exact Nat.gcd_le_left _ (by omega)
  have hxa : x ≤ a := by rw [← hx]; exact Nat.div_le_self _ _
  have hyb : y ≤ b := by rw [← hy]; exact Nat.div_le_self _ _
  obtain ⟨P1, hP1⟩ : ∃ P, n.natAbs * y = P := ⟨_, rfl⟩
  obtain ⟨P2, hP2⟩ : ∃ P, m.natAbs * x = P := ⟨_, rfl⟩
  have b1 : P1 ≤ 1000000000000000 := by rw [← hP1]; exact Nat.le_trans (Nat.mul_le_mul (show n.natAbs ≤ 1000000000 by omega) (show y ≤ 1000000 by omega)) (by decide)
  have b2 : P2 ≤ 1000000000000000 := by rw [← hP2]; exact Nat.le_trans (Nat.mul_le_mul (show m.natAbs ≤ 1000000000 by omega) (show x ≤ 1000000 by omega)) (by decide)
  have v1 : n * (y : Int) = if n < 0 then -(P1 : Int) else (P1 : Int) := by
    rw [← hP1, Int.natCast_mul]
    split
    · rw [show ((n.natAbs : Nat) : Int) = -n by omega, Int.neg_mul, Int.neg_neg]
    · rw [show ((n.natAbs : Nat) : Int) = n by omega]
  have v2 : m * (x : Int) = if m < 0 then -(P2 : Int) else (P2 : Int) := by
    rw [← hP2, Int.natCast_mul]
    split
    · rw [show ((m.natAbs : Nat) : Int) = -m by omega, Int.neg_mul, Int.neg_neg]
    · rw [show ((m.natAbs : Nat) : Int) = m by omega]
  obtain ⟨sg, M, hw, hs, hM⟩ : ∃ (sg : Bool) (M : Nat), addWay (decide (n < 0)) (decide (m < 0)) P1 P2 sg M ∧ (if sg then -(M : Int) else (M : Int)) = n * (y : Int) + m * (x : Int) ∧ M ≤ 2000000000000000 := by
    rw [v1, v2]
    unfold addWay
    by_cases h1 : n < 0 <;> by_cases h2 : m < 0
    · exact ⟨true, P1 + P2, .inl (by simp [h1, h2]), by simp [h1, h2]; omega, by omega⟩
    · by_cases h3 : P2 ≤ P1
      · exact ⟨true, P1 - P2, .inr (.inl (by simp [h1, h2, h3])), by simp [h1, h2]; omega, by omega⟩
      · exact ⟨false, P2 - P1, .inr (.inr (by simp [h1, h2]; omega)), by simp [h1, h2]; omega, by omega⟩
    · by_cases h3 : P2 ≤ P1
      · exact ⟨false, P1 - P2, .inr (.inl (by simp [h1, h2, h3])), by simp [h1, h2]; omega, by omega⟩
      · exact ⟨true, P2 - P1, .inr (.inr (by simp [h1, h2]; omega)), by simp [h1, h2]; omega, by omega⟩
    · exact ⟨false, P1 + P2, .inl (by simp [h1, h2]), by simp [h1, h2], by omega⟩
  obtain ⟨e, he⟩ : ∃ e, Nat.gcd c (M % c) = e := ⟨_, rfl⟩
  have hsa : (n * (y : Int) + m * (x : Int)).natAbs = M := by rw [← hs]; split <;> omega
  obtain ⟨k1, k2, k3, k4, -⟩ := knuth a b x y n m c hc.symm (by omega) (by omega) hga hgb hx.symm hy.symm _ rfl e (by rw [hsa]; exact he.symm)
  have hec : e ≤ c := by rw [← he]; exact Nat.gcd_le_left _ (by omega)
  have hY : b / e ≤ b := Nat.div_le_self _ _
  have hX : M / e ≤ M := Nat.div_le_self _ _
  refine ⟨c, x, y, P1, P2, M, e, M / e, b / e, sg, hc, hx, hy, hP1, hP2, hw, he, rfl, rfl, ?_, hc1, by omega, by omega, by omega, b1, b2, hM, k2, by omega, by omega, Nat.le_trans (Nat.mul_le_mul (show x ≤ 1000000 by omega) (show b / e ≤ 1000000 by omega)) (by decide), by omega, by omega, by omega, by omega, by omega, by omega, by omega⟩
  rw [k1, ← hs]
  refine Prod.ext ?_ rfl
  show (if sg then -(M : Int) else (M : Int)) / (e : Int) = _
  have hed : (e : Int) ∣ (M : Int) := by
    rw [← hs] at k4
    cases sg
    · exact k4
    · exact (Int.dvd_neg.1 k4)
  cases sg
  · show (M : Int) / (e : Int) = ((M / e : Nat) : Int)
    exact (Int.natCast_ediv _ _).symm
  · show -(M : Int) / (e : Int) = -((M / e : Nat) : Int)
    rw [Int.neg_ediv_of_dvd hed, Int.natCast_ediv]

end Go.Proofs.YtgfnggdjjigomaaDoor
