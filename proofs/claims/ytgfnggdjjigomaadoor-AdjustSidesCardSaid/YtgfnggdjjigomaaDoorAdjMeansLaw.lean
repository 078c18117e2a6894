/- Points on average lie between the least and the greatest points, in plain Lean. -/
import Derived.Test.YtgfnggdjjigomaaDoorAdjMadeLaw
namespace Go.Proofs.YtgfnggdjjigomaaDoor
open Go.RowKit

/-- The least and the greatest points of the first k parts, the first part's to begin with. -/
def loTo (l : List Pt) : Nat → Int
  | 0 => (l.getD 0 (0, 0)).1
  | k + 1 => min (loTo l k) (l.getD k (0, 0)).1
def hiTo (l : List Pt) : Nat → Int
  | 0 => (l.getD 0 (0, 0)).1
  | k + 1 => max (hiTo l k) (l.getD k (0, 0)).1
theorem lohi_in (l : List Pt) (k i : Nat) (h : i < k) : loTo l k ≤ (l.getD i (0, 0)).1 ∧ (l.getD i (0, 0)).1 ≤ hiTo l k := by
  induction k with
  | zero => omega
  | succ k ih =>
    show min (loTo l k) (l.getD k (0, 0)).1 ≤ _ ∧ _ ≤ max (hiTo l k) (l.getD k (0, 0)).1
    by_cases hk : i < k
    · have := ih hk; omega
    · obtain rfl : i = k := by omega
      omega
theorem lohi_le (l : List Pt) (k : Nat) : loTo l k ≤ hiTo l k := by
  induction k with
  | zero => exact Int.le_refl _
  | succ k ih =>
    show min (loTo l k) (l.getD k (0, 0)).1 ≤ max (hiTo l k) (l.getD k (0, 0)).1
    omega
theorem lohi_bd (l : List Pt) (hl : ∀ p ∈ l, okPt p = true) (h1 : 1 ≤ l.length) (k : Nat) (hk : k ≤ l.length) : -10000 ≤ loTo l k ∧ loTo l k ≤ 10000 ∧ -10000 ≤ hiTo l k ∧ hiTo l k ≤ 10000 := by
  have hp : ∀ i, i < l.length → -10000 ≤ (l.getD i (0, 0)).1 ∧ (l.getD i (0, 0)).1 ≤ 10000 := fun i hi => by
    rw [List.getD_eq_getElem?_getD, List.getElem?_eq_getElem hi]
    exact ((okPt_iff _).1 (hl _ (List.getElem_mem hi))).2
  induction k with
  | zero => have := hp 0 h1; exact ⟨this.1, this.2, this.1, this.2⟩
  | succ k ih =>
    have h2 := ih (by omega)
    have h3 := hp k (by omega)
    show -10000 ≤ min (loTo l k) (l.getD k (0, 0)).1 ∧ min (loTo l k) (l.getD k (0, 0)).1 ≤ 10000 ∧ -10000 ≤ max (hiTo l k) (l.getD k (0, 0)).1 ∧ max (hiTo l k) (l.getD k (0, 0)).1 ≤ 10000
    omega
theorem sum_between (l : List Pt) (lo hi : Int) (h : ∀ p ∈ l, lo ≤ p.1 ∧ p.1 ≤ hi ∧ 1 ≤ p.2) : lo * sumW l ≤ meanS l ∧ meanS l ≤ hi * sumW l := by
  induction l with
  | nil => exact ⟨by simp [sumW, sumF, meanS], by simp [sumW, sumF, meanS]⟩
  | cons p l ih =>
    have h1 := ih (fun q hq => h q (List.mem_cons_of_mem _ hq))
    obtain ⟨h2, h3, h4⟩ := h p (List.mem_cons_self ..)
    have e1 : sumW (p :: l) = p.2 + sumW l := by simp [sumW, sumF]
    have e2 : meanS (p :: l) = p.1 * p.2 + meanS l := by simp [meanS, sumF]
    rw [e1, e2, Int.mul_add, Int.mul_add]
    have h5 : lo * p.2 ≤ p.1 * p.2 := Int.mul_le_mul_of_nonneg_right h2 (by omega)
    have h6 : p.1 * p.2 ≤ hi * p.2 := Int.mul_le_mul_of_nonneg_right h3 (by omega)
    omega
/-- What the statement asks of a right result. -/
theorem means_law (l : List Pt) (hr : rightM l = true) :
    0 ≤ cmpF (meanF l) (loTo l l.length, 1) ∧ cmpF (meanF l) (hiTo l l.length, 1) ≤ 0 ∧ (loTo l l.length < hiTo l l.length ∨ cmpF (meanF l) (loTo l l.length, 1) = 0) ∧ (1 < l.length ∨ meanF l = ((l.getD 0 (0, 0)).1, 1)) := by
  obtain ⟨h1, h4, hok, hw⟩ := (rightM_iff l).1 hr
  have hin : ∀ p ∈ l, loTo l l.length ≤ p.1 ∧ p.1 ≤ hiTo l l.length ∧ 1 ≤ p.2 := fun p hp => by
    obtain ⟨i, hi, rfl⟩ := List.getElem_of_mem hp
    have h := lohi_in l l.length i hi
    rw [List.getD_eq_getElem?_getD, List.getElem?_eq_getElem hi] at h
    exact ⟨h.1, h.2, ((okPt_iff _).1 (hok _ hp)).1.1⟩
  have hs := sum_between l _ _ hin
  rw [hw] at hs
  have hc : ∀ z, cmpF (meanF l) (z, 1) = cmpI (meanS l) (z * 100) := fun z => by
    unfold meanF
    rw [← whole_frD z 100 (by decide), cmp_frD _ _ _ (by decide)]
  rw [hc, hc]
  refine ⟨?_, ?_, ?_, ?_⟩
  · unfold cmpI; rw [if_neg (by omega)]; split <;> decide
  · unfold cmpI
    split
    · decide
    · rw [if_neg (by omega)]; decide
  · by_cases h : loTo l l.length < hiTo l l.length
    · exact .inl h
    · right
      have := lohi_le l l.length
      unfold cmpI
      rw [if_neg (by omega), if_neg (by omega)]
  · by_cases h : 1 < l.length
    · exact .inl h
    · right
      obtain ⟨p, rfl⟩ := List.length_eq_one_iff.1 (show l.length = 1 by omega)
      have e : p.2 = 100 := by simpa [sumW, sumF] using hw
      have em : meanS [p] = p.1 * 100 := by simp [meanS, sumF, e]
      unfold meanF
      rw [em]
      exact whole_frD p.1 100 (by decide)
theorem meanF_sm (l : List Pt) (hr : rightM l = true) : smF (meanF l) := by
  have := meanS_bd l hr
  exact sm_frD _ _ (by decide) (by omega)
theorem sm_whole4 (n : Int) (h : -10000 ≤ n ∧ n ≤ 10000) : smF (n, 1) := by
  rw [← whole_frD n 1 (by decide)]
  exact sm_frD _ _ (by decide) (by omega)

end Go.Proofs.YtgfnggdjjigomaaDoor
