/- Plain laws of victory points: both teams together, greater margins, opposite margins, the last limit. No program stands in this text. -/
import Derived.Test.YtkdbkokiieolpaaVicMath
namespace Go.Proofs.Ytkdbkokiieolpaa

theorem cntTo_mono (s : List Int) (x y : Int) (h : x ≤ y) (k : Nat) (hk : k ≤ s.length) : cntTo s x k ≤ cntTo s y k := by
  induction k with
  | zero => simp [cntTo]
  | succ k ih =>
    have := ih (by omega)
    rw [cntTo_succ s x k (by omega), cntTo_succ s y k (by omega)]
    split <;> split <;> omega
theorem cntS_mono (s : List Int) (x y : Int) (h : x ≤ y) : cntS s x ≤ cntS s y := cntTo_mono s x y h _ (Nat.le_refl _)
theorem cntTo_zero (s : List Int) (x : Int) (h : ∀ y ∈ s, x < y) (k : Nat) (hk : k ≤ s.length) : cntTo s x k = 0 := by
  induction k with
  | zero => simp [cntTo]
  | succ k ih =>
    rw [cntTo_succ s x k (by omega), ih (by omega), if_neg (by have := h s[k] (List.getElem_mem (by omega)); omega)]; rfl
theorem right_pos (s : List Int) (hr : rightS s = true) : ∀ y ∈ s, 1 ≤ y ∧ y ≤ 1000000 := fun y hy => by
  have := up_bd s 0 ((rightS_iff s).1 hr).2.2 y hy
  omega
theorem cntS_none (s : List Int) (hr : rightS s = true) : cntS s 0 = 0 := cntTo_zero s 0 (fun y hy => by have := right_pos s hr y hy; omega) _ (Nat.le_refl _)
theorem okM_true (s : List Int) (m : Int) (hr : rightS s = true) (h : -1000000 ≤ m ∧ m ≤ 1000000) : okM s m = true := by
  unfold okM; rw [hr, decide_eq_true h.1, decide_eq_true h.2]; rfl
theorem ptsE_ok (s : List Int) (m : Int) (hr : rightS s = true) (h : -1000000 ≤ m ∧ m ≤ 1000000) : ptsE s m = 0 := by unfold ptsE; rw [if_pos (okM_true s m hr h)]
theorem ptsA_eq (s : List Int) (m : Int) (hr : rightS s = true) (h : -1000000 ≤ m ∧ m ≤ 1000000) : ptsA s m = s.length + moreS s m := by unfold ptsA; rw [if_pos (okM_true s m hr h)]
theorem ptsB_eq (s : List Int) (m : Int) (hr : rightS s = true) (h : -1000000 ≤ m ∧ m ≤ 1000000) : ptsB s m = s.length - moreS s m := by unfold ptsB; rw [if_pos (okM_true s m hr h)]
theorem moreS_neg (s : List Int) (hr : rightS s = true) (m : Int) : moreS s (-m) = -moreS s m := by
  have h0 := cntS_none s hr
  unfold moreS far
  rcases Int.lt_trichotomy m 0 with h | h | h
  · rw [if_neg (show ¬ -m < 0 by omega), if_pos h, if_neg (show ¬ -m < 0 by omega), if_pos h]; omega
  · subst h; simp [h0]
  · rw [if_pos (show -m < 0 by omega), if_neg (show ¬ m < 0 by omega), if_pos (show -m < 0 by omega), if_neg (show ¬ m < 0 by omega), Int.neg_neg]
theorem moreS_mono (s : List Int) (a b : Int) (h : a ≤ b) : moreS s a ≤ moreS s b := by
  have ha := cntS_bd s (far a)
  have hb := cntS_bd s (far b)
  unfold moreS
  by_cases h1 : a < 0
  · by_cases h2 : b < 0
    · have := cntS_mono s (far b) (far a) (by unfold far; rw [if_pos h1, if_pos h2]; omega)
      rw [if_pos h1, if_pos h2]; omega
    · rw [if_pos h1, if_neg h2]; omega
  · have := cntS_mono s (far a) (far b) (by unfold far; rw [if_neg h1, if_neg (by omega)]; omega)
    rw [if_neg h1, if_neg (by omega)]; omega
theorem cntTo_full (s : List Int) (x : Int) (k : Nat) (hk : k ≤ s.length) : cntTo s x k = k ↔ ∀ j (h : j < s.length), j < k → s[j] ≤ x := by
  induction k with
  | zero => simp [cntTo]
  | succ k ih =>
    have hb := cntTo_bd s x k (by omega)
    rw [cntTo_succ s x k (by omega)]
    constructor
    · intro h j hj hjk
      by_cases hx : s[k]'(by omega) ≤ x
      · rw [if_pos hx] at h
        by_cases e : j = k
        · subst e; exact hx
        · exact (ih (by omega)).1 (by omega) j hj (by omega)
      · rw [if_neg hx] at h; omega
    · intro h
      rw [if_pos (h k (by omega) (by omega)), (ih (by omega)).2 (fun j hj hjk => h j hj (by omega))]; omega
theorem up_sorted (s : List Int) : ∀ b, up b s = true → ∀ i j (hj : j < s.length) (hi : i < j), s[i]'(by omega) < s[j] := by
  induction s with
  | nil => intro b _ i j hj; simp at hj
  | cons y r ih =>
    intro b h i j hj hi
    rw [up_cons] at h
    simp only [Bool.and_eq_true, decide_eq_true_eq] at h
    cases j with
    | zero => omega
    | succ j =>
      cases i with
      | zero => exact (up_bd r y h.2 _ (List.getElem_mem (by simpa using hj))).1
      | succ i => exact ih y h.2 i j (by simpa using hj) (by omega)
/-- From the last limit on, and only then, the winner has all. -/
theorem full_iff (s : List Int) (hr : rightS s = true) (m : Int) (k : Nat) (hk : s.length = k + 1) : moreS s m = s.length ↔ s[k]'(by omega) ≤ m := by
  have hpos := right_pos s hr
  have hb := cntS_bd s (far m)
  have hsp := hpos (s[k]'(by omega)) (List.getElem_mem (by omega))
  unfold moreS
  by_cases h : m < 0
  · rw [if_pos h]
    constructor
    · intro h1; omega
    · intro h1; omega
  · rw [if_neg h]
    have hf : far m = m := by unfold far; rw [if_neg h]
    rw [hf]
    unfold cntS
    rw [cntTo_full s m s.length (Nat.le_refl _)]
    constructor
    · intro h1; exact h1 k (by omega) (by omega)
    · intro h1 j hj _
      by_cases e : j = k
      · subst e; exact h1
      · have := up_sorted s 0 ((rightS_iff s).1 hr).2.2 j k (by omega) (by omega)
        omega

end Go.Proofs.Ytkdbkokiieolpaa
