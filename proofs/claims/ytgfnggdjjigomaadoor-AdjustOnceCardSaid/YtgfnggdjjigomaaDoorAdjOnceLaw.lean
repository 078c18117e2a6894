/- An entry that is right has no more than its kind has, in plain Lean. -/
import Derived.Test.YtgfnggdjjigomaaDoorAdjMadeLaw
namespace Go.Proofs.YtgfnggdjjigomaaDoor
open Go.RowKit

theorem parts_congr (o o' : Nat → Oc) (n : Nat) (h : ∀ i, i < n → ((o i).w ≠ 0 ↔ (o' i).w ≠ 0)) : partsTo o n = partsTo o' n := by
  induction n with
  | zero => rfl
  | succ n ih =>
    have e := ih (fun i hi => h i (by omega))
    show (if partsTo o n = n ∧ (o n).w ≠ 0 then n + 1 else partsTo o n) = (if partsTo o' n = n ∧ (o' n).w ≠ 0 then n + 1 else partsTo o' n)
    rw [e]
    by_cases hc : partsTo o' n = n ∧ (o' n).w ≠ 0
    · rw [if_pos hc, if_pos ⟨hc.1, (h n (by omega)).2 hc.2⟩]
    · rw [if_neg hc, if_neg (fun hh => hc ⟨hh.1, (h n (by omega)).1 hh.2⟩)]
theorem wSum_congr (o o' : Nat → Oc) (n : Nat) (h : ∀ i, i < n → (o i).w = (o' i).w) : wSum o n = wSum o' n := by
  induction n with
  | zero => rfl
  | succ n ih =>
    show wSum o n + (o n).w = wSum o' n + (o' n).w
    rw [ih (fun i hi => h i (by omega)), h n (by omega)]
theorem upd_at (o : Nat → Oc) (i : Nat) (x : Oc) : upd o i x i = x := if_pos rfl
theorem upd_off (o : Nat → Oc) (i j : Nat) (x : Oc) (h : j ≠ i) : upd o i x j = o j := if_neg h
theorem zB_w {x : Oc} (h : zB x = true) : x.w = 0 := (of_decide_eq_true h).2.2.2.2.2
theorem zB_l {x : Oc} (h : zB x = true) : x.l = 0 := (of_decide_eq_true h).1
theorem wholeB_w {x : Oc} (h : wholeB x = true) : x.w = 0 := of_decide_eq_true (Bool.and_eq_true_iff.1 h).2
theorem wholeB_l {x : Oc} (h : wholeB x = true) : x.l ≤ 7 := by
  have h1 : outB x = true := (Bool.and_eq_true_iff.1 h).1
  have h2 := (of_decide_eq_true (show decide _ = true from h1)).1
  have h3 := of_decide_eq_true (show decide _ = true from h2)
  omega
theorem okW_l {x : Oc} (h : okW x = true) : x.l ≤ 7 := by
  have h1 : outB x = true := (Bool.and_eq_true_iff.1 (Bool.and_eq_true_iff.1 h).1).1
  have h2 := (of_decide_eq_true (show decide _ = true from h1)).1
  have h3 := of_decide_eq_true (show decide _ = true from h2)
  omega
theorem okW_w {x : Oc} (h : okW x = true) : 1 ≤ x.w := of_decide_eq_true (Bool.and_eq_true_iff.1 (Bool.and_eq_true_iff.1 h).1).2
/-- What a right entry has, by its kind. -/
theorem right_kinds {k f : Int} {o : Nat → Oc} {a0 a1 : Int} (h : rightE k f o a0 a1 = true) :
    f ≤ 3 ∧ (((k = 0 ∨ k = 4) ∧ restB o 0 = true) ∨ (k = 1 ∧ wholeB (o 0) = true ∧ restB o 1 = true) ∨ (k = 3 ∧ wholeB (o 0) = true ∧ wholeB (o 1) = true ∧ restB o 2 = true) ∨
      (k = 2 ∧ allW o (partsN o) = true ∧ 2 ≤ partsN o ∧ wSum o (partsN o) = 100 ∧ restB o (partsN o) = true)) ∧ shareB a0 = true ∧ shareB a1 = true := by
  unfold rightE at h
  obtain ⟨h1, h2⟩ := Bool.and_eq_true_iff.1 h
  refine ⟨of_decide_eq_true h1, ?_⟩
  have hz : ∀ {a b : Int}, decide (a = 0 ∧ b = 0) = true → shareB a = true ∧ shareB b = true := fun h => by
    obtain ⟨rfl, rfl⟩ := of_decide_eq_true h
    decide
  by_cases k0 : k = 0
  · rw [if_pos k0] at h2
    obtain ⟨h3, h4⟩ := Bool.and_eq_true_iff.1 h2
    exact ⟨.inl ⟨.inl k0, h3⟩, hz h4⟩
  rw [if_neg k0] at h2
  by_cases k1 : k = 1
  · rw [if_pos k1] at h2
    obtain ⟨h3, h4⟩ := Bool.and_eq_true_iff.1 h2
    obtain ⟨h5, h6⟩ := Bool.and_eq_true_iff.1 h3
    exact ⟨.inr (.inl ⟨k1, h5, h6⟩), hz h4⟩
  rw [if_neg k1] at h2
  by_cases k2 : k = 2
  · rw [if_pos k2] at h2
    obtain ⟨h3, h4⟩ := Bool.and_eq_true_iff.1 h2
    obtain ⟨h5, h6⟩ := Bool.and_eq_true_iff.1 h4
    obtain ⟨h7, h8⟩ := Bool.and_eq_true_iff.1 h5
    obtain ⟨h9, h10⟩ := Bool.and_eq_true_iff.1 h7
    exact ⟨.inr (.inr (.inr ⟨k2, h3, of_decide_eq_true h9, of_decide_eq_true h10, h8⟩)), hz h6⟩
  rw [if_neg k2] at h2
  by_cases k3 : k = 3
  · rw [if_pos k3] at h2
    obtain ⟨h3, h4⟩ := Bool.and_eq_true_iff.1 h2
    obtain ⟨h5, h6⟩ := Bool.and_eq_true_iff.1 h3
    obtain ⟨h7, h8⟩ := Bool.and_eq_true_iff.1 h5
    exact ⟨.inr (.inr (.inl ⟨k3, h7, h8, h6⟩)), hz h4⟩
  rw [if_neg k3] at h2
  by_cases k4 : k = 4
  · rw [if_pos k4] at h2
    obtain ⟨h3, h4⟩ := Bool.and_eq_true_iff.1 h2
    exact ⟨.inl ⟨.inr k4, h4⟩, Bool.and_eq_true_iff.1 h3⟩
  · rw [if_neg k4] at h2; cases h2
theorem once_kind (k f : Int) (o : Nat → Oc) (a0 a1 : Int) (hk : 4 < k) : rightE k f o a0 a1 = false := by
  cases h : rightE k f o a0 a1 with
  | false => rfl
  | true => have := (right_kinds h).2.1; omega
theorem once_field (k f : Int) (o : Nat → Oc) (a0 a1 : Int) (hf : 3 < f) : rightE k f o a0 a1 = false := by
  cases h : rightE k f o a0 a1 with
  | false => rfl
  | true => have := (right_kinds h).1; omega
theorem once_award (k f : Int) (o : Nat → Oc) (a0 a1 : Int) (h0 : shareB a0 = false ∨ shareB a1 = false) : rightE k f o a0 a1 = false := by
  cases h : rightE k f o a0 a1 with
  | false => rfl
  | true =>
    have h2 := (right_kinds h).2.2
    rw [h2.1, h2.2] at h0
    rcases h0 with h0 | h0 <;> cases h0
theorem once_level (k f : Int) (o : Nat → Oc) (a0 a1 : Int) (hl : 7 < (o 0).l) : rightE k f o a0 a1 = false := by
  cases h : rightE k f o a0 a1 with
  | false => rfl
  | true =>
    rcases (right_kinds h).2.1 with ⟨_, h1⟩ | ⟨_, h1, _⟩ | ⟨_, h1, _⟩ | ⟨_, h1, h2, _⟩
    · have := zB_l ((restB_iff o 0).1 h1 0 (by omega) (by omega)); omega
    · have := wholeB_l h1; omega
    · have := wholeB_l h1; omega
    · have := okW_l ((allW_iff o _).1 h1 0 (by omega)); omega
theorem once_weight (k f : Int) (o : Nat → Oc) (a0 a1 : Int) (hr : rightE k f o a0 a1 = true) : rightE k f (upd o 0 { o 0 with w := (o 0).w + 1 }) a0 a1 = false := by
  cases h : rightE k f (upd o 0 { o 0 with w := (o 0).w + 1 }) a0 a1 with
  | false => rfl
  | true =>
    have q := (right_kinds hr).2.1
    obtain ⟨o', ho'⟩ : ∃ o', upd o 0 { o 0 with w := (o 0).w + 1 } = o' := ⟨_, rfl⟩
    have e0 : (o' 0).w = (o 0).w + 1 := by rw [← ho', upd_at]
    have e1 : ∀ i, i ≠ 0 → o' i = o i := fun i hi => by rw [← ho', upd_off _ _ _ _ hi]
    rw [ho'] at h
    clear ho'
    rcases (right_kinds h).2.1 with ⟨k1, h1⟩ | ⟨k1, h1, _⟩ | ⟨k1, h1, _⟩ | ⟨k1, h1, h2, h3, h4⟩ <;> rcases q with ⟨k2, q1⟩ | ⟨k2, q1, _⟩ | ⟨k2, q1, _⟩ | ⟨k2, q1, q2, q3, q4⟩
    all_goals first | omega | skip
    · have := zB_w ((restB_iff o 0).1 q1 0 (by omega) (by omega))
      have := zB_w ((restB_iff o' 0).1 h1 0 (by omega) (by omega)); omega
    · have := wholeB_w h1; have := wholeB_w q1; omega
    · have := wholeB_w h1; have := wholeB_w q1; omega
    · have hw := okW_w ((allW_iff o _).1 q1 0 (by omega))
      have hp : partsN o' = partsN o := parts_congr o' o 4 (fun i _ => by
        by_cases hi : i = 0
        · subst hi; omega
        · rw [e1 i hi])
      rw [hp] at h3
      have hs : ∀ n, 1 ≤ n → wSum o' n = wSum o n + 1 := fun n hn => by
        induction n with
        | zero => omega
        | succ n ih =>
          show wSum o' n + (o' n).w = wSum o n + (o n).w + 1
          by_cases hn0 : n = 0
          · subst hn0; rw [e0]; show 0 + _ = 0 + _ + 1; omega
          · rw [ih (by omega), e1 n hn0]; omega
      rw [hs _ (by omega)] at h3
      omega
theorem once_last (k f : Int) (o : Nat → Oc) (a0 a1 : Int) (hr : rightE k f o a0 a1 = true) (x : Oc) (hx : x.w = if 0 < (o 3).w then (o 3).w + 1 else 1) : rightE k f (upd o 3 x) a0 a1 = false := by
  cases h : rightE k f (upd o 3 x) a0 a1 with
  | false => rfl
  | true =>
    have q := (right_kinds hr).2.1
    obtain ⟨o', ho'⟩ : ∃ o', upd o 3 x = o' := ⟨_, rfl⟩
    have e0 : (o' 3).w = x.w := by rw [← ho', upd_at]
    have e1 : ∀ i, i ≠ 3 → o' i = o i := fun i hi => by rw [← ho', upd_off _ _ _ _ hi]
    have hx1 : 1 ≤ x.w := by rw [hx]; split <;> omega
    rw [ho'] at h
    clear ho'
    rcases (right_kinds h).2.1 with ⟨k1, h1⟩ | ⟨k1, _, h1⟩ | ⟨k1, _, _, h1⟩ | ⟨k1, h1, h2, h3, h4⟩ <;> rcases q with ⟨k2, q1⟩ | ⟨k2, q1, _⟩ | ⟨k2, q1, _⟩ | ⟨k2, q1, q2, q3, q4⟩
    all_goals first | omega | skip
    · have := zB_w ((restB_iff o' 0).1 h1 3 (by omega) (by omega)); omega
    · have := zB_w ((restB_iff o' 1).1 h1 3 (by omega) (by omega)); omega
    · have := zB_w ((restB_iff o' 2).1 h1 3 (by omega) (by omega)); omega
    · have hp3 : partsTo o' 3 = partsTo o 3 := parts_congr o' o 3 (fun i hi => by rw [e1 i (by omega)])
      have hs3 : wSum o' 3 = wSum o 3 := wSum_congr o' o 3 (fun i hi => by rw [e1 i (by omega)])
      have d : partsN o = if partsTo o 3 = 3 ∧ (o 3).w ≠ 0 then 4 else partsTo o 3 := rfl
      have d' : partsN o' = if partsTo o' 3 = 3 ∧ (o' 3).w ≠ 0 then 4 else partsTo o' 3 := rfl
      have hle := parts_le o 3
      by_cases c3 : partsTo o 3 = 3
      · rw [if_pos ⟨hp3.trans c3, by omega⟩] at d'
        rw [d'] at h3
        have h5 : wSum o 3 + x.w = 100 := by rw [← hs3, ← e0]; exact h3
        by_cases c4 : (o 3).w ≠ 0
        · rw [if_pos ⟨c3, c4⟩] at d
          rw [d] at q3 q1
          have q5 : wSum o 3 + (o 3).w = 100 := q3
          have := okW_w ((allW_iff o _).1 q1 3 (by omega))
          rw [if_pos (by omega)] at hx
          omega
        · rw [if_neg (fun hh => c4 hh.2), c3] at d
          rw [d] at q3
          rw [if_neg (by omega)] at hx
          omega
      · rw [if_neg (fun hh => c3 (hp3.symm.trans hh.1)), hp3] at d'
        rw [d'] at h4
        have := zB_w ((restB_iff o' _).1 h4 3 (by omega) hle)
        omega

end Go.Proofs.YtgfnggdjjigomaaDoor
