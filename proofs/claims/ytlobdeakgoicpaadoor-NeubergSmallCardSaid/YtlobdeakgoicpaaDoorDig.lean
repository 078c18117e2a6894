/- Numbers as digits to the base 65536, the lowest one first, in plain Lean. No walk stands in this text. -/
import Derived.Test.YtlobdeakgoicpaaDoorBase
namespace Go.Proofs.YtlobdeakgoicpaaDoor
open Go.RowKit

/-! ### Digits -/
abbrev Bs : Nat := 65536
def dg (n i : Nat) : Nat := n / Bs ^ i % 65536
theorem dg_lt (n i : Nat) : dg n i < 65536 := Nat.mod_lt _ (by decide)
theorem bs_pos (i : Nat) : 0 < Bs ^ i := Nat.pow_pos (by decide)
theorem div_succ (n i : Nat) : n / Bs ^ (i + 1) = n / Bs ^ i / 65536 := by rw [Nat.pow_succ, Nat.div_div_eq_div_mul]
theorem dg_top (n i : Nat) : n / Bs ^ i = dg n i + 65536 * (n / Bs ^ (i + 1)) := by
  rw [div_succ]; unfold dg
  generalize n / Bs ^ i = x
  omega
theorem dg_zero {n i : Nat} (h : n < Bs ^ i) : dg n i = 0 := by unfold dg; rw [Nat.div_eq_of_lt h]
theorem bs_le {i j : Nat} (h : i ≤ j) : Bs ^ i ≤ Bs ^ j := Nat.pow_le_pow_right (by decide) h

/-- How many digits a number has. -/
def ln (n : Nat) : Nat := if h : n = 0 then 0 else ln (n / 65536) + 1
termination_by n
decreasing_by omega
theorem ln_zero : ln 0 = 0 := by unfold ln; rfl
theorem ln_pos {n : Nat} (h : n ≠ 0) : ln n = ln (n / 65536) + 1 := by rw [ln, dif_neg h]
theorem ln_lt : ∀ n : Nat, n < Bs ^ ln n := by
  intro n
  induction n using Nat.strongRecOn with
  | ind n ih =>
    by_cases h : n = 0
    · subst h; rw [ln_zero]; decide
    · rw [ln_pos h, Nat.pow_succ]
      have := ih (n / 65536) (by omega)
      generalize Bs ^ ln (n / 65536) = X at *
      show n < X * 65536
      omega
theorem ln_min : ∀ (k n : Nat), n < Bs ^ k → ln n ≤ k := by
  intro k
  induction k with
  | zero => intro n h; have h0 : n = 0 := by simpa using h
            subst h0; rw [ln_zero]; exact Nat.le_refl _
  | succ k ih =>
    intro n h
    by_cases h0 : n = 0
    · subst h0; rw [ln_zero]; exact Nat.zero_le _
    · rw [ln_pos h0]
      refine Nat.succ_le_succ (ih _ ?_)
      rw [Nat.pow_succ] at h
      generalize Bs ^ k = X at *
      have h : n < X * 65536 := h
      omega
theorem ln_le {n k : Nat} : ln n ≤ k ↔ n < Bs ^ k := ⟨fun h => Nat.lt_of_lt_of_le (ln_lt n) (bs_le h), ln_min k n⟩
theorem ln_ge {n k : Nat} (h : k < ln n) : Bs ^ k ≤ n := by
  rcases Nat.lt_or_ge n (Bs ^ k) with h1 | h1
  · have := ln_min k n h1; omega
  · exact h1
theorem ln_eq {n k : Nat} (h1 : n < Bs ^ k) (h2 : k = 0 ∨ Bs ^ (k - 1) ≤ n) : ln n = k := by
  have := ln_min k n h1
  rcases h2 with rfl | h2
  · omega
  · rcases Nat.lt_or_ge (ln n) k with h3 | h3
    · have h4 := (ln_le (n := n) (k := k - 1)).1 (by omega)
      omega
    · omega
theorem ln_nil {n : Nat} : ln n = 0 ↔ n = 0 := ⟨fun h => by have := ln_lt n; rw [h] at this; simpa using this, fun h => by rw [h]; exact ln_zero⟩
/-- The highest digit is not 0. -/
theorem top_ne {n : Nat} (h : 0 < ln n) : dg n (ln n - 1) ≠ 0 := by
  intro e
  have h1 := ln_ge (n := n) (k := ln n - 1) (by omega)
  have h2 := dg_top n (ln n - 1)
  rw [e, Nat.sub_add_cancel h, Nat.div_eq_of_lt (ln_lt n)] at h2
  have := (Nat.div_pos h1 (bs_pos _))
  omega
/-- A number loses a digit that is 0. -/
theorem trim_step {n k : Nat} (hk : 0 < k) (h : n < Bs ^ k) (h0 : dg n (k - 1) = 0) : n < Bs ^ (k - 1) := by
  have h2 := dg_top n (k - 1)
  rw [Nat.sub_add_cancel hk, Nat.div_eq_of_lt h, h0] at h2
  rcases Nat.lt_or_ge n (Bs ^ (k - 1)) with h3 | h3
  · exact h3
  · have := Nat.div_pos h3 (bs_pos _); omega
theorem trim_stop {n k : Nat} (_ : 0 < k) (h : n < Bs ^ k) (h0 : dg n (k - 1) ≠ 0) : ln n = k :=
  ln_eq h (.inr (by
    rcases Nat.lt_or_ge n (Bs ^ (k - 1)) with h3 | h3
    · exact absurd (dg_zero h3) h0
    · exact h3))

/-! ### Digits as cells -/
def dC (n k : Nat) : List Value := (List.range k).map fun i => .int .i64 ((dg n i : Nat) : Int)
theorem dC_len (n k : Nat) : (dC n k).length = k := by simp [dC]
theorem dC_get (n k i : Nat) (h : i < k) : (dC n k)[i]? = some (.int .i64 ((dg n i : Nat) : Int)) := by simp [dC, h]
theorem dC_nil (n : Nat) : dC n 0 = [] := rfl
theorem dC_succ (n k : Nat) : dC n (k + 1) = dC n k ++ [.int .i64 ((dg n k : Nat) : Int)] := by unfold dC; rw [List.range_succ, List.map_append]; rfl
theorem dC_ext {n m k : Nat} (h : ∀ i, i < k → dg n i = dg m i) : dC n k = dC m k := by
  unfold dC
  refine List.map_congr_left fun i hi => ?_
  rw [h i (List.mem_range.1 hi)]
theorem dC_take (n k j : Nat) (h : j ≤ k) : (dC n k).take j = dC n j := by
  unfold dC; rw [← List.map_take, List.take_range, Nat.min_eq_left h]
theorem dg_div (n j i : Nat) : dg (n / Bs ^ j) i = dg n (j + i) := by unfold dg; rw [Nat.div_div_eq_div_mul, Nat.pow_add]
theorem dC_drop (n k j : Nat) : (dC n k).drop j = dC (n / Bs ^ j) (k - j) := by
  apply List.ext_getElem?
  intro i
  rw [List.getElem?_drop]
  by_cases h : j + i < k
  · rw [dC_get _ _ _ h, dC_get _ _ _ (by omega), dg_div]
  · rw [List.getElem?_eq_none (by rw [dC_len]; omega), List.getElem?_eq_none (by rw [dC_len]; omega)]
theorem dC_cons (d n k : Nat) (h : d < 65536) : .int .i64 (d : Int) :: dC n k = dC (d + 65536 * n) (k + 1) := by
  apply List.ext_getElem?
  intro i
  cases i with
  | zero =>
    rw [dC_get _ _ _ (by omega)]
    have : dg (d + 65536 * n) 0 = d := by unfold dg; rw [Nat.pow_zero, Nat.div_one]; show (d + 65536 * n) % 65536 = d; omega
    rw [this]; rfl
  | succ i =>
    rw [List.getElem?_cons_succ]
    by_cases hi : i < k
    · rw [dC_get _ _ _ hi, dC_get _ _ _ (by omega)]
      have : dg (d + 65536 * n) (i + 1) = dg n i := by
        rw [show i + 1 = 1 + i by omega, ← dg_div]
        congr 1
        show (d + 65536 * n) / 65536 ^ 1 = n
        omega
      rw [this]
    · rw [List.getElem?_eq_none (by rw [dC_len]; omega), List.getElem?_eq_none (by rw [dC_len]; omega)]
theorem dC_one (n k : Nat) : ∀ u ∈ dC n k, u.oneCell' = true := fun u hu => by
  obtain ⟨i, _, rfl⟩ := List.mem_map.1 hu
  rfl
theorem dC_mod {n m k : Nat} (h : ∀ i, i < k → n / Bs ^ i % 65536 = m / Bs ^ i % 65536) : dC n k = dC m k := dC_ext h

/-! ### Adding, scaling, subtracting digit by digit -/
theorem add_step {a b c i : Nat} (h : (a + b) / Bs ^ i = c + a / Bs ^ i + b / Bs ^ i) (hc : c ≤ 1) :
    dg (a + b) i = (c + dg a i + dg b i) % 65536 ∧ (a + b) / Bs ^ (i + 1) = (c + dg a i + dg b i) / 65536 + a / Bs ^ (i + 1) + b / Bs ^ (i + 1) ∧ (c + dg a i + dg b i) / 65536 ≤ 1 := by
  rw [div_succ, div_succ, div_succ]
  unfold dg
  rw [h]
  generalize a / Bs ^ i = x
  generalize b / Bs ^ i = y
  show (c + x + y) % 65536 = (c + x % 65536 + y % 65536) % 65536 ∧ _ = (c + x % 65536 + y % 65536) / 65536 + _ + _ ∧ (c + x % 65536 + y % 65536) / 65536 ≤ 1
  omega
theorem scale_step {a m c i : Nat} (h : a * m / Bs ^ i = c + a / Bs ^ i * m) (hc : c ≤ 65535) (hm : m ≤ 65535) :
    dg (a * m) i = (c + dg a i * m) % 65536 ∧ a * m / Bs ^ (i + 1) = (c + dg a i * m) / 65536 + a / Bs ^ (i + 1) * m ∧ (c + dg a i * m) / 65536 ≤ 65535 ∧ dg a i * m ≤ 4294836225 := by
  rw [div_succ, div_succ]
  have hd := dg_lt a i
  have hb : dg a i * m ≤ 65535 * 65535 := Nat.mul_le_mul (by omega) hm
  unfold dg at *
  rw [h]
  generalize a / Bs ^ i = x at *
  have e : x * m = 65536 * (x / 65536 * m) + x % 65536 * m := by
    have : x = 65536 * (x / 65536) + x % 65536 := by omega
    calc x * m = (65536 * (x / 65536) + x % 65536) * m := by rw [← this]
      _ = _ := by rw [Nat.add_mul, Nat.mul_assoc]
  show (c + x * m) % 65536 = (c + x % 65536 * m) % 65536 ∧ (c + x * m) / 65536 = _ ∧ _
  have hb : x % 65536 * m ≤ 65535 * 65535 := hb
  show _ ∧ (c + x * m) / 65536 = (c + x % 65536 * m) / 65536 + x / 65536 * m ∧ (c + x % 65536 * m) / 65536 ≤ 65535 ∧ x % 65536 * m ≤ 4294836225
  generalize x / 65536 * m = p at *
  generalize x % 65536 * m = q at *
  rw [e]
  omega
/-- What is left of a digit when another one, and what is owed, are taken away. -/
theorem sub_step {a b o i : Nat} (h : a / Bs ^ i = b / Bs ^ i + o + (a - b) / Bs ^ i) (ho : o ≤ 1) :
    (dg b i + o ≤ dg a i → dg (a - b) i = dg a i - o - dg b i ∧ a / Bs ^ (i + 1) = b / Bs ^ (i + 1) + 0 + (a - b) / Bs ^ (i + 1)) ∧
    (dg a i < dg b i + o → dg (a - b) i = dg a i + 65536 - o - dg b i ∧ a / Bs ^ (i + 1) = b / Bs ^ (i + 1) + 1 + (a - b) / Bs ^ (i + 1)) := by
  rw [div_succ, div_succ, div_succ]
  unfold dg
  generalize a / Bs ^ i = x at *
  generalize b / Bs ^ i = y at *
  generalize (a - b) / Bs ^ i = z at *
  show (y % 65536 + o ≤ x % 65536 → z % 65536 = x % 65536 - o - y % 65536 ∧ _) ∧ (x % 65536 < y % 65536 + o → z % 65536 = x % 65536 + 65536 - o - y % 65536 ∧ _)
  omega
theorem mul_step (a b i : Nat) : 65536 * (a * (b / Bs ^ (i + 1))) + a * dg b i = a * (b / Bs ^ i) := by
  rw [dg_top b i, Nat.mul_add, Nat.mul_left_comm, Nat.add_comm]

/-! ### Dividing -/
theorem num_step (n i : Nat) : n / Bs ^ (i + 1) * 65536 + dg n i = n / Bs ^ i := by rw [dg_top n i, Nat.mul_comm, Nat.add_comm]
/-- A step of long division: a digit of the quotient, and what is left. -/
theorem div_step (a b i : Nat) (hb : 0 < b) : (dg a i + 65536 * (a / Bs ^ (i + 1) % b)) / b < 65536 ∧ dg (a / b) i = (dg a i + 65536 * (a / Bs ^ (i + 1) % b)) / b ∧ a / Bs ^ i % b = (dg a i + 65536 * (a / Bs ^ (i + 1) % b)) % b := by
  have h1 := dg_top a i
  have hd := dg_lt a i
  have h2 : a / b / Bs ^ i = a / Bs ^ i / b := by rw [Nat.div_div_eq_div_mul, Nat.div_div_eq_div_mul, Nat.mul_comm]
  generalize a / Bs ^ (i + 1) = X at *
  have hX := Nat.div_add_mod X b
  have hr := Nat.mod_lt X hb
  generalize X / b = Q at *
  generalize X % b = R at *
  have e : a / Bs ^ i = (dg a i + 65536 * R) + b * (65536 * Q) := by rw [h1, ← hX]; grind
  have hlt : (dg a i + 65536 * R) / b < 65536 := by
    rw [Nat.div_lt_iff_lt_mul hb]
    have : (R + 1) ≤ b := hr
    have := Nat.mul_le_mul_left 65536 this
    omega
  refine ⟨hlt, ?_, ?_⟩
  · show a / b / Bs ^ i % 65536 = _
    rw [h2, e, Nat.add_mul_div_left _ _ hb]
    generalize (dg a i + 65536 * R) / b = y at *
    omega
  · rw [e, Nat.add_mul_mod_self_left]
/-- The highest digits bound a digit of a quotient. -/
theorem div_bounds (r b : Nat) (n : Nat) (hn : ln b = n) (h0 : 0 < n) (hq : r / b < 65536) :
    r / Bs ^ (n - 1) / (dg b (n - 1) + 1) ≤ r / b ∧ r / b ≤ min (r / Bs ^ (n - 1) / dg b (n - 1)) 65535 := by
  have hb : b / Bs ^ (n - 1) = dg b (n - 1) := by
    have h2 := dg_top b (n - 1)
    have hl : b < Bs ^ n := by rw [← hn]; exact ln_lt b
    rw [Nat.sub_add_cancel h0, Nat.div_eq_of_lt hl] at h2
    rw [h2]; rfl
  have ht : dg b (n - 1) ≠ 0 := by have := top_ne (n := b) (by omega); rw [hn] at this; exact this
  have hp := bs_pos (n - 1)
  have hbe := Nat.div_add_mod b (Bs ^ (n - 1))
  have hbm := Nat.mod_lt b hp
  rw [hb] at hbe
  generalize dg b (n - 1) = t at *
  generalize Bs ^ (n - 1) = P at *
  have hb0 : 0 < b := by
    rcases Nat.eq_zero_or_pos b with h | h
    · subst h; simp at hb; omega
    · exact h
  constructor
  · rw [Nat.div_div_eq_div_mul]
    refine Nat.div_le_div_left ?_ hb0
    rw [Nat.mul_add, Nat.mul_one]; omega
  · refine Nat.le_min.2 ⟨?_, by omega⟩
    rw [Nat.div_div_eq_div_mul]
    exact Nat.div_le_div_left (by omega) (Nat.mul_pos hp (by omega))
end Go.Proofs.YtlobdeakgoicpaaDoor
