/- Plain laws of adjusted matchpoints. -/
import Derived.Test.YtlobdeakgoicpaaDoorFracMul
namespace Go.Proofs.YtlobdeakgoicpaaDoor
open Go.RowKit

theorem whole_frD (n D : Int) (hD : 1 ≤ D) : fr (n * D) D = (n, 1) := by
  have h := fr_scale D n 1 hD (by decide)
  rw [Int.mul_one] at h
  rw [Int.mul_comm n, h]
  unfold fr
  simp
theorem cmp_frD (k l D : Int) (hD : 1 ≤ D) : cmpF (fr k D) (fr l D) = cmpI k l := by
  have e1 := fr_val k D hD
  have e2 := fr_val l D hD
  have d1 := (fr_den k D hD).1
  have d2 := (fr_den l D hD).1
  unfold cmpF cmpI
  generalize fr k D = f at *
  generalize fr l D = g at *
  have hp : 1 ≤ f.2 * g.2 := by have := Int.mul_le_mul d1 d2 (by omega) (by omega); omega
  have h : (f.1 * g.2 - g.1 * f.2) * D = (k - l) * (f.2 * g.2) := by
    rw [Int.sub_mul, Int.mul_right_comm f.1, e1, Int.mul_right_comm g.1, e2, Int.sub_mul, Int.mul_assoc k, Int.mul_assoc l, Int.mul_comm g.2 f.2]
  generalize f.1 * g.2 = x at *
  generalize g.1 * f.2 = y at *
  generalize f.2 * g.2 = z at *
  have sgn : ∀ (a b c d : Int), 1 ≤ c → 1 ≤ d → a * c = b * d → (0 < b → 0 < a) ∧ (b < 0 → a < 0) ∧ (b = 0 → a = 0) := by
    intro a b c d hc hd he
    refine ⟨fun hb => ?_, fun hb => ?_, fun hb => ?_⟩
    · have h1 := Int.mul_pos hb (show 0 < d by omega)
      by_cases ha : 0 < a
      · exact ha
      · have h2 := Int.mul_nonneg (show 0 ≤ -a by omega) (show 0 ≤ c by omega)
        rw [Int.neg_mul] at h2; omega
    · have h1 := Int.mul_pos (show 0 < -b by omega) (show 0 < d by omega)
      rw [Int.neg_mul] at h1
      by_cases ha : a < 0
      · exact ha
      · have h2 := Int.mul_nonneg (show 0 ≤ a by omega) (show 0 ≤ c by omega)
        omega
    · rw [hb, Int.zero_mul] at he
      rcases Int.mul_eq_zero.1 he with h | h <;> omega
  obtain ⟨s1, s2, s3⟩ := sgn (x - y) (k - l) D z hD hp h
  by_cases h1 : k < l
  · have := s2 (by omega)
    rw [if_pos (by omega), if_pos h1]
  · by_cases h2 : l < k
    · have := s1 (by omega)
      rw [if_neg (by omega), if_pos (by omega), if_neg h1, if_pos h2]
    · have := s3 (by omega)
      rw [if_neg (by omega), if_neg (by omega), if_neg h1, if_neg h2]

/-- Matchpoints among n results, as if there were all. -/
def adjF (m : Pt) (n all : Int) : Pt := addF (mulF (addF m (1, 1)) (fr all n)) (-1, 1)
theorem adj_fr (g n all : Int) (hn : 1 ≤ n) : adjF (fr (g - 10000) 10000) n all = fr (g * all - 10000 * n) (10000 * n) := by
  unfold adjF
  rw [← whole_frD 1 10000 (by decide), add_frD _ _ _ (by decide), mul_fr _ _ _ _ (by decide) hn, ← whole_frD (-1) (10000 * n) (by omega), add_frD _ _ _ (by omega)]
  congr 1
  rw [show g - 10000 + 1 * 10000 = g by omega]
  omega
/-- The steps of the adjusting are not too great. -/
theorem adj_steps (g n all : Int) (hn : 1 ≤ n ∧ n ≤ 24) (ha : n ≤ all ∧ all ≤ 24) (hg : 10000 ≤ g ∧ g ≤ 20000 * n - 10000) :
    smF (fr (g - 10000) 10000) ∧ smF (addF (fr (g - 10000) 10000) (1, 1)) ∧ smF (mulF (addF (fr (g - 10000) 10000) (1, 1)) (fr all n)) ∧ smF (adjF (fr (g - 10000) 10000) n all) ∧ 0 ≤ g * all - 10000 * n ∧ g * all - 10000 * n ≤ 2 * (all - 1) * (10000 * n) := by
  have h1 : 10000 * all ≤ g * all := Int.mul_le_mul_of_nonneg_right hg.1 (by omega)
  have h2 : g * all ≤ (20000 * n - 10000) * all := Int.mul_le_mul_of_nonneg_right hg.2 (by omega)
  have h3 : (20000 * n - 10000) * all = 20000 * (n * all) - 10000 * all := by rw [Int.sub_mul, Int.mul_assoc]
  have h4 : 2 * (all - 1) * (10000 * n) = 20000 * (n * all) - 20000 * n := by grind
  have h5 : n * all ≤ 24 * 24 := Int.mul_le_mul (by omega) (by omega) (by omega) (by omega)
  have h6 : addF (fr (g - 10000) 10000) (1, 1) = fr g 10000 := by
    rw [← whole_frD 1 10000 (by decide), add_frD _ _ _ (by decide)]; congr 1; omega
  rw [adj_fr g n all hn.1, h6, mul_fr _ _ _ _ (by decide) hn.1]
  exact ⟨sm_frD _ _ (by decide) (by omega), sm_frD _ _ (by decide) (by omega), sm_frD _ _ (by omega) (by omega), sm_frD _ _ (by omega) (by omega), by omega, by omega⟩

/-- The adjusted matchpoints of all results of a field. -/
def adjL (L : List (List Pt)) (all : Int) : List Pt := (ptsL L).map fun m => adjF m L.length all
theorem adjL_len (L : List (List Pt)) (all : Int) : (adjL L all).length = L.length := by unfold adjL; rw [List.length_map, ptsL_len]
theorem adjL_get (L : List (List Pt)) (all : Int) (k : Nat) (h : k < L.length) : (adjL L all)[k]'(by rw [adjL_len]; exact h) = fr (gAll L[k] L * all - 10000 * L.length) (10000 * L.length) := by
  unfold adjL
  rw [List.getElem_map, ptsL_get L k h, adj_fr _ _ _ (by omega)]
theorem adjL_pt (L : List (List Pt)) (all : Int) (k : Nat) (h : k < L.length) : (adjL L all)[k]'(by rw [adjL_len]; exact h) = adjF ((ptsL L)[k]'(by rw [ptsL_len]; exact h)) L.length all := by
  unfold adjL; rw [List.getElem_map]

theorem adj_rng (L : List (List Pt)) (hL : ∀ o ∈ L, rightM o = true) (all : Int) (hn : L.length ≤ 24) (ha : (L.length : Int) ≤ all ∧ all ≤ 24) (k : Nat) (h : k < L.length) :
    smF ((ptsL L)[k]'(by rw [ptsL_len]; exact h)) ∧ smF (addF ((ptsL L)[k]'(by rw [ptsL_len]; exact h)) (1, 1)) ∧ smF (mulF (addF ((ptsL L)[k]'(by rw [ptsL_len]; exact h)) (1, 1)) (fr all L.length)) ∧ smF (adjF ((ptsL L)[k]'(by rw [ptsL_len]; exact h)) L.length all) ∧ 0 ≤ gAll L[k] L * all - 10000 * L.length ∧ gAll L[k] L * all - 10000 * L.length ≤ 2 * (all - 1) * (10000 * L.length) := by
  rw [ptsL_get L k h]
  exact adj_steps _ _ _ (by omega) ha (gAll_rng L hL k h)
/-- Matchpoints are what the adjusting asks of them. -/
theorem adj_asks (L : List (List Pt)) (hL : ∀ o ∈ L, rightM o = true) (k : Nat) (h : k < L.length) (f : Pt) (hf : (ptsL L)[k]'(by rw [ptsL_len]; exact h) = f) : 1 ≤ f.2 ∧ f.2 ≤ 10000 ∧ 0 ≤ f.1 ∧ f.1 ≤ 2 * ((L.length : Int) - 1) * f.2 := by
  have hg := gAll_rng L hL k h
  rw [ptsL_get L k h] at hf
  have e1 := fr_val (gAll L[k] L - 10000) 10000 (by decide)
  have d1 := fr_den (gAll L[k] L - 10000) 10000 (by decide)
  rw [hf] at e1 d1
  generalize gAll L[k] L = g at *
  have h1 := Int.mul_nonneg (show 0 ≤ g - 10000 by omega) (show 0 ≤ f.2 by omega)
  have h2 : (g - 10000) * f.2 ≤ (20000 * ((L.length : Int) - 1)) * f.2 := Int.mul_le_mul_of_nonneg_right (by omega) (by omega)
  rw [Int.mul_assoc] at h2
  rw [Int.mul_assoc]
  generalize ((L.length : Int) - 1) * f.2 = z at *
  exact ⟨d1.1, d1.2, by omega, by omega⟩

theorem sumK_adj (L : List (List Pt)) (all : Int) (k : Nat) (h : k ≤ L.length) (hn : 1 ≤ L.length) : sumK (adjL L all) k = fr (dblTo L L k * all - 10000 * L.length * k) (10000 * L.length) := by
  induction k with
  | zero =>
    have h0 : dblTo L L 0 = 0 := rfl
    rw [h0]
    unfold sumK
    have := whole_frD 0 (10000 * (L.length : Int)) (by omega)
    rw [show (0 : Int) * all - 10000 * (L.length : Int) * ((0 : Nat) : Int) = 0 * (10000 * (L.length : Int)) by simp, this]
    rfl
  | succ k ih =>
    rw [sumK_succ _ _ (by rw [adjL_len]; omega), ih (by omega), adjL_get L all k (by omega), add_frD _ _ _ (by omega), dblTo_succ L L k (by omega)]
    congr 1
    rw [Int.add_mul]
    push_cast
    rw [Int.mul_add]
    omega
theorem sumK_adj_sm (L : List (List Pt)) (hL : ∀ o ∈ L, rightM o = true) (all : Int) (hn : L.length ≤ 24) (ha : (L.length : Int) ≤ all ∧ all ≤ 24) (k : Nat) (h : k ≤ (adjL L all).length) : smF (sumK (adjL L all) k) := by
  rw [adjL_len] at h
  by_cases h1 : 1 ≤ L.length
  · rw [sumK_adj L all k h h1]
    have hr := dblTo_rng L hL hn k h
    have h2 := Int.mul_le_mul_of_nonneg_right (show dblTo L L k ≤ 7000000 by omega) (show 0 ≤ all by omega)
    have h3 := Int.mul_nonneg (show 0 ≤ dblTo L L k by omega) (show 0 ≤ all by omega)
    have h4 : 10000 * (L.length : Int) * (k : Int) ≤ 240000 * 24 := Int.mul_le_mul (by omega) (by omega) (by omega) (by omega)
    have h5 := Int.mul_nonneg (show 0 ≤ 10000 * (L.length : Int) by omega) (show 0 ≤ (k : Int) by omega)
    exact sm_frD _ _ (by omega) (by omega)
  · obtain rfl : k = 0 := by omega
    exact sm_whole 0 (by omega)
theorem sumK_adj_total (L : List (List Pt)) (hL : ∀ o ∈ L, rightM o = true) (all : Int) : sumK (adjL L all) (adjL L all).length = ((L.length : Int) * (all - 1), 1) := by
  rw [adjL_len]
  by_cases h1 : 1 ≤ L.length
  · rw [sumK_adj L all _ (Nat.le_refl _) h1]
    have h2 : dblTo L L L.length = dbl L L := by unfold dblTo; rw [List.take_length]
    rw [h2, dbl_self L hL, ← whole_frD _ (10000 * (L.length : Int)) (by omega)]
    congr 1
    grind
  · have h0 : L.length = 0 := by omega
    rw [h0]
    show (0, 1) = _
    simp
theorem adj_both (L : List (List Pt)) (hL : ∀ o ∈ L, rightM o = true) (all : Int) (k : Nat) (h : k < L.length) :
    addF ((adjL L all)[k]'(by rw [adjL_len]; exact h)) ((adjL (turnL L) all)[k]'(by rw [adjL_len, turnL_len]; exact h)) = (2 * (all - 1), 1) := by
  rw [adjL_get L all k h, adjL_get (turnL L) all k (by rw [turnL_len]; exact h), turnL_get L k h, gAll_neg _ _ (hL _ (List.getElem_mem h)) hL, turnL_len, add_frD _ _ _ (by omega), ← whole_frD _ (10000 * (L.length : Int)) (by omega)]
  congr 1
  grind
theorem adj_low (L : List (List Pt)) (hL : ∀ o ∈ L, rightM o = true) (all : Int) (hn : L.length ≤ 24) (ha : (L.length : Int) ≤ all ∧ all ≤ 24) (k : Nat) (h : k < L.length) : 0 ≤ cmpF ((adjL L all)[k]'(by rw [adjL_len]; exact h)) (0, 1) := by
  have := (adj_rng L hL all hn ha k h).2.2.2.2
  rw [adjL_get L all k h, ← whole_frD 0 (10000 * (L.length : Int)) (by omega), cmp_frD _ _ _ (by omega)]
  unfold cmpI
  (repeat' split) <;> omega
theorem adj_high (L : List (List Pt)) (hL : ∀ o ∈ L, rightM o = true) (all : Int) (hn : L.length ≤ 24) (ha : (L.length : Int) ≤ all ∧ all ≤ 24) (k : Nat) (h : k < L.length) : cmpF ((adjL L all)[k]'(by rw [adjL_len]; exact h)) (2 * (all - 1), 1) ≤ 0 := by
  have := (adj_rng L hL all hn ha k h).2.2.2.2
  rw [adjL_get L all k h, ← whole_frD (2 * (all - 1)) (10000 * (L.length : Int)) (by omega), cmp_frD _ _ _ (by omega)]
  unfold cmpI
  (repeat' split) <;> omega
theorem adj_full (L : List (List Pt)) (k : Nat) (h : k < L.length) : (adjL L L.length)[k]'(by rw [adjL_len]; exact h) = (ptsL L)[k]'(by rw [ptsL_len]; exact h) := by
  rw [adjL_get L _ k h, ptsL_get L k h]
  refine fr_cross _ _ _ _ (by omega) (by decide) ?_
  grind
theorem adj_one (r : List Pt) (hr : rightM r = true) (all : Int) : adjL [r] all = [(all - 1, 1)] := by
  have h : gAll r [r] = 10000 := by rw [gAll_cons, gAB_self r hr]; rfl
  show [adjF (ptsM r [r]) 1 all] = _
  unfold ptsM
  rw [h, adj_fr 10000 1 all (by decide)]
  have := whole_frD (all - 1) (10000 * 1) (by decide)
  rw [← this]
  congr 2
  omega
theorem adj_order (L : List (List Pt)) (all : Int) (ha : 1 ≤ all) (i k : Nat) (hi : i < L.length) (hk : k < L.length) :
    cmpF ((adjL L all)[i]'(by rw [adjL_len]; exact hi)) ((adjL L all)[k]'(by rw [adjL_len]; exact hk)) = cmpF ((ptsL L)[i]'(by rw [ptsL_len]; exact hi)) ((ptsL L)[k]'(by rw [ptsL_len]; exact hk)) := by
  rw [adjL_get L all i hi, adjL_get L all k hk, ptsL_get L i hi, ptsL_get L k hk, cmp_frD _ _ _ (by omega), cmp_frD _ _ _ (by decide)]
  generalize gAll L[i] L = x
  generalize gAll L[k] L = y
  have h1 : x < y → x * all < y * all := fun h => Int.mul_lt_mul_of_pos_right h (by omega)
  have h2 : y < x → y * all < x * all := fun h => Int.mul_lt_mul_of_pos_right h (by omega)
  unfold cmpI
  by_cases c1 : x < y
  · have := h1 c1
    rw [if_pos (by omega), if_pos (by omega)]
  · by_cases c2 : y < x
    · have := h2 c2
      rw [if_neg (by omega), if_pos (by omega), if_neg (by omega), if_pos (by omega)]
    · obtain rfl : x = y := by omega
      rw [if_neg (by omega), if_neg (by omega), if_neg (by omega), if_neg (by omega)]

end Go.Proofs.YtlobdeakgoicpaaDoor
