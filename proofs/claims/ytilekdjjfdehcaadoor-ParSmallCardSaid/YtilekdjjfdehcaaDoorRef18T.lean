/- The program's par and the reference's return the same. -/
import Derived.Test.YtilekdjjfdehcaaDoorRef18R
namespace Go.Proofs.YtilekdjjfdehcaaDoor
open Go.RowKit

/-- An outcome of the program's, without a weight, and what stands beside it. -/
def outV (z1 z2 z3 z4 z5 : Int) : Value := .agg #[.int .u8 z1, .int .u8 z2, .int .u8 z3, .int .u8 z4, .int .i64 z5, .int .i64 0]
theorem best_pair (C : Array Value) (t : Nat → Nat → Int) (hC : TabC C t) (b s : Nat) (hb : b ≤ 255) (hs : s ≤ 255) : ∃ (n e : Int) (q : Nat), q ≤ 3 ∧
    (∀ W, Calls Tryd.prog 20 #[.agg C, .int .u8 (b : Int), .int .u8 (s : Int)] W fun r w' => r = .returned (.tuple #[.int .i64 n, .int .u8 (q : Int), .int .i64 e]) ∧ Below W.heap.size W w') ∧
    (∀ W, Calls Tryd.prog 25 #[.agg C, .int .i64 (b : Int), .int .i64 (s : Int)] W fun r w' => r = .returned (.tuple #[.int .i64 n, .int .i64 (q : Int), .int .i64 e]) ∧ Below W.heap.size W w') := by
  by_cases h : rightT t = true ∧ b < 5 ∧ s ≤ 1
  · exact ⟨_, _, _, (bstS_bd t b s h.2.2).1, fun W => pbest_ok C t hC b s h.2.1 h.2.2 h.1 W, fun W => r18best_ok C t hC b s h.2.1 h.2.2 h.1 W⟩
  · have h' : rightT t = false ∨ 4 < b ∨ 1 < s := by
      cases hr : rightT t with
      | false => exact .inl rfl
      | true => exact .inr (by rw [hr] at h; simp at h; omega)
    exact ⟨0, 2, 0, by omega, fun W => pbest_bad C t hC b s hb hs h' W, fun W => r18best_bad C t hC b s hb hs h' W⟩
theorem final_pair (C : Array Value) (t : Nat → Nat → Int) (hC : TabC C t) (v b s : Nat) (hv : v ≤ 255) (hb : b ≤ 255) (hs : s ≤ 255) : ∃ (z1 z2 z3 z4 z5 p e : Int),
    (∀ W, LaidS W → Calls Tryd.prog 16 #[.agg C, .int .u8 (v : Int), .int .u8 (b : Int), .int .u8 (s : Int)] W fun r w' => r = .returned (.tuple #[outV z1 z2 z3 z4 z5, .int .i64 p, .int .i64 e]) ∧ Below W.heap.size W w') ∧
    (∀ W, Calls Tryd.prog 27 #[.agg C, .int .i64 (v : Int), .int .i64 (b : Int), .int .i64 (s : Int)] W fun r w' => r = .returned (.tuple #[outV z1 z2 z3 z4 z5, .int .i64 p, .int .i64 e]) ∧ Below W.heap.size W w') := by
  by_cases h : rightT t = true ∧ v ≤ 3 ∧ 3 ≤ b ∧ b ≤ 37 ∧ s ≤ 1
  · obtain ⟨h1, h2, h3, h4, h5⟩ := h
    exact ⟨_, _, _, _, _, _, _, fun W hL => pfinal_ok C t hC v b s h2 h3 h4 h5 h1 W hL, fun W => r18final_ok C t hC v b s h2 h3 h4 h5 h1 W⟩
  · have h' : rightT t = false ∨ 3 < v ∨ b < 3 ∨ 37 < b ∨ 1 < s := by
      cases hr : rightT t with
      | false => exact .inl rfl
      | true => exact .inr (by rw [hr] at h; simp at h; omega)
    refine ⟨0, 0, 0, 0, 0, 0, 2, fun W hL => ?_, fun W => r18final_bad C t hC v b s hv hb hs h' W⟩
    by_cases ha : 3 < v ∨ b < 3 ∨ 37 < b
    · exact pfinal_arg C v b s hv hb ha W
    · exact pfinal_bad C t hC v b s (by omega) (by omega) (by omega) hs (by rcases h' with h' | h'; exact .inl h'; exact .inr (by omega)) W
theorem value_pair (C : Array Value) (t : Nat → Nat → Int) (hC : TabC C t) (v b s : Nat) (hv : v ≤ 255) (hb : b ≤ 255) (hs : s ≤ 255) : ∃ (x e : Int),
    (∀ W, LaidS W → Calls Tryd.prog 19 #[.agg C, .int .u8 (v : Int), .int .u8 (b : Int), .int .u8 (s : Int)] W fun r w' => r = .returned (.tuple #[.int .i64 x, .int .i64 e]) ∧ Below W.heap.size W w') ∧
    (∀ W, Calls Tryd.prog 28 #[.agg C, .int .i64 (v : Int), .int .i64 (b : Int), .int .i64 (s : Int)] W fun r w' => r = .returned (.tuple #[.int .i64 x, .int .i64 e]) ∧ Below W.heap.size W w') := by
  by_cases h : rightT t = true ∧ v ≤ 3 ∧ 3 ≤ b ∧ b ≤ 37 ∧ s ≤ 1
  · obtain ⟨h1, h2, h3, h4, h5⟩ := h
    exact ⟨_, _, fun W hL => pvalue_ok C t hC v b s h2 h3 h4 h5 h1 W hL, fun W => r18value_ok C t hC v b s h2 h3 h4 h5 h1 W⟩
  · have h' : rightT t = false ∨ 3 < v ∨ b < 3 ∨ 37 < b ∨ 1 < s := by
      cases hr : rightT t with
      | false => exact .inl rfl
      | true => exact .inr (by rw [hr] at h; simp at h; omega)
    refine ⟨0, 2, fun W hL => ?_, fun W => r18value_bad C t hC v b s hv hb hs h' W⟩
    by_cases ha : b < 3 ∨ 37 < b ∨ 1 < s
    · exact pvalue_arg C v b s hb hs ha W
    · exact pvalue_bad C t hC v b s hv (by omega) (by omega) (by omega) (by rcases h' with h' | h'; exact .inl h'; exact .inr (by omega)) W
theorem bids_pair (C : Array Value) (t : Nat → Nat → Int) (hC : TabC C t) (v d : Nat) (hv : v ≤ 255) (hd : d ≤ 255) : ∃ (l : List Nat) (q e : Int),
    (∀ W, LaidS W → Calls Tryd.prog 13 #[.agg C, .int .u8 (v : Int), .int .u8 (d : Int)] W fun r w' => ∃ sv, r = .returned (.tuple #[sv, .int .i64 e]) ∧ w'.ownsRow W.heap.size 5 1 sv l.length (bC l) ∧ Below W.heap.size W w') ∧
    (∀ W, Calls Tryd.prog 29 #[.agg C, .int .i64 (v : Int), .int .i64 (d : Int)] W fun r w' => ∃ sv, r = .returned (.tuple #[sv, .int .i64 q, .int .i64 e]) ∧ w'.ownsRow W.heap.size 5 1 sv l.length (bC l) ∧ Below W.heap.size W w') := by
  by_cases h : rightT t = true ∧ v ≤ 3 ∧ d ≤ 3
  · obtain ⟨h1, h2, h3⟩ := h
    exact ⟨_, _, _, fun W hL => pbids_ok C t hC v d h2 h3 h1 W hL, fun W => r18bids_ok C t hC v d h2 h3 h1 W⟩
  · have h' : rightT t = false ∨ 3 < v ∨ 3 < d := by
      cases hr : rightT t with
      | false => exact .inl rfl
      | true => exact .inr (by rw [hr] at h; simp at h; omega)
    exact ⟨[], 0, 2, fun W hL => (pbids_bad C t hC v d hv hd h' W).mono fun r w' h => ⟨_, h.1, own_nil, h.2⟩, fun W => (r18bids_bad C t hC v d hv hd h' W).mono fun r w' h => ⟨_, h.1, own_nil, h.2⟩⟩
theorem par_pair (C : Array Value) (t : Nat → Nat → Int) (hC : TabC C t) (v d : Nat) (hv : v ≤ 255) (hd : d ≤ 255) : ∃ (z1 z2 z3 z4 z5 p e : Int),
    (∀ W, LaidS W → Calls Tryd.prog 12 #[.agg C, .int .u8 (v : Int), .int .u8 (d : Int)] W fun r w' => r = .returned (.tuple #[outV z1 z2 z3 z4 z5, .int .i64 p, .int .i64 e]) ∧ Below W.heap.size W w') ∧
    (∀ W, Calls Tryd.prog 30 #[.agg C, .int .i64 (v : Int), .int .i64 (d : Int)] W fun r w' => r = .returned (.tuple #[outV z1 z2 z3 z4 z5, .int .i64 p, .int .i64 e]) ∧ Below W.heap.size W w') := by
  by_cases h : rightT t = true ∧ v ≤ 3 ∧ d ≤ 3
  · obtain ⟨h1, h2, h3⟩ := h
    cases hl : (bidsL (finG t v) (d % 2)).length with
    | zero =>
      have h0 := List.eq_nil_of_length_eq_zero hl
      exact ⟨0, 0, 0, 0, 0, 0, 0, fun W hL => ppar_none C t hC v d h2 h3 h1 h0 W hL, fun W => r18par_none C t hC v d h2 h3 h1 h0 W⟩
    | succ j =>
      exact ⟨_, _, _, _, _, _, _, fun W hL => ppar_some C t hC v d h2 h3 h1 j hl _ _ rfl rfl W hL, fun W => r18par_some C t hC v d h2 h3 h1 j hl _ _ rfl rfl W⟩
  · have h' : rightT t = false ∨ 3 < v ∨ 3 < d := by
      cases hr : rightT t with
      | false => exact .inl rfl
      | true => exact .inr (by rw [hr] at h; simp at h; omega)
    exact ⟨0, 0, 0, 0, 0, 0, 2, fun W hL => ppar_bad C t hC v d hv hd h' W, fun W => r18par_bad C t hC v d hv hd h' W⟩

end Go.Proofs.YtilekdjjfdehcaaDoor
