/- What ParWrong calls, with wrong arguments. -/
import Derived.Test.YtilekdjjfdehcaaDoorParPts
namespace Go.Proofs.YtilekdjjfdehcaaDoor
open Go.RowKit

theorem best00 (C : Array Value) (t : Nat → Nat → Int) (hC : TabC C t) (h : rightT t = false) (w : World) :
    Calls Tryd.prog 20 #[.agg C, .int .u8 0, .int .u8 0] w fun e w' => e = .returned (.tuple #[.int .i64 0, .int .u8 0, .int .i64 2]) ∧ Below w.heap.size w w' := pbest_bad C t hC 0 0 (by decide) (by decide) (.inl h) w
theorem final030 (C : Array Value) (t : Nat → Nat → Int) (hC : TabC C t) (h : rightT t = false) (w : World) :
    Calls Tryd.prog 16 #[.agg C, .int .u8 0, .int .u8 3, .int .u8 0] w fun e w' => e = .returned finBad ∧ Below w.heap.size w w' := pfinal_bad C t hC 0 3 0 (by decide) (by decide) (by decide) (by decide) (.inl h) w
theorem value030 (C : Array Value) (t : Nat → Nat → Int) (hC : TabC C t) (h : rightT t = false) (w : World) :
    Calls Tryd.prog 19 #[.agg C, .int .u8 0, .int .u8 3, .int .u8 0] w fun e w' => e = .returned (.tuple #[.int .i64 0, .int .i64 2]) ∧ Below w.heap.size w w' := pvalue_bad C t hC 0 3 0 (by decide) (by decide) (by decide) (by decide) (.inl h) w
theorem bids00 (C : Array Value) (t : Nat → Nat → Int) (hC : TabC C t) (h : rightT t = false) (w : World) :
    Calls Tryd.prog 13 #[.agg C, .int .u8 0, .int .u8 0] w fun e w' => e = .returned (.tuple #[.slice none 0 0, .int .i64 2]) ∧ Below w.heap.size w w' := pbids_bad C t hC 0 0 (by decide) (by decide) (.inl h) w
theorem par00 (C : Array Value) (t : Nat → Nat → Int) (hC : TabC C t) (h : rightT t = false) (w : World) :
    Calls Tryd.prog 12 #[.agg C, .int .u8 0, .int .u8 0] w fun e w' => e = .returned finBad ∧ Below w.heap.size w w' := ppar_bad C t hC 0 0 (by decide) (by decide) (.inl h) w
theorem right_bad (C : Array Value) (t : Nat → Nat → Int) (hC : TabC C t) (h : rightT t = false) (w : World) :
    Calls Tryd.prog 21 #[.agg C] w fun e w' => e = .returned (.bool false) ∧ Below w.heap.size w w' := by
  have := pright_any C t hC w
  rw [h] at this
  exact this
theorem wrongF (C : Array Value) (t : Nat → Nat → Int) (hC : TabC C t) (a b c : Int) (ha : 0 ≤ a ∧ a ≤ 255) (hb : 0 ≤ b ∧ b ≤ 255) (hc : 0 ≤ c ∧ c ≤ 255) (h : 3 < a ∨ b < 3 ∨ 37 < b ∨ 1 < c) (w : World) :
    Calls Tryd.prog 16 #[.agg C, .int .u8 a, .int .u8 b, .int .u8 c] w fun e w' => e = .returned finBad ∧ Below w.heap.size w w' := by
  obtain ⟨a, rfl⟩ := Int.eq_ofNat_of_zero_le ha.1
  obtain ⟨b, rfl⟩ := Int.eq_ofNat_of_zero_le hb.1
  obtain ⟨c, rfl⟩ := Int.eq_ofNat_of_zero_le hc.1
  by_cases h1 : 3 < a ∨ b < 3 ∨ 37 < b
  · exact pfinal_arg C a b c (by omega) (by omega) h1 w
  · exact pfinal_bad C t hC a b c (by omega) (by omega) (by omega) (by omega) (.inr (by omega)) w
theorem wrongV (C : Array Value) (t : Nat → Nat → Int) (hC : TabC C t) (a b c : Int) (ha : 0 ≤ a ∧ a ≤ 255) (hb : 0 ≤ b ∧ b ≤ 255) (hc : 0 ≤ c ∧ c ≤ 255) (h : 3 < a ∨ b < 3 ∨ 37 < b ∨ 1 < c) (w : World) :
    Calls Tryd.prog 19 #[.agg C, .int .u8 a, .int .u8 b, .int .u8 c] w fun e w' => e = .returned (.tuple #[.int .i64 0, .int .i64 2]) ∧ Below w.heap.size w w' := by
  obtain ⟨a, rfl⟩ := Int.eq_ofNat_of_zero_le ha.1
  obtain ⟨b, rfl⟩ := Int.eq_ofNat_of_zero_le hb.1
  obtain ⟨c, rfl⟩ := Int.eq_ofNat_of_zero_le hc.1
  by_cases h1 : b < 3 ∨ 37 < b ∨ 1 < c
  · exact pvalue_arg C a b c (by omega) (by omega) h1 w
  · exact pvalue_bad C t hC a b c (by omega) (by omega) (by omega) (by omega) (.inr (by omega)) w
theorem best5 (C : Array Value) (t : Nat → Nat → Int) (hC : TabC C t) (a c : Int) (ha : 0 ≤ a ∧ a ≤ 255) (hc : 0 ≤ c ∧ c ≤ 255) (h : 4 < a ∨ 1 < c) (w : World) :
    Calls Tryd.prog 20 #[.agg C, .int .u8 a, .int .u8 c] w fun e w' => e = .returned (.tuple #[.int .i64 0, .int .u8 0, .int .i64 2]) ∧ Below w.heap.size w w' := by
  obtain ⟨a, rfl⟩ := Int.eq_ofNat_of_zero_le ha.1
  obtain ⟨c, rfl⟩ := Int.eq_ofNat_of_zero_le hc.1
  exact pbest_bad C t hC a c (by omega) (by omega) (.inr (by omega)) w
theorem bids4 (C : Array Value) (t : Nat → Nat → Int) (hC : TabC C t) (a c : Int) (ha : 0 ≤ a ∧ a ≤ 255) (hc : 0 ≤ c ∧ c ≤ 255) (h : 3 < a ∨ 3 < c) (w : World) :
    Calls Tryd.prog 13 #[.agg C, .int .u8 a, .int .u8 c] w fun e w' => e = .returned (.tuple #[.slice none 0 0, .int .i64 2]) ∧ Below w.heap.size w w' := by
  obtain ⟨a, rfl⟩ := Int.eq_ofNat_of_zero_le ha.1
  obtain ⟨c, rfl⟩ := Int.eq_ofNat_of_zero_le hc.1
  exact pbids_bad C t hC a c (by omega) (by omega) (.inr (by omega)) w
theorem par4 (C : Array Value) (t : Nat → Nat → Int) (hC : TabC C t) (a c : Int) (ha : 0 ≤ a ∧ a ≤ 255) (hc : 0 ≤ c ∧ c ≤ 255) (h : 3 < a ∨ 3 < c) (w : World) :
    Calls Tryd.prog 12 #[.agg C, .int .u8 a, .int .u8 c] w fun e w' => e = .returned finBad ∧ Below w.heap.size w w' := by
  obtain ⟨a, rfl⟩ := Int.eq_ofNat_of_zero_le ha.1
  obtain ⟨c, rfl⟩ := Int.eq_ofNat_of_zero_le hc.1
  exact ppar_bad C t hC a c (by omega) (by omega) (.inr (by omega)) w
/-- A table with one number changed. -/
def putT (t : Nat → Nat → Int) (d0 s0 : Nat) (x : Int) (d s : Nat) : Int := if d = d0 ∧ s = s0 then x else t d s
theorem putT_bad (t : Nat → Nat → Int) (d0 s0 : Nat) (hd : d0 < 5) (hs : s0 < 4) (x : Int) (hx : x < 0 ∨ 13 < x) : rightT (putT t d0 s0 x) = false := by
  rcases h : rightT (putT t d0 s0 x) with _ | _
  · rfl
  · have := rightT_bd h hd hs
    unfold putT at this
    rw [if_pos ⟨rfl, rfl⟩] at this
    omega

end Go.Proofs.YtilekdjjfdehcaaDoor
