/- The plain law of the statement ParStable, and Par's answer in one summary. -/
import Derived.Test.YtilekdjjfdehcaaDoorParPts
namespace Go.Proofs.YtilekdjjfdehcaaDoor
open Go.RowKit

theorem sideAt_mod (s i : Nat) (hs : s ≤ 1) : sideAt s i = (s + i) % 2 := by unfold sideAt; split <;> omega
theorem firstS_le (f : Nat → Nat → Int) (s : Nat) (hs : s ≤ 1) : firstS f s ≤ 1 := by
  unfold firstS
  split
  · exact hs
  · exact (beg_spec f s hs).1
theorem firstS_pos (f : Nat → Nat → Int) (s : Nat) (h : 0 < (bidsL f s).length) : firstS f s = begS f s := if_neg (by omega)
theorem stab_bid (f : Nat → Nat → Int) (s : Nat) (hs : s ≤ 1) (i : Nat) (hi : i < (bidsL f s).length) :
    3 ≤ (bidsL f s).getD i 0 ∧ (bidsL f s).getD i 0 ≤ 37 ∧ (lC f ((bidsL f s).getD i 0) (1 - sideAt (firstS f s) i)).2 = parV f s ∧ (0 < i → (bidsL f s).getD (i - 1) 0 < (bidsL f s).getD i 0) := by
  rw [firstS_pos f s (by omega)]
  have h := bids_spec f s hs i hi
  refine ⟨h.1, h.2.1, h.2.2.1, fun h0 => ?_⟩
  obtain ⟨j, rfl⟩ : ∃ j, i = j + 1 := ⟨i - 1, by omega⟩
  exact (bids_spec f s hs j (by omega)).2.2.2.2 hi
theorem stab_last (f : Nat → Nat → Int) (s : Nat) (hs : s ≤ 1) (i : Nat) (hi : (bidsL f s).length = i + 1) : f ((bidsL f s).getD i 0) (sideAt (firstS f s) i) = parV f s := by
  rw [firstS_pos f s (by omega)]
  exact bids_last f s hs i hi
/-- The outcome of par: nothing, or what comes of the last bid. -/
def OutC (t : Nat → Nat → Int) (v d : Nat) (c1 c2 c3 c4 c5 c6 : Int) : Prop :=
  ((bidsL (finG t v) (d % 2)).length = 0 → c1 = 0 ∧ c2 = 0 ∧ c3 = 0 ∧ c4 = 0 ∧ c5 = 0 ∧ c6 = 0) ∧
  (∀ j x q, (bidsL (finG t v) (d % 2)).length = j + 1 → (bidsL (finG t v) (d % 2)).getD j 0 = x → sideAt (firstS (finG t v) (d % 2)) j = q → c1 = lvl x ∧ c2 = (dnm x : Int) ∧ c3 = rsk t x q ∧ c4 = (bstS t (dnm x) q : Int) ∧ c5 = bstN t (dnm x) q ∧ c6 = 0)
def OutR (t : Nat → Nat → Int) (v d : Nat) (w : World) (e : Ending) (w' : World) : Prop :=
  ∃ c1 c2 c3 c4 c5 c6 : Int, OutC t v d c1 c2 c3 c4 c5 c6 ∧ e = .returned (.tuple #[.agg #[.int .u8 c1, .int .u8 c2, .int .u8 c3, .int .u8 c4, .int .i64 c5, .int .i64 c6], .int .i64 (parV (finG t v) (d % 2)), .int .i64 0]) ∧ Below w.heap.size w w'
theorem ppar_out (C : Array Value) (t : Nat → Nat → Int) (hC : TabC C t) (v d : Nat) (hv : v ≤ 3) (hd : d ≤ 3) (h : rightT t = true) (w : World) (hLa : LaidS w) :
    Calls Tryd.prog 12 #[.agg C, .int .u8 (v : Int), .int .u8 (d : Int)] w (OutR t v d w) := by
  have hs : d % 2 ≤ 1 := by omega
  rcases h0 : bidsL (finG t v) (d % 2) with _ | ⟨x, r⟩
  · refine (ppar_none C t hC v d hv hd h h0 w hLa).mono ?_
    rintro e w' ⟨rfl, hb⟩
    have hp := (bids_nil (finG t v) (d % 2) hs (beg_nil_of _ _ h0)).2.1
    refine ⟨0, 0, 0, 0, 0, 0, ⟨fun _ => ⟨rfl, rfl, rfl, rfl, rfl, rfl⟩, fun j x q hj => ?_⟩, by rw [hp]; rfl, hb⟩
    rw [h0] at hj; exact absurd hj (by simp)
  · have hj : (bidsL (finG t v) (d % 2)).length = r.length + 1 := by rw [h0]; rfl
    have hbs := bids_spec (finG t v) (d % 2) hs r.length (by omega)
    have hla := bids_last (finG t v) (d % 2) hs r.length hj
    have hq := sideAt_le (begS (finG t v) (d % 2)) r.length (beg_spec (finG t v) (d % 2) hs).1
    refine (ppar_some C t hC v d hv hd h r.length hj _ _ rfl rfl w hLa).mono ?_
    rintro e w' ⟨rfl, hb⟩
    have e : finG t v ((bidsL (finG t v) (d % 2)).getD r.length 0) (sideAt (begS (finG t v) (d % 2)) r.length) = finF t v ((bidsL (finG t v) (d % 2)).getD r.length 0) (sideAt (begS (finG t v) (d % 2)) r.length) := if_pos ⟨hbs.1, hbs.2.1, hq⟩
    rw [e] at hla
    rw [hla]
    unfold ocV
    refine ⟨_, _, _, _, _, _, ⟨fun hz => ?_, fun j x' q hj2 hx hq2 => ?_⟩, rfl, hb⟩
    · rw [hz] at hj; exact absurd hj (by omega)
    · obtain rfl : j = r.length := by omega
      rw [firstS_pos _ _ (by omega)] at hq2
      subst hx hq2
      exact ⟨rfl, rfl, rfl, rfl, rfl, rfl⟩

end Go.Proofs.YtilekdjjfdehcaaDoor
