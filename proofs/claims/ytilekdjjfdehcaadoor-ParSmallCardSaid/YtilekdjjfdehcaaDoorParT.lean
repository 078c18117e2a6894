/- A table of tricks, in plain Lean: right ones, the best seat, what comes of a bid. No program stands in this text. -/
import Derived.Test.YtilekdjjfdehcaaDoorParLaw
namespace Go.Proofs.YtilekdjjfdehcaaDoor
open Go.RowKit

def okN (x : Int) : Bool := decide (0 ≤ x ∧ x ≤ 13)
/-- A table is right. -/
def rightT (t : Nat → Nat → Int) : Bool := (List.range 5).all fun d => (List.range 4).all fun s => okN (t d s)
theorem rightT_iff (t : Nat → Nat → Int) : rightT t = true ↔ ∀ d s, d < 5 → s < 4 → okN (t d s) = true := by
  unfold rightT
  simp only [List.all_eq_true, List.mem_range]
  exact ⟨fun h d s hd hs => h d hd s hs, fun h d hd s hs => h d s hd hs⟩
theorem rightT_bd {t : Nat → Nat → Int} (h : rightT t = true) {d s : Nat} (hd : d < 5) (hs : s < 4) : 0 ≤ t d s ∧ t d s ≤ 13 := of_decide_eq_true ((rightT_iff t).1 h d s hd hs)
/-- The tricks of a side in a denomination, and which seat declares. -/
def bstN (t : Nat → Nat → Int) (d s : Nat) : Int := if t d s < t d (s + 2) then t d (s + 2) else t d s
def bstS (t : Nat → Nat → Int) (d s : Nat) : Nat := if t d s < t d (s + 2) then s + 2 else s
theorem bstS_bd (t : Nat → Nat → Int) (d s : Nat) (hs : s ≤ 1) : bstS t d s ≤ 3 ∧ bstS t d s % 2 = s := by unfold bstS; split <;> omega
theorem bstN_bd {t : Nat → Nat → Int} (h : rightT t = true) {d s : Nat} (hd : d < 5) (hs : s ≤ 1) : 0 ≤ bstN t d s ∧ bstN t d s ≤ 13 := by
  unfold bstN; split
  · exact rightT_bd h hd (by omega)
  · exact rightT_bd h hd (by omega)
def lvl (b : Nat) : Int := ((b - 3) / 5 + 1 : Nat)
def dnm (b : Nat) : Nat := (b - 3) % 5
theorem lvl_bd (b : Nat) (h3 : 3 ≤ b) (h37 : b ≤ 37) : 1 ≤ lvl b ∧ lvl b ≤ 7 := by unfold lvl; omega
theorem dnm_bd (b : Nat) : dnm b < 5 := Nat.mod_lt _ (by decide)
def rsk (t : Nat → Nat → Int) (b s : Nat) : Int := if bstN t (dnm b) s < 6 + lvl b then 1 else 0
/-- What comes of a bid of a side that nobody raises, for North and South. -/
def finF (t : Nat → Nat → Int) (v : Int) (b s : Nat) : Int := scoreI (lvl b) (dnm b) (rsk t b s) (bstS t (dnm b) s) (bstN t (dnm b) s) v
/-- The same for the side that bids. -/
def ptF (t : Nat → Nat → Int) (v : Int) (b s : Nat) : Int := ptsI (lvl b) (dnm b) (rsk t b s) (bstN t (dnm b) s) (vulB v (bstS t (dnm b) s))
theorem finF_wo (t : Nat → Nat → Int) (v : Int) (b s : Nat) (hs : s ≤ 1) : finF t v b s = wo s (ptF t v b s) := by
  have h := bstS_bd t (dnm b) s hs
  unfold finF ptF scoreI wo
  by_cases h1 : s = 1
  · rw [if_pos (by omega), if_pos h1]
  · rw [if_neg (by omega), if_neg h1]
theorem wo_wo (s : Nat) (x : Int) : wo s (wo s x) = x := by unfold wo; split <;> omega
theorem res_ok (t : Nat → Nat → Int) (hr : rightT t = true) (b s : Nat) (h3 : 3 ≤ b) (h37 : b ≤ 37) (hs : s ≤ 1) : resultC (lvl b) (dnm b) (rsk t b s) (bstS t (dnm b) s) (bstN t (dnm b) s) = true := by
  have h1 := lvl_bd b h3 h37
  have h2 := dnm_bd b
  have h4 := bstS_bd t (dnm b) s hs
  have h5 := bstN_bd hr h2 hs
  have h6 : 0 ≤ rsk t b s ∧ rsk t b s ≤ 2 := by unfold rsk; split <;> omega
  unfold resultC
  refine decide_eq_true ⟨?_, h5.1, h5.2, .inl (by omega)⟩
  unfold rightC
  exact decide_eq_true (.inr (by omega))
theorem need_ok (t : Nat → Nat → Int) (b s : Nat) (h3 : 3 ≤ b) (h37 : b ≤ 37) (hs : s ≤ 1) : needC (lvl b) (dnm b) 0 (bstS t (dnm b) s) = 6 + lvl b := by
  have h1 := lvl_bd b h3 h37
  have h2 := dnm_bd b
  have h4 := bstS_bd t (dnm b) s hs
  unfold needC
  rw [if_pos ⟨by unfold rightC; exact decide_eq_true (.inr (by omega)), by omega⟩]

end Go.Proofs.YtilekdjjfdehcaaDoor
