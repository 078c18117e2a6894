/- The reference's array of points, in plain Lean. -/
import Derived.Test.YtilekdjjfdehcaaDoorParValues
namespace Go.Proofs.YtilekdjjfdehcaaDoor
open Go.RowKit

/-- The cells of the reference's array of points. -/
def VC (C : Array Value) (V : Nat → Nat → Int) : Prop := C.size = 76 ∧ C.all (·.oneCell') = true ∧ ∀ b s : Nat, b ≤ 37 → s ≤ 1 → C[b * 2 + s]? = some (.int .i64 (V b s))
theorem info_vc : (Tryd.prog.info? 81).map (·.size) = some 76 := by kernel_rfl
theorem VC.info {C : Array Value} {V : Nat → Nat → Int} (h : VC C V) : (Tryd.prog.info? 81).map (·.size) = some C.size := by rw [info_vc, h.1]
theorem rcTo_bd (V : Nat → Nat → Int) (hV : ∀ b s, -10000 ≤ V b s ∧ V b s ≤ 10000) (s o : Nat) (p : Int) (hp : -10000 ≤ p ∧ p ≤ 10000) (n : Nat) : -10000 ≤ (rcTo V s o p n).2 ∧ (rcTo V s o p n).2 ≤ 10000 := by
  induction n with
  | zero => exact hp
  | succ n ih => unfold rcTo; split; exact hV _ _; exact ih
theorem VC.congr {C : Array Value} {V V' : Nat → Nat → Int} (h : VC C V) (e : ∀ b s, b ≤ 37 → s ≤ 1 → V b s = V' b s) : VC C V' :=
  ⟨h.1, h.2.1, fun b s hb hs => by rw [← e b s hb hs]; exact h.2.2 b s hb hs⟩
/-- One number set. -/
theorem VC.set {C : Array Value} {V V' : Nat → Nat → Int} (h : VC C V) (b s : Nat) (x : Int) (hx : V' b s = x) (e : ∀ b' s', b' ≤ 37 → s' ≤ 1 → ¬ (b' = b ∧ s' = s) → V b' s' = V' b' s') (hs : s ≤ 1) : VC (C.setIfInBounds (b * 2 + s) (.int .i64 x)) V' := by
  obtain ⟨h1, h2, h3⟩ := h
  refine ⟨by rw [Array.size_setIfInBounds]; exact h1, ?_, fun b' s' hb' hs' => ?_⟩
  · rw [Array.all_eq_true] at h2 ⊢
    intro i hi
    have hi' : i < C.size := by rw [Array.size_setIfInBounds] at hi; exact hi
    rw [Array.getElem_setIfInBounds hi']
    split
    · rfl
    · exact h2 i hi'
  · rw [Array.getElem?_setIfInBounds, h1]
    by_cases he : b' = b ∧ s' = s
    · obtain ⟨rfl, rfl⟩ := he
      rw [if_pos rfl, if_pos (by omega), hx]
    · rw [if_neg (by omega), h3 b' s' hb' hs', e b' s' hb' hs' he]
/-- The points that are known when bid B and side S come next. -/
def valV (f : Nat → Nat → Int) (B S b s : Nat) : Int := if (B < b ∨ b = B ∧ s < S) ∧ b ≤ 37 ∧ s ≤ 1 then (lC f b s).2 else 0
theorem chO_bd (f : Nat → Nat → Int) (hf : ∀ b s, -10000 ≤ f b s ∧ f b s ≤ 10000) (o s : Nat) (ho : 2 ≤ o) (hs : s ≤ 1) (p : Int) (hp : -10000 ≤ p ∧ p ≤ 10000) : -10000 ≤ (chO f o s p).2 ∧ (chO f o s p).2 ≤ 10000 := by
  rw [← chQ_eq f (stQ f (dnN 35)) o s ho hs p (fun b h1 h2 => by rw [stQ_all f 35 (by omega) b _ (by omega) h2 (by omega)])]
  exact (okQ_ch (okQ_st f hf (dnN 35)) o s p hp).2
theorem valV_bd (f : Nat → Nat → Int) (hf : ∀ b s, -10000 ≤ f b s ∧ f b s ≤ 10000) (B S : Nat) (hB : 2 ≤ B) (b s : Nat) : -10000 ≤ valV f B S b s ∧ valV f B S b s ≤ 10000 := by
  unfold valV
  split
  · rename_i h
    exact chO_bd f hf b s (by omega) h.2.2 _ (hf _ _)
  · decide
theorem valV_next (f : Nat → Nat → Int) (B : Nat) (b s : Nat) (hs : s ≤ 1) : valV f (B + 1) 2 b s = valV f B 0 b s := by
  unfold valV
  by_cases h : (B < b ∨ b = B ∧ s < 0) ∧ b ≤ 37 ∧ s ≤ 1
  · rw [if_pos h, if_pos (by omega)]
  · rw [if_neg h, if_neg (by omega)]
theorem valV_other (f : Nat → Nat → Int) (B S : Nat) (b s : Nat) (h : ¬ (b = B ∧ s = S)) : valV f B S b s = valV f B (S + 1) b s := by
  unfold valV
  by_cases h1 : (B < b ∨ b = B ∧ s < S) ∧ b ≤ 37 ∧ s ≤ 1
  · rw [if_pos h1, if_pos (by omega)]
  · rw [if_neg h1, if_neg (by omega)]
theorem valV_self (f : Nat → Nat → Int) (B S : Nat) (hB : B ≤ 37) (hS : S ≤ 1) : valV f B (S + 1) B S = (lC f B S).2 := by
  unfold valV; rw [if_pos (by omega)]
/-- What the reference chooses by the points known is the choice. -/
theorem rcV_eq (f : Nat → Nat → Int) (B S o s : Nat) (hs : s ≤ 1) (ho : 2 ≤ o) (hB : B ≤ o) (p : Int) : rcTo (valV f B S) s o p 35 = chO f o s p :=
  rc_eq f _ s o hs ho p (fun b h1 h2 => by unfold valV; rw [if_pos (by omega)])
/-- The zero array. -/
def vcZ : Array Value := Array.replicate 76 (.int .i64 0)
theorem vcZ_ok (f : Nat → Nat → Int) : VC vcZ (valV f 37 0) := by
  refine ⟨by simp [vcZ], ?_, fun b s hb hs => ?_⟩
  · unfold vcZ
    rw [Array.all_eq_true]
    intro i hi
    rw [Array.getElem_replicate]
    rfl
  · unfold vcZ
    rw [Array.getElem?_replicate, if_pos (by omega)]
    unfold valV
    rw [if_neg (by omega)]
theorem vc_zero : (Tryd.prog.info? 81).map (·.zero) = some (some (.agg vcZ)) := by kernel_rfl

end Go.Proofs.YtilekdjjfdehcaaDoor
