/- Par by the best bids, in plain Lean: f b s is what comes of bid b by side s that nobody raises. No program stands in this text. -/
import Derived.Test.YtilekdjjfdehcaaDoorScoMath
namespace Go.Proofs.YtilekdjjfdehcaaDoor
open Go.RowKit

/-- Points as one side sees them. -/
def wo (s : Nat) (x : Int) : Int := if s = 1 then -x else x
theorem wo0 (x : Int) : wo 0 x = x := rfl
theorem wo1 (x : Int) : wo 1 x = -x := rfl
theorem wo_flip (s : Nat) (hs : s ≤ 1) (x : Int) : wo (1 - s) x = - wo s x := by
  rcases (show s = 0 ∨ s = 1 by omega) with rfl | rfl <;> simp [wo]
/-- Of two choices the better one for a side; the second one if they are equally good. -/
def pickC (s : Nat) (a c : Nat × Int) : Nat × Int := if wo s c.2 < wo s a.2 then a else c
theorem pick_ge (s : Nat) (a c : Nat × Int) : wo s a.2 ≤ wo s (pickC s a c).2 ∧ wo s c.2 ≤ wo s (pickC s a c).2 := by
  unfold pickC; split <;> omega
theorem pick_or (s : Nat) (a c : Nat × Int) : (pickC s a c = a ∧ wo s c.2 < wo s a.2) ∨ (pickC s a c = c ∧ wo s a.2 ≤ wo s c.2) := by
  unfold pickC; split
  · exact .inl ⟨rfl, by assumption⟩
  · exact .inr ⟨rfl, by omega⟩
/-- The best of the bids from 37 down to 37 - k for a side. -/
def tpF (f : Nat → Nat → Int) : Nat → Nat → Nat × Int
  | 0, s => (37, f 37 s)
  | k + 1, s => pickC s (tpF f k s) (37 - (k + 1), (pickC (1 - s) (tpF f k (1 - s)) (0, f (37 - (k + 1)) s)).2)
/-- The best choice of a side over a bid: a bid, or a pass that is worth p. -/
def chO (f : Nat → Nat → Int) (o s : Nat) (p : Int) : Nat × Int := if 37 ≤ o then (0, p) else pickC s (tpF f (36 - o) s) (0, p)
/-- The choice of side s behind bid b of the other one. -/
def lC (f : Nat → Nat → Int) (b s : Nat) : Nat × Int := chO f b s (f b (1 - s))
theorem sub_sub1 (s : Nat) (hs : s ≤ 1) : 1 - (1 - s) = s := by omega
theorem lC_top (f : Nat → Nat → Int) (s : Nat) : lC f 37 s = (0, f 37 (1 - s)) := rfl
theorem tpF_zero (f : Nat → Nat → Int) (s : Nat) (hs : s ≤ 1) : tpF f 0 s = (37, (lC f 37 (1 - s)).2) := by
  rw [lC_top, sub_sub1 s hs]; rfl
theorem tpF_succ (f : Nat → Nat → Int) (k s : Nat) (hs : s ≤ 1) (hk : k + 1 ≤ 34) : tpF f (k + 1) s = pickC s (tpF f k s) (37 - (k + 1), (lC f (37 - (k + 1)) (1 - s)).2) := by
  have e : lC f (37 - (k + 1)) (1 - s) = pickC (1 - s) (tpF f k (1 - s)) (0, f (37 - (k + 1)) s) := by
    unfold lC chO
    rw [if_neg (by omega), sub_sub1 s hs, show 36 - (37 - (k + 1)) = k by omega]
  rw [e]; rfl
theorem tp_mem (f : Nat → Nat → Int) (s : Nat) (hs : s ≤ 1) (k : Nat) (hk : k ≤ 34) :
    37 - k ≤ (tpF f k s).1 ∧ (tpF f k s).1 ≤ 37 ∧ (tpF f k s).2 = (lC f (tpF f k s).1 (1 - s)).2 ∧
    (∀ b, 37 - k ≤ b → b ≤ 37 → wo s (lC f b (1 - s)).2 ≤ wo s (tpF f k s).2) ∧ (∀ b, 37 - k ≤ b → b < (tpF f k s).1 → wo s (lC f b (1 - s)).2 < wo s (tpF f k s).2) := by
  induction k with
  | zero =>
    rw [tpF_zero f s hs]
    refine ⟨by omega, by omega, rfl, fun b h1 h2 => ?_, fun b h1 h2 => by dsimp only at h2; omega⟩
    obtain rfl : b = 37 := by omega
    exact Int.le_refl _
  | succ k ih =>
    obtain ⟨i1, i2, i3, i4, i5⟩ := ih (by omega)
    rw [tpF_succ f k s hs hk]
    rcases pick_or s (tpF f k s) (37 - (k + 1), (lC f (37 - (k + 1)) (1 - s)).2) with ⟨h, hl⟩ | ⟨h, hl⟩
    · rw [h]
      dsimp only at hl
      refine ⟨by omega, i2, i3, fun b h1 h2 => ?_, fun b h1 h2 => ?_⟩
      · by_cases hb : b = 37 - (k + 1)
        · rw [hb]; omega
        · exact i4 b (by omega) h2
      · by_cases hb : b = 37 - (k + 1)
        · rw [hb]; exact hl
        · exact i5 b (by omega) h2
    · rw [h]
      dsimp only at hl ⊢
      refine ⟨by omega, by omega, rfl, fun b h1 h2 => ?_, fun b h1 h2 => by omega⟩
      by_cases hb : b = 37 - (k + 1)
      · rw [hb]; exact Int.le_refl _
      · exact Int.le_trans (i4 b (by omega) h2) hl
/-- What a choice is. -/
theorem chO_spec (f : Nat → Nat → Int) (o s : Nat) (hs : s ≤ 1) (ho : 2 ≤ o) (p : Int) :
    wo s p ≤ wo s (chO f o s p).2 ∧ (∀ b, o < b → b ≤ 37 → wo s (lC f b (1 - s)).2 ≤ wo s (chO f o s p).2) ∧
    (((chO f o s p).1 = 0 ∧ (chO f o s p).2 = p) ∨ (o < (chO f o s p).1 ∧ (chO f o s p).1 ≤ 37 ∧ (chO f o s p).2 = (lC f (chO f o s p).1 (1 - s)).2 ∧ wo s p < wo s (chO f o s p).2 ∧
      ∀ b, o < b → b < (chO f o s p).1 → wo s (lC f b (1 - s)).2 < wo s (chO f o s p).2)) := by
  by_cases h : 37 ≤ o
  · have e : chO f o s p = (0, p) := if_pos h
    rw [e]
    exact ⟨Int.le_refl _, fun b h1 h2 => by omega, .inl ⟨rfl, rfl⟩⟩
  · have e : chO f o s p = pickC s (tpF f (36 - o) s) (0, p) := if_neg h
    obtain ⟨i1, i2, i3, i4, i5⟩ := tp_mem f s hs (36 - o) (by omega)
    rw [e]
    rcases pick_or s (tpF f (36 - o) s) (0, p) with ⟨h, hl⟩ | ⟨h, hl⟩
    · rw [h]
      dsimp only at hl
      exact ⟨by omega, fun b h1 h2 => i4 b (by omega) h2, .inr ⟨by omega, i2, i3, hl, fun b h1 h2 => i5 b (by omega) h2⟩⟩
    · rw [h]
      dsimp only at hl ⊢
      exact ⟨Int.le_refl _, fun b h1 h2 => Int.le_trans (i4 b (by omega) h2) hl, .inl ⟨rfl, rfl⟩⟩

/-! ### The bidding -/
/-- The second side's choice, the first one's, and who begins. -/
def secC (f : Nat → Nat → Int) (s : Nat) : Nat × Int := chO f 2 (1 - s) 0
def firC (f : Nat → Nat → Int) (s : Nat) : Nat × Int := chO f 2 s (secC f s).2
def begC (f : Nat → Nat → Int) (s : Nat) : Nat × Int := if (firC f s).1 = 0 then secC f s else firC f s
def begS (f : Nat → Nat → Int) (s : Nat) : Nat := if (firC f s).1 = 0 then 1 - s else s
/-- The points of par. -/
def parV (f : Nat → Nat → Int) (s : Nat) : Int := (firC f s).2
theorem beg_v (f : Nat → Nat → Int) (s : Nat) (hs : s ≤ 1) : (begC f s).2 = parV f s := by
  unfold begC parV
  split
  · rename_i h
    rcases (chO_spec f 2 s hs (by omega) (secC f s).2).2.2 with ⟨_, h2⟩ | ⟨h2, _⟩
    · exact h2.symm
    · exact absurd h (by unfold firC; omega)
  · rfl
/-- The bids from bid b of side s on. -/
def chain (f : Nat → Nat → Int) : Nat → Nat → Nat → List Nat
  | 0, _, _ => []
  | n + 1, b, s => if b = 0 then [] else b :: chain f n (lC f b (1 - s)).1 (1 - s)
/-- The bids that are made. -/
def bidsL (f : Nat → Nat → Int) (s : Nat) : List Nat := chain f 38 (begC f s).1 (begS f s)
/-- The side that makes the bid with an index, if the first one is made by s. -/
def sideAt (s i : Nat) : Nat := if i % 2 = 0 then s else 1 - s
theorem sideAt_le (s i : Nat) (hs : s ≤ 1) : sideAt s i ≤ 1 := by unfold sideAt; split <;> omega
theorem sideAt_succ (s i : Nat) (hs : s ≤ 1) : sideAt s (i + 1) = 1 - sideAt s i := by unfold sideAt; split <;> split <;> omega
theorem sideAt_flip (s i : Nat) (hs : s ≤ 1) : sideAt (1 - s) i = sideAt s (i + 1) := by unfold sideAt; split <;> split <;> omega
/-- The chain: each bid's answer is the next one, and all are worth the same. -/
theorem chain_spec (f : Nat → Nat → Int) (P : Int) : ∀ (n b s : Nat), s ≤ 1 → 38 ≤ n + b → (b = 0 ∨ 3 ≤ b ∧ b ≤ 37 ∧ (lC f b (1 - s)).2 = P) → (b = 0 → 1 ≤ n) → ∀ i, i < (chain f n b s).length →
    3 ≤ (chain f n b s).getD i 0 ∧ (chain f n b s).getD i 0 ≤ 37 ∧ b ≤ (chain f n b s).getD i 0 ∧ (lC f ((chain f n b s).getD i 0) (1 - sideAt s i)).2 = P ∧
    (lC f ((chain f n b s).getD i 0) (1 - sideAt s i)).1 = (chain f n b s).getD (i + 1) 0 ∧ (i + 1 < (chain f n b s).length → (chain f n b s).getD i 0 < (chain f n b s).getD (i + 1) 0) := by
  intro n
  induction n with
  | zero => intro b s _ _ h _ i hi; simp [chain] at hi
  | succ n ih =>
    intro b s hs hn h _ i hi
    by_cases hb : b = 0
    · rw [show chain f (n + 1) b s = [] from if_pos hb] at hi; simp at hi
    · have e : chain f (n + 1) b s = b :: chain f n (lC f b (1 - s)).1 (1 - s) := if_neg hb
      obtain ⟨h3, h37, hP⟩ : 3 ≤ b ∧ b ≤ 37 ∧ (lC f b (1 - s)).2 = P := by rcases h with h | h; exact absurd h hb; exact h
      have hsp := (chO_spec f b (1 - s) (by omega) (by omega) (f b (1 - (1 - s)))).2.2
      have hb2 : (lC f b (1 - s)).1 = 0 ∨ b < (lC f b (1 - s)).1 ∧ (lC f b (1 - s)).1 ≤ 37 ∧ (lC f (lC f b (1 - s)).1 (1 - (1 - s))).2 = P := by
        rcases hsp with ⟨h, _⟩ | ⟨h1, h2, h3, _⟩
        · exact .inl h
        · exact .inr ⟨h1, h2, h3.symm.trans hP⟩
      have ih' := ih (lC f b (1 - s)).1 (1 - s) (by omega)
      rw [e] at hi ⊢
      cases i with
      | zero =>
        refine ⟨h3, h37, Nat.le_refl _, hP, ?_, fun hl => ?_⟩
        · show (lC f b (1 - s)).1 = _
          show _ = (chain f n (lC f b (1 - s)).1 (1 - s)).getD 0 0
          cases n with
          | zero =>
            rcases hb2 with h0 | ⟨h1, h2, _⟩
            · rw [h0]; rfl
            · omega
          | succ n =>
            by_cases h0 : (lC f b (1 - s)).1 = 0
            · rw [show chain f (n + 1) (lC f b (1 - s)).1 (1 - s) = [] from if_pos h0, h0]; rfl
            · rw [show chain f (n + 1) (lC f b (1 - s)).1 (1 - s) = (lC f b (1 - s)).1 :: _ from if_neg h0]; rfl
        · have hl : 0 < (chain f n (lC f b (1 - s)).1 (1 - s)).length := by simpa using hl
          show b < (chain f n (lC f b (1 - s)).1 (1 - s)).getD 0 0
          rcases hb2 with h0 | ⟨h1, h2, h3⟩
          · exfalso
            cases n with
            | zero => simp [chain] at hl
            | succ n => rw [show chain f (n + 1) (lC f b (1 - s)).1 (1 - s) = [] from if_pos h0] at hl; simp at hl
          · have := (ih' (by omega) (.inr ⟨by omega, h2, h3⟩) (by omega) 0 hl).2.2.1
            omega
      | succ j =>
        have hj : j < (chain f n (lC f b (1 - s)).1 (1 - s)).length := by simpa using hi
        have hn1 : 38 ≤ n + (lC f b (1 - s)).1 := by
          rcases hb2 with h0 | ⟨h1, h2, h3⟩
          · exfalso
            cases n with
            | zero => simp [chain] at hj
            | succ n => rw [show chain f (n + 1) (lC f b (1 - s)).1 (1 - s) = [] from if_pos h0] at hj; simp at hj
          · omega
        have hq : (lC f b (1 - s)).1 = 0 ∨ 3 ≤ (lC f b (1 - s)).1 ∧ (lC f b (1 - s)).1 ≤ 37 ∧ (lC f (lC f b (1 - s)).1 (1 - (1 - s))).2 = P := by
          rcases hb2 with h0 | ⟨h1, h2, h3⟩
          · exact .inl h0
          · exact .inr ⟨by omega, h2, h3⟩
        have hr := ih' hn1 hq (by omega) j hj
        rw [sideAt_flip s j hs] at hr
        have hbl : b ≤ (chain f n (lC f b (1 - s)).1 (1 - s)).getD j 0 := by
          rcases hb2 with h0 | ⟨h1, h2, h3⟩
          · exfalso
            cases n with
            | zero => simp [chain] at hj
            | succ n => rw [show chain f (n + 1) (lC f b (1 - s)).1 (1 - s) = [] from if_pos h0] at hj; simp at hj
          · have := hr.2.2.1; omega
        refine ⟨hr.1, hr.2.1, hbl, hr.2.2.2.1, hr.2.2.2.2.1, fun hl => hr.2.2.2.2.2 (by simpa using hl)⟩

end Go.Proofs.YtilekdjjfdehcaaDoor
