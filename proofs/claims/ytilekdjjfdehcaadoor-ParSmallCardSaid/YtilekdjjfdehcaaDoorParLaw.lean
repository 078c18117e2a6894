/- The plain laws of par: it is stable, it changes its sign if the seats are passed on, more tricks never cost; nobody bids without tricks. No program stands in this text. -/
import Derived.Test.YtilekdjjfdehcaaDoorParMath
namespace Go.Proofs.YtilekdjjfdehcaaDoor
open Go.RowKit

theorem beg_spec (f : Nat → Nat → Int) (s : Nat) (hs : s ≤ 1) :
    begS f s ≤ 1 ∧ ((begC f s).1 = 0 ∨ 3 ≤ (begC f s).1 ∧ (begC f s).1 ≤ 37 ∧ (lC f (begC f s).1 (1 - begS f s)).2 = parV f s) := by
  have hF := chO_spec f 2 s hs (by omega) (secC f s).2
  have hS := chO_spec f 2 (1 - s) (by omega) (by omega) 0
  by_cases h : (firC f s).1 = 0
  · have e1 : begC f s = secC f s := if_pos h
    have e2 : begS f s = 1 - s := if_pos h
    rw [e1, e2]
    refine ⟨by omega, ?_⟩
    have hv : parV f s = (secC f s).2 := by rw [← beg_v f s hs, e1]
    rw [hv]
    rcases hS.2.2 with ⟨h1, _⟩ | ⟨h1, h2, h3, _⟩
    · exact .inl h1
    · exact .inr ⟨h1, h2, h3.symm⟩
  · have e1 : begC f s = firC f s := if_neg h
    have e2 : begS f s = s := if_neg h
    rw [e1, e2]
    refine ⟨hs, ?_⟩
    rcases hF.2.2 with ⟨h1, _⟩ | ⟨h1, h2, h3, _⟩
    · exact absurd h1 h
    · exact .inr ⟨h1, h2, h3.symm⟩
/-- No first bid is worth more than par to the side that begins. -/
theorem beg_opt (f : Nat → Nat → Int) (s : Nat) (hs : s ≤ 1) (b : Nat) (h3 : 3 ≤ b) (h37 : b ≤ 37) : wo (begS f s) (lC f b (1 - begS f s)).2 ≤ wo (begS f s) (parV f s) := by
  have hF := chO_spec f 2 s hs (by omega) (secC f s).2
  have hS := chO_spec f 2 (1 - s) (by omega) (by omega) 0
  by_cases h : (firC f s).1 = 0
  · have e2 : begS f s = 1 - s := if_pos h
    have hv : parV f s = (secC f s).2 := by rw [← beg_v f s hs, show begC f s = secC f s from if_pos h]
    rw [e2, hv]
    exact hS.2.1 b (by omega) h37
  · have e2 : begS f s = s := if_neg h
    rw [e2]
    exact hF.2.1 b (by omega) h37
theorem bids_nil (f : Nat → Nat → Int) (s : Nat) (hs : s ≤ 1) (h : (begC f s).1 = 0) : bidsL f s = [] ∧ parV f s = 0 ∧ ∀ b, 3 ≤ b → b ≤ 37 → wo s (lC f b (1 - s)).2 ≤ wo s 0 := by
  have hF := chO_spec f 2 s hs (by omega) (secC f s).2
  have hS := chO_spec f 2 (1 - s) (by omega) (by omega) 0
  have h1 : (firC f s).1 = 0 := by
    by_cases h1 : (firC f s).1 = 0
    · exact h1
    · rw [show begC f s = firC f s from if_neg h1] at h; exact h
  have e1 : begC f s = secC f s := if_pos h1
  have hv : parV f s = (secC f s).2 := by rw [← beg_v f s hs, e1]
  rw [e1] at h
  have h0 : (secC f s).2 = 0 := by
    rcases hS.2.2 with ⟨_, h2⟩ | ⟨h2, _⟩
    · exact h2
    · exact absurd h (by unfold secC; omega)
  refine ⟨?_, hv.trans h0, fun b h3 h37 => ?_⟩
  · unfold bidsL
    rw [show (begC f s).1 = 0 by rw [e1]; exact h]
    rfl
  · have := hF.2.1 b (by omega) h37
    have hp : (firC f s).2 = 0 := by
      rcases hF.2.2 with ⟨_, h2⟩ | ⟨h2, _⟩
      · exact h2.trans h0
      · exact absurd h1 (by unfold firC; omega)
    rw [← hp]; exact this
/-- What the bids are: the first one of the side that begins, each one higher than the last one, all worth par. -/
theorem bids_spec (f : Nat → Nat → Int) (s : Nat) (hs : s ≤ 1) (i : Nat) (hi : i < (bidsL f s).length) :
    3 ≤ (bidsL f s).getD i 0 ∧ (bidsL f s).getD i 0 ≤ 37 ∧ (lC f ((bidsL f s).getD i 0) (1 - sideAt (begS f s) i)).2 = parV f s ∧
    (lC f ((bidsL f s).getD i 0) (1 - sideAt (begS f s) i)).1 = (bidsL f s).getD (i + 1) 0 ∧ (i + 1 < (bidsL f s).length → (bidsL f s).getD i 0 < (bidsL f s).getD (i + 1) 0) := by
  have hb := beg_spec f s hs
  have := chain_spec f (parV f s) 38 (begC f s).1 (begS f s) hb.1 (by omega) hb.2 (by omega) i hi
  exact ⟨this.1, this.2.1, this.2.2.2.1, this.2.2.2.2.1, this.2.2.2.2.2⟩
theorem chain_len (f : Nat → Nat → Int) : ∀ (n b s : Nat), (chain f n b s).length ≤ n := by
  intro n
  induction n with
  | zero => intro b s; simp [chain]
  | succ n ih =>
    intro b s
    by_cases h : b = 0
    · rw [show chain f (n + 1) b s = [] from if_pos h]; simp
    · rw [show chain f (n + 1) b s = b :: chain f n (lC f b (1 - s)).1 (1 - s) from if_neg h]
      have := ih (lC f b (1 - s)).1 (1 - s)
      simp; omega
theorem bids_len (f : Nat → Nat → Int) (s : Nat) : (bidsL f s).length ≤ 38 := chain_len f 38 _ _
/-- The last bid's result is par. -/
theorem bids_last (f : Nat → Nat → Int) (s : Nat) (hs : s ≤ 1) (n : Nat) (hn : (bidsL f s).length = n + 1) : f ((bidsL f s).getD n 0) (sideAt (begS f s) n) = parV f s := by
  obtain ⟨h1, h2, h3, h4, -⟩ := bids_spec f s hs n (by omega)
  have hb := beg_spec f s hs
  have hsd := sideAt_le (begS f s) n hb.1
  have h0 : (bidsL f s).getD (n + 1) 0 = 0 := by rw [List.getD_eq_getElem?_getD, List.getElem?_eq_none (by omega)]; rfl
  rw [h0] at h4
  have hsp := (chO_spec f ((bidsL f s).getD n 0) (1 - sideAt (begS f s) n) (by omega) (by omega) (f ((bidsL f s).getD n 0) (1 - (1 - sideAt (begS f s) n)))).2.2
  rw [sub_sub1 _ hsd] at hsp
  have e : lC f ((bidsL f s).getD n 0) (1 - sideAt (begS f s) n) = chO f ((bidsL f s).getD n 0) (1 - sideAt (begS f s) n) (f ((bidsL f s).getD n 0) (sideAt (begS f s) n)) := by
    unfold lC; rw [sub_sub1 _ hsd]
  rw [← e] at hsp
  rcases hsp with ⟨_, h⟩ | ⟨h, _⟩
  · rw [← h3, h]
  · omega
theorem beg_nil_of (f : Nat → Nat → Int) (s : Nat) (h : bidsL f s = []) : (begC f s).1 = 0 := by
  by_cases h0 : (begC f s).1 = 0
  · exact h0
  · unfold bidsL at h
    rw [show chain f 38 (begC f s).1 (begS f s) = (begC f s).1 :: _ from if_neg h0] at h
    cases h
/-- Who makes the first bid, as the last one tells it. -/
def firstS (f : Nat → Nat → Int) (s : Nat) : Nat := if (bidsL f s).length = 0 then s else begS f s
/-- In each turn no bid above the last one, nor a pass, is worth more than par. -/
theorem turn_opt (f : Nat → Nat → Int) (s : Nat) (hs : s ≤ 1) (i : Nat) (hi : i ≤ (bidsL f s).length) :
    (∀ b, 3 ≤ b → b ≤ 37 → (0 < i → (bidsL f s).getD (i - 1) 0 < b) → wo (sideAt (firstS f s) i) (lC f b (1 - sideAt (firstS f s) i)).2 ≤ wo (sideAt (firstS f s) i) (parV f s)) ∧
    (0 < i → wo (sideAt (firstS f s) i) (f ((bidsL f s).getD (i - 1) 0) (1 - sideAt (firstS f s) i)) ≤ wo (sideAt (firstS f s) i) (parV f s)) := by
  have hb := beg_spec f s hs
  cases i with
  | zero =>
    refine ⟨fun b h3 h37 _ => ?_, fun h => absurd h (by omega)⟩
    show wo (firstS f s) (lC f b (1 - firstS f s)).2 ≤ wo (firstS f s) (parV f s)
    unfold firstS
    by_cases hl : (bidsL f s).length = 0
    · rw [if_pos hl]
      obtain ⟨_, h2, h3'⟩ := bids_nil f s hs (beg_nil_of f s (List.eq_nil_of_length_eq_zero hl))
      rw [h2]; exact h3' b h3 h37
    · rw [if_neg hl]; exact beg_opt f s hs b h3 h37
  | succ j =>
    have hl : ¬ (bidsL f s).length = 0 := by omega
    have ef : firstS f s = begS f s := if_neg hl
    rw [ef, sideAt_succ _ _ hb.1]
    obtain ⟨h1, h2, h3, h4, -⟩ := bids_spec f s hs j (by omega)
    have hsd := sideAt_le (begS f s) j hb.1
    have hsp := chO_spec f ((bidsL f s).getD j 0) (1 - sideAt (begS f s) j) (by omega) (by omega) (f ((bidsL f s).getD j 0) (1 - (1 - sideAt (begS f s) j)))
    have e : chO f ((bidsL f s).getD j 0) (1 - sideAt (begS f s) j) (f ((bidsL f s).getD j 0) (1 - (1 - sideAt (begS f s) j))) = lC f ((bidsL f s).getD j 0) (1 - sideAt (begS f s) j) := rfl
    rw [e, h3] at hsp
    refine ⟨fun b _ h37 hlt => ?_, fun _ => ?_⟩
    · exact hsp.2.1 b (hlt (by omega)) h37
    · exact hsp.1

/-! ### Passed on by one seat -/
def negC (c : Nat × Int) : Nat × Int := (c.1, - c.2)
theorem pick_turn (s : Nat) (hs : s ≤ 1) (a c : Nat × Int) : pickC s (negC a) (negC c) = negC (pickC (1 - s) a c) := by
  have e : ∀ x : Nat × Int, wo s (negC x).2 = wo (1 - s) x.2 := fun x => by
    rw [wo_flip s hs]
    rcases (show s = 0 ∨ s = 1 by omega) with rfl | rfl <;> simp [wo, negC]
  rcases pick_or (1 - s) a c with ⟨h, hl⟩ | ⟨h, hl⟩ <;> rcases pick_or s (negC a) (negC c) with ⟨h', hl'⟩ | ⟨h', hl'⟩
  · rw [h, h']
  · rw [e, e] at hl'; omega
  · rw [e, e] at hl'; omega
  · rw [h, h']
theorem tp_turn (f g : Nat → Nat → Int) (h : ∀ b s, 3 ≤ b → b ≤ 37 → s ≤ 1 → g b s = - f b (1 - s)) (k : Nat) (hk : k ≤ 34) : ∀ s, s ≤ 1 → tpF g k s = negC (tpF f k (1 - s)) := by
  induction k with
  | zero => intro s hs; show (37, g 37 s) = _; rw [h 37 s (by omega) (by omega) hs]; rfl
  | succ k ih =>
    intro s hs
    show pickC s (tpF g k s) (37 - (k + 1), (pickC (1 - s) (tpF g k (1 - s)) (0, g (37 - (k + 1)) s)).2) = negC (pickC (1 - s) (tpF f k (1 - s)) (37 - (k + 1), (pickC (1 - (1 - s)) (tpF f k (1 - (1 - s))) (0, f (37 - (k + 1)) (1 - s))).2))
    rw [ih (by omega) s hs, ih (by omega) (1 - s) (by omega), h _ s (by omega) (by omega) hs, ← pick_turn s hs]
    have e : ((0, - f (37 - (k + 1)) (1 - s)) : Nat × Int) = negC (0, f (37 - (k + 1)) (1 - s)) := rfl
    rw [e, pick_turn (1 - s) (by omega)]
    rfl
theorem chO_turn (f g : Nat → Nat → Int) (h : ∀ b s, 3 ≤ b → b ≤ 37 → s ≤ 1 → g b s = - f b (1 - s)) (o s : Nat) (ho : 2 ≤ o) (hs : s ≤ 1) (p : Int) : chO g o s (-p) = negC (chO f o (1 - s) p) := by
  unfold chO
  split
  · rfl
  · rw [tp_turn f g h (36 - o) (by omega) s hs]
    exact pick_turn s hs _ (0, p)
theorem lC_turn (f g : Nat → Nat → Int) (h : ∀ b s, 3 ≤ b → b ≤ 37 → s ≤ 1 → g b s = - f b (1 - s)) (b s : Nat) (h3 : 3 ≤ b) (h37 : b ≤ 37) (hs : s ≤ 1) : lC g b s = negC (lC f b (1 - s)) := by
  unfold lC
  rw [h b (1 - s) h3 h37 (by omega)]
  exact chO_turn f g h b s (by omega) hs _
theorem par_turn (f g : Nat → Nat → Int) (h : ∀ b s, 3 ≤ b → b ≤ 37 → s ≤ 1 → g b s = - f b (1 - s)) (s : Nat) (hs : s ≤ 1) : parV g (1 - s) = - parV f s ∧ bidsL g (1 - s) = bidsL f s := by
  have e0 : secC g (1 - s) = negC (secC f s) := by
    unfold secC
    have := chO_turn f g h 2 (1 - (1 - s)) (by omega) (by omega) 0
    rw [show (-0 : Int) = 0 from rfl, sub_sub1 s hs] at this
    rw [sub_sub1 s hs]; exact this
  have e1 : firC g (1 - s) = negC (firC f s) := by
    unfold firC
    rw [e0]
    have := chO_turn f g h 2 (1 - s) (by omega) (by omega) (secC f s).2
    rw [sub_sub1 s hs] at this
    exact this
  refine ⟨by unfold parV; rw [e1]; rfl, ?_⟩
  have ec : ∀ (n b s : Nat), s ≤ 1 → 38 ≤ n + b → (b = 0 ∨ 3 ≤ b ∧ b ≤ 37) → chain g n b (1 - s) = chain f n b s := by
    intro n
    induction n with
    | zero => intro b s _ _ _; rfl
    | succ n ih =>
      intro b s hs hn hb
      by_cases h0 : b = 0
      · rw [show chain g (n + 1) b (1 - s) = [] from if_pos h0, show chain f (n + 1) b s = [] from if_pos h0]
      · rw [show chain g (n + 1) b (1 - s) = b :: chain g n (lC g b (1 - (1 - s))).1 (1 - (1 - s)) from if_neg h0, show chain f (n + 1) b s = b :: chain f n (lC f b (1 - s)).1 (1 - s) from if_neg h0]
        rw [sub_sub1 s hs]
        have el : (lC g b s).1 = (lC f b (1 - s)).1 := by rw [lC_turn f g h b s (by omega) (by omega) hs]; rfl
        rw [el]
        have hsp := (chO_spec f b (1 - s) (by omega) (by omega) (f b (1 - (1 - s)))).2.2
        have hb2 : (lC f b (1 - s)).1 = 0 ∨ b < (lC f b (1 - s)).1 ∧ (lC f b (1 - s)).1 ≤ 37 := by
          rcases hsp with ⟨h, _⟩ | ⟨h1, h2, _⟩
          · exact .inl h
          · exact .inr ⟨h1, h2⟩
        rcases hb2 with h2 | ⟨h2, h3⟩
        · rw [h2]
          cases n with
          | zero => rfl
          | succ n => rfl
        · have := ih (lC f b (1 - s)).1 (1 - s) (by omega) (by omega) (by omega)
          rw [sub_sub1 s hs] at this
          rw [this]
  have hb := beg_spec f s hs
  have eb : (begC g (1 - s)).1 = (begC f s).1 ∧ begS g (1 - s) = 1 - begS f s := by
    unfold begC begS
    rw [e1, e0, sub_sub1 s hs]
    show (if (firC f s).1 = 0 then negC (secC f s) else negC (firC f s)).1 = _ ∧ (if (firC f s).1 = 0 then s else 1 - s) = _
    split
    · exact ⟨rfl, by omega⟩
    · exact ⟨rfl, rfl⟩
  unfold bidsL
  rw [eb.1, eb.2]
  exact ec 38 _ _ hb.1 (by omega) (by rcases hb.2 with h | ⟨h1, h2, _⟩; exact .inl h; exact .inr ⟨h1, h2⟩)

/-! ### More tricks -/
theorem pick_mono (q s : Nat) (hq : q ≤ 1) (hs : s ≤ 1) (a c a' c' : Nat × Int) (h1 : wo q a.2 ≤ wo q a'.2) (h2 : wo q c.2 ≤ wo q c'.2) : wo q (pickC s a c).2 ≤ wo q (pickC s a' c').2 := by
  have e : s = q ∨ s = 1 - q := by omega
  rcases pick_or s a c with ⟨h, hl⟩ | ⟨h, hl⟩ <;> rcases pick_or s a' c' with ⟨h', hl'⟩ | ⟨h', hl'⟩ <;> rw [h, h'] <;> rcases e with rfl | rfl
  all_goals
    try rw [wo_flip q hq, wo_flip q hq] at hl hl'
    omega
theorem tp_mono (f g : Nat → Nat → Int) (q : Nat) (hq : q ≤ 1) (h : ∀ b s, 3 ≤ b → b ≤ 37 → s ≤ 1 → wo q (f b s) ≤ wo q (g b s)) (k : Nat) (hk : k ≤ 34) : ∀ s, s ≤ 1 → wo q (tpF f k s).2 ≤ wo q (tpF g k s).2 := by
  induction k with
  | zero => intro s hs; exact h 37 s (by omega) (by omega) hs
  | succ k ih =>
    intro s hs
    exact pick_mono q s hq hs _ _ _ _ (ih (by omega) s hs) (pick_mono q (1 - s) hq (by omega) _ _ _ _ (ih (by omega) (1 - s) (by omega)) (h _ s (by omega) (by omega) hs))
theorem chO_mono (f g : Nat → Nat → Int) (q : Nat) (hq : q ≤ 1) (h : ∀ b s, 3 ≤ b → b ≤ 37 → s ≤ 1 → wo q (f b s) ≤ wo q (g b s)) (o s : Nat) (ho : 2 ≤ o) (hs : s ≤ 1) (p p' : Int) (hp : wo q p ≤ wo q p') : wo q (chO f o s p).2 ≤ wo q (chO g o s p').2 := by
  unfold chO
  split
  · exact hp
  · exact pick_mono q s hq hs _ _ _ _ (tp_mono f g q hq h (36 - o) (by omega) s hs) hp
theorem par_mono (f g : Nat → Nat → Int) (q : Nat) (hq : q ≤ 1) (h : ∀ b s, 3 ≤ b → b ≤ 37 → s ≤ 1 → wo q (f b s) ≤ wo q (g b s)) (s : Nat) (hs : s ≤ 1) : wo q (parV f s) ≤ wo q (parV g s) :=
  chO_mono f g q hq h 2 s (by omega) hs _ _ (chO_mono f g q hq h 2 (1 - s) (by omega) (by omega) 0 0 (Int.le_refl _))

/-! ### Nobody makes anything; one side makes notrump alone -/
theorem par_none (f : Nat → Nat → Int) (h : ∀ b s, 3 ≤ b → b ≤ 37 → s ≤ 1 → wo s (f b s) < 0) (s : Nat) (hs : s ≤ 1) : parV f s = 0 ∧ bidsL f s = [] := by
  have hv : ∀ b q, 3 ≤ b → b ≤ 37 → q ≤ 1 → wo q (lC f b (1 - q)).2 < 0 := fun b q h3 h37 hq => by
    have h1 := (chO_spec f b (1 - q) (by omega) (by omega) (f b (1 - (1 - q)))).1
    rw [sub_sub1 q hq] at h1
    have h2 := h b q h3 h37 hq
    have e : lC f b (1 - q) = chO f b (1 - q) (f b q) := by unfold lC; rw [sub_sub1 q hq]
    rw [← e, wo_flip q hq, wo_flip q hq] at h1
    omega
  have h0 : ∀ q : Nat, wo q 0 = 0 := fun q => by unfold wo; split <;> rfl
  have hc : ∀ q, q ≤ 1 → chO f 2 q 0 = (0, 0) := fun q hq => by
    rcases (chO_spec f 2 q hq (by omega) 0).2.2 with ⟨h1, h2⟩ | ⟨h1, h2, h3, h4, _⟩
    · exact Prod.ext h1 h2
    · have := hv _ q h1 h2 hq
      rw [h3] at h4
      rw [h0] at h4
      omega
  have e1 : secC f s = (0, 0) := hc (1 - s) (by omega)
  have e2 : firC f s = (0, 0) := by unfold firC; rw [e1]; exact hc s hs
  have e3 : begC f s = secC f s := if_pos (by rw [e2])
  exact ⟨by unfold parV; rw [e2], (bids_nil f s hs (by rw [e3, e1])).1⟩
/-- Where no bid of a side is worth more to it than its greatest one, and that is above 0: par is no more, and just that if the side deals. -/
theorem par_grand (f : Nat → Nat → Int) (q : Nat) (hq : q ≤ 1) (hG : 0 ≤ wo q (f 37 q)) (h : ∀ b, 3 ≤ b → b ≤ 37 → wo q (f b q) ≤ wo q (f 37 q)) (s : Nat) (hs : s ≤ 1) :
    wo q (parV f s) ≤ wo q (f 37 q) ∧ (s = q → parV f s = f 37 q) := by
  have h0 : ∀ q : Nat, wo q 0 = 0 := fun q => by unfold wo; split <;> rfl
  have hbid : ∀ b, 3 ≤ b → b ≤ 37 → wo q (lC f b (1 - q)).2 ≤ wo q (f 37 q) := fun b h3 h37 => by
    have h1 := (chO_spec f b (1 - q) (by omega) (by omega) (f b (1 - (1 - q)))).1
    rw [sub_sub1 q hq] at h1
    have e : lC f b (1 - q) = chO f b (1 - q) (f b q) := by unfold lC; rw [sub_sub1 q hq]
    rw [← e, wo_flip q hq, wo_flip q hq] at h1
    have := h b h3 h37
    omega
  have hch : ∀ p, wo q p ≤ wo q (f 37 q) → wo q (chO f 2 q p).2 ≤ wo q (f 37 q) := fun p hp => by
    rcases (chO_spec f 2 q hq (by omega) p).2.2 with ⟨_, h2⟩ | ⟨h1, h2, h3, _⟩
    · rw [h2]; exact hp
    · rw [h3]; exact hbid _ h1 h2
  by_cases hsq : s = q
  · subst hsq
    have hsec : wo s (secC f s).2 ≤ 0 := by
      have h1 := (chO_spec f 2 (1 - s) (by omega) (by omega) 0).1
      rw [h0, wo_flip s hs] at h1
      show wo s (chO f 2 (1 - s) 0).2 ≤ 0
      omega
    have hle : wo s (parV f s) ≤ wo s (f 37 s) := hch _ (by omega)
    refine ⟨hle, fun _ => ?_⟩
    have hge := (chO_spec f 2 s hs (by omega) (secC f s).2).2.1 37 (by omega) (by omega)
    rw [lC_top, sub_sub1 s hs] at hge
    have : wo s (parV f s) = wo s (f 37 s) := Int.le_antisymm hle hge
    unfold wo at this
    split at this <;> omega
  · obtain rfl : s = 1 - q := by omega
    refine ⟨?_, fun e => absurd e hsq⟩
    have hsec : wo q (secC f (1 - q)).2 ≤ wo q (f 37 q) := by
      unfold secC
      rw [sub_sub1 q hq]
      exact hch 0 (by rw [h0]; exact hG)
    have h1 := (chO_spec f 2 (1 - q) (by omega) (by omega) (secC f (1 - q)).2).1
    rw [wo_flip q hq, wo_flip q hq] at h1
    show wo q (chO f 2 (1 - q) (secC f (1 - q)).2).2 ≤ _
    omega

/-! ### The reference's choice: the bids from the least one up -/
def rcTo (V : Nat → Nat → Int) (s o : Nat) (p : Int) : Nat → Nat × Int
  | 0 => (0, p)
  | n + 1 => if o < n + 3 ∧ wo s (rcTo V s o p n).2 < wo s (V (n + 3) (1 - s)) then (n + 3, V (n + 3) (1 - s)) else rcTo V s o p n
theorem rc_spec (V : Nat → Nat → Int) (s o : Nat) (p : Int) (n : Nat) :
    (rcTo V s o p n = (0, p) ∧ ∀ b, o < b → 3 ≤ b → b < n + 3 → wo s (V b (1 - s)) ≤ wo s p) ∨
    (o < (rcTo V s o p n).1 ∧ 3 ≤ (rcTo V s o p n).1 ∧ (rcTo V s o p n).1 < n + 3 ∧ (rcTo V s o p n).2 = V (rcTo V s o p n).1 (1 - s) ∧ wo s p < wo s (rcTo V s o p n).2 ∧
      (∀ b, o < b → 3 ≤ b → b < n + 3 → wo s (V b (1 - s)) ≤ wo s (rcTo V s o p n).2) ∧ (∀ b, o < b → 3 ≤ b → b < (rcTo V s o p n).1 → wo s (V b (1 - s)) < wo s (rcTo V s o p n).2)) := by
  induction n with
  | zero => exact .inl ⟨rfl, fun b _ h1 h2 => by omega⟩
  | succ n ih =>
    by_cases h : o < n + 3 ∧ wo s (rcTo V s o p n).2 < wo s (V (n + 3) (1 - s))
    · have e : rcTo V s o p (n + 1) = (n + 3, V (n + 3) (1 - s)) := if_pos h
      rw [e]
      refine .inr ⟨h.1, by dsimp only; omega, by dsimp only; omega, rfl, ?_, fun b h1 h2 h3 => ?_, fun b h1 h2 h3 => ?_⟩
      · dsimp only
        rcases ih with ⟨i1, _⟩ | ⟨_, _, _, _, i5, _⟩
        · rw [i1] at h; exact h.2
        · omega
      · dsimp only
        by_cases hb : b = n + 3
        · subst hb; exact Int.le_refl _
        · rcases ih with ⟨i1, i2⟩ | ⟨_, _, _, _, i5, i6, _⟩
          · have := i2 b h1 h2 (by omega); rw [i1] at h; have := h.2; dsimp only at this; omega
          · have := i6 b h1 h2 (by omega); omega
      · dsimp only at h3 ⊢
        rcases ih with ⟨i1, i2⟩ | ⟨_, _, _, _, i5, i6, _⟩
        · have := i2 b h1 h2 (by omega); rw [i1] at h; have := h.2; dsimp only at this; omega
        · have := i6 b h1 h2 (by omega); omega
    · have e : rcTo V s o p (n + 1) = rcTo V s o p n := if_neg h
      rw [e]
      rcases ih with ⟨i1, i2⟩ | ⟨i0, i1, i2, i3, i5, i6, i7⟩
      · refine .inl ⟨i1, fun b h1 h2 h3 => ?_⟩
        by_cases hb : b = n + 3
        · subst hb; rw [i1] at h; dsimp only at h; omega
        · exact i2 b h1 h2 (by omega)
      · refine .inr ⟨i0, i1, by omega, i3, i5, fun b h1 h2 h3 => ?_, i7⟩
        by_cases hb : b = n + 3
        · subst hb; omega
        · exact i6 b h1 h2 (by omega)
/-- The reference chooses the same. -/
theorem rc_eq (f V : Nat → Nat → Int) (s o : Nat) (hs : s ≤ 1) (ho : 2 ≤ o) (p : Int) (hV : ∀ b, o < b → b ≤ 37 → V b (1 - s) = (lC f b (1 - s)).2) : rcTo V s o p 35 = chO f o s p := by
  obtain ⟨c1, c2, c3⟩ := chO_spec f o s hs ho p
  have eq_of : ∀ x y : Int, wo s x = wo s y → x = y := fun x y h => by unfold wo at h; split at h <;> omega
  rcases rc_spec V s o p 35 with ⟨r1, r2⟩ | ⟨r0, r1, r2, r3, r4, r5, r6⟩
  · rcases c3 with ⟨d1, d2⟩ | ⟨d1, d2, d3, d4, _⟩
    · rw [r1]; exact (Prod.ext d1 d2).symm
    · have := r2 _ d1 (by omega) (by omega)
      rw [hV _ d1 d2, ← d3] at this
      omega
  · have r3' : (rcTo V s o p 35).2 = (lC f (rcTo V s o p 35).1 (1 - s)).2 := r3.trans (hV _ r0 (by omega))
    rcases c3 with ⟨d1, d2⟩ | ⟨d1, d2, d3, d4, d5⟩
    · have := c2 _ r0 (by omega)
      rw [← r3', d2] at this
      omega
    · have h1 := c2 _ r0 (by omega)
      rw [← r3'] at h1
      have h2 := r5 _ d1 (by omega) (by omega)
      rw [hV _ d1 d2, ← d3] at h2
      have e2 : (rcTo V s o p 35).2 = (chO f o s p).2 := eq_of _ _ (Int.le_antisymm h1 h2)
      have e1 : (rcTo V s o p 35).1 = (chO f o s p).1 := by
        rcases Nat.lt_trichotomy (rcTo V s o p 35).1 (chO f o s p).1 with h | h | h
        · have := d5 _ r0 h; rw [← r3'] at this; omega
        · exact h
        · have := r6 _ d1 (by omega) h; rw [hV _ d1 d2, ← d3] at this; omega
      exact Prod.ext e1 e2

end Go.Proofs.YtilekdjjfdehcaaDoor
