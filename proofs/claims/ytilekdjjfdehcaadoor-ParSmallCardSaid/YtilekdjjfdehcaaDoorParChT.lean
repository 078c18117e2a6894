/- The array of the best choices, in plain Lean: what the iterator's rounds make of it. No program stands in this text. -/
import Derived.Test.YtilekdjjfdehcaaDoorParT
namespace Go.Proofs.YtilekdjjfdehcaaDoor
open Go.RowKit

/-- The best of some bids, in the order in which they come. -/
def topL (Y : Nat → Int) (s : Nat) (l : List Nat) : Nat × Int := match l with
  | [] => (0, 0)
  | x :: l => l.foldl (fun a b => pickC s a (b, Y b)) (x, Y x)
theorem topL_snoc (Y : Nat → Int) (s : Nat) (l : List Nat) (x : Nat) : topL Y s (l ++ [x]) = if l = [] then (x, Y x) else pickC s (topL Y s l) (x, Y x) := by
  cases l with
  | nil => rfl
  | cons a l => simp [topL, List.foldl_append]
theorem pick_bd (s : Nat) (a c : Nat × Int) (ha : -10000 ≤ a.2 ∧ a.2 ≤ 10000) (hc : -10000 ≤ c.2 ∧ c.2 ≤ 10000) : -10000 ≤ (pickC s a c).2 ∧ (pickC s a c).2 ≤ 10000 := by
  unfold pickC; split <;> assumption
theorem topL_bd (Y : Nat → Int) (hY : ∀ b, -10000 ≤ Y b ∧ Y b ≤ 10000) (s : Nat) (l : List Nat) : -10000 ≤ (topL Y s l).2 ∧ (topL Y s l).2 ≤ 10000 := by
  cases l with
  | nil => exact (show -10000 ≤ (0 : Int) ∧ (0 : Int) ≤ 10000 by decide)
  | cons x l =>
    have : ∀ (l : List Nat) (a : Nat × Int), -10000 ≤ a.2 ∧ a.2 ≤ 10000 → -10000 ≤ (l.foldl (fun a b => pickC s a (b, Y b)) a).2 ∧ (l.foldl (fun a b => pickC s a (b, Y b)) a).2 ≤ 10000 := by
      intro l
      induction l with
      | nil => intro a h; exact h
      | cons y l ih => intro a h; exact ih _ (pick_bd s a _ h (hY y))
    exact this l (x, Y x) (hY x)
theorem topL_le (Y : Nat → Int) (s : Nat) (l : List Nat) (hl : ∀ x ∈ l, x ≤ 37) : (topL Y s l).1 ≤ 37 := by
  cases l with
  | nil => exact Nat.zero_le _
  | cons x l =>
    have : ∀ (l : List Nat) (a : Nat × Int), a.1 ≤ 37 → (∀ x ∈ l, x ≤ 37) → (l.foldl (fun a b => pickC s a (b, Y b)) a).1 ≤ 37 := by
      intro l
      induction l with
      | nil => intro a h _; exact h
      | cons y l ih =>
        intro a h hx
        refine ih _ ?_ (fun z hz => hx z (List.mem_cons_of_mem _ hz))
        rcases pick_or s a (y, Y y) with ⟨e, _⟩ | ⟨e, _⟩
        · show (pickC s a (y, Y y)).1 ≤ 37
          rw [e]; exact h
        · show (pickC s a (y, Y y)).1 ≤ 37
          rw [e]; exact hx y (List.mem_cons_self ..)
    exact this l (x, Y x) (hl x (List.mem_cons_self ..)) (fun z hz => hl z (List.mem_cons_of_mem _ hz))
/-- The bids from 37 down, k of them. -/
def dnN (k : Nat) : List Nat := (List.range k).map fun j => 37 - j
theorem dnN_succ (k : Nat) : dnN (k + 1) = dnN k ++ [37 - k] := by simp [dnN, List.range_succ]
theorem dnN_nil (k : Nat) : dnN k = [] ↔ k = 0 := by simp [dnN]
/-- What choose returns, by the array of the choices. -/
def chQ (Q : Nat → Nat → Nat × Int) (o s : Nat) (p : Int) : Nat × Int := if 37 ≤ o then (0, p) else pickC s (topL (fun b => (Q b (1 - s)).2) s (dnN (37 - o))) (0, p)
theorem topL_tp (f : Nat → Nat → Int) (Y : Nat → Int) (s : Nat) (hs : s ≤ 1) (k : Nat) (hk : k ≤ 34) (hY : ∀ b, 37 - k ≤ b → b ≤ 37 → Y b = (lC f b (1 - s)).2) : topL Y s (dnN (k + 1)) = tpF f k s := by
  induction k with
  | zero =>
    rw [tpF_zero f s hs, ← hY 37 (by omega) (by omega)]; rfl
  | succ k ih =>
    rw [dnN_succ, topL_snoc, if_neg (by rw [dnN_nil]; omega), ih (by omega) (fun b h1 h2 => hY b (by omega) h2), tpF_succ f k s hs hk, hY (37 - (k + 1)) (by omega) (by omega)]
theorem chQ_eq (f : Nat → Nat → Int) (Q : Nat → Nat → Nat × Int) (o s : Nat) (ho : 2 ≤ o) (hs : s ≤ 1) (p : Int) (hQ : ∀ b, o < b → b ≤ 37 → (Q b (1 - s)).2 = (lC f b (1 - s)).2) : chQ Q o s p = chO f o s p := by
  unfold chQ chO
  by_cases h : 37 ≤ o
  · rw [if_pos h, if_pos h]
  · rw [if_neg h, if_neg h]
    have e : 37 - o = (36 - o) + 1 := by omega
    rw [e, topL_tp f _ s hs (36 - o) (by omega) (fun b h1 h2 => hQ b (by omega) h2)]
theorem chQ_bd (Q : Nat → Nat → Nat × Int) (hQ : ∀ b s, -10000 ≤ (Q b s).2 ∧ (Q b s).2 ≤ 10000) (o s : Nat) (p : Int) (hp : -10000 ≤ p ∧ p ≤ 10000) : -10000 ≤ (chQ Q o s p).2 ∧ (chQ Q o s p).2 ≤ 10000 := by
  unfold chQ; split
  · exact hp
  · exact pick_bd s _ _ (topL_bd _ (fun b => hQ b (1 - s)) s _) hp
theorem chQ_le (Q : Nat → Nat → Nat × Int) (o s : Nat) (p : Int) : (chQ Q o s p).1 ≤ 37 := by
  unfold chQ; split
  · exact Nat.zero_le _
  · unfold pickC; split
    · exact topL_le _ s _ (fun x hx => by simp [dnN] at hx; omega)
    · exact Nat.zero_le _
/-- One choice set. -/
def setQ (Q : Nat → Nat → Nat × Int) (b s : Nat) (c : Nat × Int) : Nat → Nat → Nat × Int := fun b' s' => if b' = b ∧ s' = s then c else Q b' s'
/-- One round of values: both sides' choices over a bid. -/
def stepQ (f : Nat → Nat → Int) (Q : Nat → Nat → Nat × Int) (b : Nat) : Nat → Nat → Nat × Int :=
  let Q1 := setQ Q b 0 (chQ Q b 0 (f b 1))
  setQ Q1 b 1 (chQ Q1 b 1 (f b 0))
def zQ : Nat → Nat → Nat × Int := fun _ _ => (0, 0)
def stQ (f : Nat → Nat → Int) (l : List Nat) : Nat → Nat → Nat × Int := l.foldl (stepQ f) zQ
theorem stQ_snoc (f : Nat → Nat → Int) (l : List Nat) (x : Nat) : stQ f (l ++ [x]) = stepQ f (stQ f l) x := by simp [stQ]
/-- Choices that fit into their cells. -/
def okQ (Q : Nat → Nat → Nat × Int) : Prop := ∀ b s, (Q b s).1 ≤ 37 ∧ -10000 ≤ (Q b s).2 ∧ (Q b s).2 ≤ 10000
theorem okQ_set {Q : Nat → Nat → Nat × Int} (h : okQ Q) (b s : Nat) (c : Nat × Int) (hc : c.1 ≤ 37 ∧ -10000 ≤ c.2 ∧ c.2 ≤ 10000) : okQ (setQ Q b s c) := fun b' s' => by
  unfold setQ; split
  · exact hc
  · exact h b' s'
theorem okQ_ch {Q : Nat → Nat → Nat × Int} (h : okQ Q) (o s : Nat) (p : Int) (hp : -10000 ≤ p ∧ p ≤ 10000) : (chQ Q o s p).1 ≤ 37 ∧ -10000 ≤ (chQ Q o s p).2 ∧ (chQ Q o s p).2 ≤ 10000 :=
  ⟨chQ_le Q o s p, chQ_bd Q (fun b s => (h b s).2) o s p hp⟩
theorem okQ_step (f : Nat → Nat → Int) (hf : ∀ b s, -10000 ≤ f b s ∧ f b s ≤ 10000) {Q : Nat → Nat → Nat × Int} (h : okQ Q) (b : Nat) : okQ (stepQ f Q b) := by
  have h1 := okQ_set h b 0 _ (okQ_ch h b 0 (f b 1) (hf b 1))
  exact okQ_set h1 b 1 _ (okQ_ch h1 b 1 (f b 0) (hf b 0))
theorem okQ_z : okQ zQ := fun _ _ => (show (0 : Nat) ≤ 37 ∧ -10000 ≤ (0 : Int) ∧ (0 : Int) ≤ 10000 by decide)
theorem okQ_st (f : Nat → Nat → Int) (hf : ∀ b s, -10000 ≤ f b s ∧ f b s ≤ 10000) (l : List Nat) : okQ (stQ f l) := by
  have : ∀ (l : List Nat) (Q : Nat → Nat → Nat × Int), okQ Q → okQ (l.foldl (stepQ f) Q) := by
    intro l
    induction l with
    | nil => intro Q h; exact h
    | cons x l ih => intro Q h; exact ih _ (okQ_step f hf h x)
  exact this l zQ okQ_z
/-- Behind all rounds the array holds the choices. -/
theorem stQ_all (f : Nat → Nat → Int) (k : Nat) (hk : k ≤ 35) : ∀ b s, 37 - k < b → b ≤ 37 → s ≤ 1 → stQ f (dnN k) b s = lC f b s := by
  induction k with
  | zero => intro b s h1 h2 _; omega
  | succ k ih =>
    intro b s h1 h2 hs
    have ih := ih (by omega)
    rw [dnN_succ, stQ_snoc]
    generalize stQ f (dnN k) = Q at ih
    have e0 : chQ Q (37 - k) 0 (f (37 - k) 1) = lC f (37 - k) 0 := chQ_eq f Q (37 - k) 0 (by omega) (by omega) _ (fun b h1 h2 => by rw [ih b 1 h1 h2 (by omega)])
    have e1 : chQ (setQ Q (37 - k) 0 (lC f (37 - k) 0)) (37 - k) 1 (f (37 - k) 0) = lC f (37 - k) 1 := chQ_eq f _ (37 - k) 1 (by omega) (by omega) _ (fun b h1 h2 => by
      have : setQ Q (37 - k) 0 (lC f (37 - k) 0) b 0 = Q b 0 := if_neg (by omega)
      rw [this, ih b 0 h1 h2 (by omega)])
    have es : stepQ f Q (37 - k) = setQ (setQ Q (37 - k) 0 (chQ Q (37 - k) 0 (f (37 - k) 1))) (37 - k) 1 (chQ (setQ Q (37 - k) 0 (chQ Q (37 - k) 0 (f (37 - k) 1))) (37 - k) 1 (f (37 - k) 0)) := rfl
    rw [es, e0, e1]
    by_cases hb : b = 37 - k
    · rcases (show s = 0 ∨ s = 1 by omega) with rfl | rfl
      · show (if b = 37 - k ∧ 0 = 1 then _ else if b = 37 - k ∧ 0 = 0 then _ else _) = _
        rw [if_neg (by omega), if_pos ⟨hb, rfl⟩, hb]
      · show (if b = 37 - k ∧ 1 = 1 then _ else _) = _
        rw [if_pos ⟨hb, rfl⟩, hb]
    · show (if b = 37 - k ∧ s = 1 then _ else if b = 37 - k ∧ s = 0 then _ else _) = _
      rw [if_neg (fun h => hb h.1), if_neg (fun h => hb h.1)]
      exact ih b s (by omega) h2 hs

/-- The cells of the array of the choices. -/
def BesC (C : Array Value) (Q : Nat → Nat → Nat × Int) : Prop := C.size = 152 ∧ C.all (·.oneCell') = true ∧ ∀ b s : Nat, b ≤ 37 → s ≤ 1 → C[b * 4 + s * 2]? = some (.int .u8 ((Q b s).1 : Int)) ∧ C[b * 4 + s * 2 + 1]? = some (.int .i64 (Q b s).2)
theorem BesC.set {C : Array Value} {Q : Nat → Nat → Nat × Int} (h : BesC C Q) (b s : Nat) (hb : b ≤ 37) (hs : s ≤ 1) (c : Nat × Int) :
    BesC ((C.setIfInBounds (b * 4 + s * 2) (.int .u8 (c.1 : Int))).setIfInBounds (b * 4 + s * 2 + 1) (.int .i64 c.2)) (setQ Q b s c) := by
  obtain ⟨h1, h2, h3⟩ := h
  refine ⟨by rw [Array.size_setIfInBounds, Array.size_setIfInBounds]; exact h1, ?_, fun b' s' hb' hs' => ?_⟩
  · rw [Array.all_eq_true] at h2 ⊢
    intro i hi
    have hi' : i < C.size := by rw [Array.size_setIfInBounds, Array.size_setIfInBounds] at hi; exact hi
    rw [Array.getElem_setIfInBounds (by rw [Array.size_setIfInBounds]; exact hi')]
    split
    · rfl
    · rw [Array.getElem_setIfInBounds hi']
      split
      · rfl
      · exact h2 i hi'
  · obtain ⟨q1, q2⟩ := h3 b' s' hb' hs'
    rw [Array.getElem?_setIfInBounds, Array.getElem?_setIfInBounds, Array.getElem?_setIfInBounds, Array.getElem?_setIfInBounds, Array.size_setIfInBounds, h1]
    by_cases he : b' = b ∧ s' = s
    · obtain ⟨rfl, rfl⟩ := he
      have e : setQ Q b' s' c b' s' = c := if_pos ⟨rfl, rfl⟩
      rw [e]
      constructor
      · rw [if_neg (by omega), if_pos rfl, if_pos (by omega)]
      · rw [if_pos rfl, if_pos (by omega)]
    · have e : setQ Q b s c b' s' = Q b' s' := if_neg he
      rw [e]
      constructor
      · rw [if_neg (by omega), if_neg (by omega)]; exact q1
      · rw [if_neg (by omega), if_neg (by omega)]; exact q2
/-- The array of zeroes. -/
def besZ : Array Value := Array.ofFn (n := 152) fun i => if i.1 % 2 = 0 then .int .u8 0 else .int .i64 0
theorem besZ_ok : BesC besZ zQ := by
  refine ⟨by simp [besZ], ?_, fun b s hb hs => ⟨?_, ?_⟩⟩
  · unfold besZ
    rw [Array.all_eq_true]
    intro i hi
    rw [Array.getElem_ofFn]
    split <;> rfl
  · unfold besZ
    rw [Array.getElem?_ofFn, dif_pos (by omega), if_pos (by dsimp only; omega)]; rfl
  · unfold besZ
    rw [Array.getElem?_ofFn, dif_pos (by omega), if_neg (by dsimp only; omega)]; rfl

end Go.Proofs.YtilekdjjfdehcaaDoor
