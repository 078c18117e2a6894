/- The plain mathematics of victory points: right scales, limits that are reached, points, sums. No program stands in this text. -/
import Derived.Below
namespace Go.Proofs.Ytkdbkokiieolpaa

/-- The limits increase from above b on, and none is above 1000000. -/
def up (b : Int) : List Int → Bool
  | [] => true
  | x :: r => decide (b < x) && decide (x ≤ 1000000) && up x r
def rightS (s : List Int) : Bool := decide (1 ≤ s.length) && decide (s.length ≤ 50) && up 0 s
theorem up_cons (b x : Int) (r : List Int) : up b (x :: r) = (decide (b < x) && decide (x ≤ 1000000) && up x r) := rfl
theorem up_bd (s : List Int) : ∀ b, up b s = true → ∀ x ∈ s, b < x ∧ x ≤ 1000000 := by
  induction s with
  | nil => intro b _ x hx; simp at hx
  | cons y r ih =>
    intro b h x hx
    rw [up_cons] at h
    simp only [Bool.and_eq_true, decide_eq_true_eq] at h
    rcases List.mem_cons.1 hx with rfl | hx
    · exact ⟨h.1.1, h.1.2⟩
    · have := ih y h.2 x hx
      omega
theorem rightS_iff (s : List Int) : rightS s = true ↔ 1 ≤ s.length ∧ s.length ≤ 50 ∧ up 0 s = true := by
  unfold rightS
  simp only [Bool.and_eq_true, decide_eq_true_eq, and_assoc]

/-- How many of the first k limits are not above x. -/
def cntTo (s : List Int) (x : Int) (k : Nat) : Int := ((s.take k).map fun y => if y ≤ x then (1 : Int) else 0).sum
def cntS (s : List Int) (x : Int) : Int := cntTo s x s.length
theorem vsum_succ {α : Type} (l : List α) (f : α → Int) (k : Nat) (h : k < l.length) : ((l.take (k + 1)).map f).sum = ((l.take k).map f).sum + f l[k] := by
  rw [List.take_succ_eq_append_getElem h, List.map_append, List.sum_append]; simp
theorem cntTo_succ (s : List Int) (x : Int) (k : Nat) (h : k < s.length) : cntTo s x (k + 1) = cntTo s x k + if s[k] ≤ x then 1 else 0 := vsum_succ s _ k h
theorem cntTo_bd (s : List Int) (x : Int) (k : Nat) (h : k ≤ s.length) : 0 ≤ cntTo s x k ∧ cntTo s x k ≤ k := by
  induction k with
  | zero => simp [cntTo]
  | succ k ih =>
    have := ih (by omega)
    rw [cntTo_succ s x k (by omega)]
    split <;> omega
theorem cntS_bd (s : List Int) (x : Int) : 0 ≤ cntS s x ∧ cntS s x ≤ s.length := cntTo_bd s x _ (Nat.le_refl _)

/-- How far a margin is from 0. -/
def far (m : Int) : Int := if m < 0 then -m else m
/-- What the winner has more, with the margin's sign. -/
def moreS (s : List Int) (m : Int) : Int := if m < 0 then -cntS s (far m) else cntS s (far m)
def okM (s : List Int) (m : Int) : Bool := rightS s && decide (-1000000 ≤ m) && decide (m ≤ 1000000)
def ptsA (s : List Int) (m : Int) : Int := if okM s m = true then s.length + moreS s m else 0
def ptsB (s : List Int) (m : Int) : Int := if okM s m = true then s.length - moreS s m else 0
def ptsE (s : List Int) (m : Int) : Int := if okM s m = true then 0 else 2

/-! ### Total -/
def sumA (s l : List Int) (k : Nat) : Int := ((l.take k).map (ptsA s)).sum
def sumB (s l : List Int) (k : Nat) : Int := ((l.take k).map (ptsB s)).sum
def okT (s l : List Int) : Bool := rightS s && l.all (okM s)
def totA (s l : List Int) : Int := if okT s l = true then sumA s l l.length else 0
def totB (s l : List Int) : Int := if okT s l = true then sumB s l l.length else 0
def totE (s l : List Int) : Int := if okT s l = true then 0 else 2
theorem sumA_succ (s l : List Int) (k : Nat) (h : k < l.length) : sumA s l (k + 1) = sumA s l k + ptsA s l[k] := vsum_succ l _ k h
theorem sumB_succ (s l : List Int) (k : Nat) (h : k < l.length) : sumB s l (k + 1) = sumB s l k + ptsB s l[k] := vsum_succ l _ k h
theorem moreS_bd (s : List Int) (m : Int) : -s.length ≤ moreS s m ∧ moreS s m ≤ s.length := by
  have := cntS_bd s (far m)
  unfold moreS
  split <;> omega
theorem pts_bd (s : List Int) (m : Int) : 0 ≤ ptsA s m ∧ ptsA s m ≤ 100 ∧ 0 ≤ ptsB s m ∧ ptsB s m ≤ 100 := by
  have := moreS_bd s m
  unfold ptsA ptsB
  by_cases h : okM s m = true
  · have hr : rightS s = true := by unfold okM at h; simp only [Bool.and_eq_true] at h; exact h.1.1
    have := ((rightS_iff s).1 hr).2.1
    rw [if_pos h, if_pos h]; omega
  · rw [if_neg h, if_neg h]; omega
theorem sum_bd (s l : List Int) (k : Nat) (h : k ≤ l.length) : 0 ≤ sumA s l k ∧ sumA s l k ≤ 100 * k ∧ 0 ≤ sumB s l k ∧ sumB s l k ≤ 100 * k := by
  induction k with
  | zero => simp [sumA, sumB]
  | succ k ih =>
    have := ih (by omega)
    have := pts_bd s (l[k]'(by omega))
    rw [sumA_succ s l k (by omega), sumB_succ s l k (by omega)]
    omega

/-! ### Margins -/
def okP (s : List Int) (p : Int) : Prop := 0 ≤ p ∧ p ≤ 2 * s.length
instance (s : List Int) (p : Int) : Decidable (okP s p) := inferInstanceAs (Decidable (_ ∧ _))
/-- How many limits the winner has reached. -/
def reach (s : List Int) (p : Int) : Int := if p < s.length then s.length - p else p - s.length
/-- The greatest distance from 0 with which r limits are reached. -/
def upTo (s : List Int) (r : Int) : Int := if r < s.length then s.getD r.toNat 0 - 1 else 1000000
/-- The least one. -/
def atL (s : List Int) (r : Int) : Int := s.getD (r - 1).toNat 0
def marE (s : List Int) (p : Int) : Int := if rightS s = true then (if okP s p then 0 else 6) else 2
def marL (s : List Int) (p : Int) : Int := if marE s p = 0 then (if s.length < p then atL s (reach s p) else -upTo s (reach s p)) else 0
def marH (s : List Int) (p : Int) : Int := if marE s p = 0 then (if p < s.length then -atL s (reach s p) else upTo s (reach s p)) else 0

/-! ### The usual scale -/
/-- m is the least number from 1 on with 4 m m at least t, or all numbers below it fall short. -/
def below4 (t m : Int) : Prop := 1 ≤ m ∧ (m = 1 ∨ 4 * (m - 1) * (m - 1) < t)
def least4 (t m : Int) : Prop := below4 t m ∧ t ≤ 4 * m * m
theorem sq4_mono (a b : Int) (h0 : 0 ≤ a) (h : a ≤ b) : 4 * a * a ≤ 4 * b * b := Int.mul_le_mul (by omega) h h0 (by omega)
theorem below4_bd (t m : Int) (ht : t ≤ 115200) (h : below4 t m) : 1 ≤ m ∧ m ≤ 170 := by
  refine ⟨h.1, ?_⟩
  rcases h.2 with h1 | h1
  · omega
  · by_cases hm : m ≤ 170
    · exact hm
    · have := sq4_mono 170 (m - 1) (by omega) (by omega)
      omega
theorem least4_unique (t m n : Int) (hm : least4 t m) (hn : least4 t n) : m = n := by
  obtain ⟨⟨m1, m2⟩, m3⟩ := hm
  obtain ⟨⟨n1, n2⟩, n3⟩ := hn
  rcases Int.lt_trichotomy m n with h | h | h
  · rcases n2 with h2 | h2
    · omega
    · have := sq4_mono m (n - 1) (by omega) (by omega); omega
  · exact h
  · rcases m2 with h2 | h2
    · omega
    · have := sq4_mono n (m - 1) (by omega) (by omega); omega
theorem below4_mono (t u m : Int) (h : t ≤ u) (hb : below4 t m) : below4 u m := ⟨hb.1, hb.2.imp id (fun h2 => by omega)⟩
theorem below4_succ (t m : Int) (hb : below4 t m) (h : 4 * m * m < t) : below4 t (m + 1) := by
  have h1 := hb.1
  exact ⟨by omega, .inr (by rw [Int.add_sub_cancel]; exact h)⟩
/-- The bound that the k-th limit of the usual scale of b boards must reach. -/
def want (b k : Int) : Int := 9 * k * k * b
theorem want_mono (b k : Int) (hb : 0 ≤ b) (hk : 0 ≤ k) : want b k ≤ want b (k + 1) := by
  unfold want
  exact Int.mul_le_mul_of_nonneg_right (Int.mul_le_mul (by omega) (by omega) hk (by omega)) hb
theorem want_bd (b k : Int) (hb : 1 ≤ b ∧ b ≤ 128) (hk : 1 ≤ k ∧ k ≤ 10) : 0 ≤ 9 * k * k ∧ 9 * k * k ≤ 900 ∧ 0 ≤ want b k ∧ want b k ≤ 115200 := by
  have h1 : 9 * k * k ≤ 900 := Int.le_trans (Int.mul_le_mul (show 9 * k ≤ 90 by omega) hk.2 (by omega) (by omega)) (by decide)
  have h0 : 0 ≤ 9 * k * k := Int.mul_nonneg (by omega) (by omega)
  refine ⟨h0, h1, Int.mul_nonneg h0 (by omega), ?_⟩
  exact Int.le_trans (Int.mul_le_mul h1 hb.2 (by omega) (by omega)) (by decide)
theorem sq4_bd (m : Int) (h : 0 ≤ m ∧ m ≤ 1000) : 0 ≤ 4 * m * m ∧ 4 * m * m ≤ 4000000 :=
  ⟨Int.mul_nonneg (by omega) (by omega), Int.le_trans (Int.mul_le_mul (show 4 * m ≤ 4000 by omega) h.2 (by omega) (by omega)) (by decide)⟩
/-- A list of the first limits of the usual scale. -/
def isUsual (b : Int) (L : List Int) : Prop := ∀ j (h : j < L.length), least4 (want b (j + 1)) L[j]
theorem isUsual_snoc (b : Int) (L : List Int) (m : Int) (h : isUsual b L) (hm : least4 (want b (L.length + 1)) m) : isUsual b (L ++ [m]) := by
  intro j hj
  by_cases e : j < L.length
  · rw [List.getElem_append_left e]; exact h j e
  · obtain rfl : j = L.length := by simp at hj; omega
    simpa using hm

end Go.Proofs.Ytkdbkokiieolpaa
