/- Plain laws of victory points: the margins of each number of points, the usual scales. No program stands in this text. -/
import Derived.Test.YtkdbkokiieolpaaVicLaw
namespace Go.Proofs.Ytkdbkokiieolpaa

/-! ### Which limits are reached -/
theorem cntS_cons (y : Int) (r : List Int) (x : Int) : cntS (y :: r) x = (if y ≤ x then 1 else 0) + cntS r x := by
  unfold cntS cntTo
  rw [List.take_length, List.take_length]; simp
theorem cntS_zero_of (s : List Int) (x : Int) (h : ∀ y ∈ s, x < y) : cntS s x = 0 := cntTo_zero s x h _ (Nat.le_refl _)
theorem cnt_lt (s : List Int) : ∀ b, up b s = true → ∀ (x : Int) (i : Nat) (h : i < s.length), s[i] ≤ x ↔ (i : Int) < cntS s x := by
  induction s with
  | nil => intro b _ x i h; simp at h
  | cons y r ih =>
    intro b hu x i h
    rw [up_cons] at hu
    simp only [Bool.and_eq_true, decide_eq_true_eq] at hu
    have hb := cntS_bd r x
    have hc := cntS_cons y r x
    by_cases hy : y ≤ x
    · rw [if_pos hy] at hc
      cases i with
      | zero => simp only [List.getElem_cons_zero]; omega
      | succ i =>
        have := ih y hu.2 x i (by simpa using h)
        simp only [List.getElem_cons_succ]
        rw [this]; omega
    · rw [if_neg hy] at hc
      have hz : cntS r x = 0 := cntS_zero_of r x fun z hz => by have := (up_bd r y hu.2 z hz).1; omega
      cases i with
      | zero => simp only [List.getElem_cons_zero]; omega
      | succ i =>
        have := ih y hu.2 x i (by simpa using h)
        simp only [List.getElem_cons_succ]
        rw [this]; omega
theorem cnt_at (s : List Int) (hr : rightS s = true) (x : Int) (hx : 0 ≤ x ∧ x ≤ 1000000) (r : Int) (h : 0 ≤ r ∧ r ≤ s.length) : cntS s x = r ↔ (1 ≤ r → atL s r ≤ x) ∧ x ≤ upTo s r := by
  have hu := ((rightS_iff s).1 hr).2.2
  have hb := cntS_bd s x
  have ha : 1 ≤ r → (atL s r ≤ x ↔ r ≤ cntS s x) := by
    intro h1
    have := cnt_lt s 0 hu x (r - 1).toNat (by omega)
    unfold atL
    rw [List.getD_eq_getElem?_getD, List.getElem?_eq_getElem (by omega), Option.getD_some, this]; omega
  have hc : r < s.length → (x ≤ upTo s r ↔ cntS s x ≤ r) := by
    intro h1
    have := cnt_lt s 0 hu x r.toNat (by omega)
    unfold upTo
    rw [if_pos h1, List.getD_eq_getElem?_getD, List.getElem?_eq_getElem (by omega), Option.getD_some]
    constructor
    · intro h2
      by_cases h3 : cntS s x ≤ r
      · exact h3
      · have := this.2 (by omega); omega
    · intro h2
      by_cases h3 : s[r.toNat]'(by omega) ≤ x
      · have := this.1 h3; omega
      · omega
  have hd : ¬ r < s.length → upTo s r = 1000000 := by intro h1; unfold upTo; rw [if_neg h1]
  by_cases h1 : 1 ≤ r <;> by_cases h2 : r < s.length
  · rw [hc h2]
    constructor
    · intro e; exact ⟨fun _ => (ha h1).2 (by omega), by omega⟩
    · intro e; have := (ha h1).1 (e.1 h1); omega
  · rw [hd h2]
    constructor
    · intro e; exact ⟨fun _ => (ha h1).2 (by omega), by omega⟩
    · intro e; have := (ha h1).1 (e.1 h1); omega
  · rw [hc h2]
    constructor
    · intro e; exact ⟨fun h3 => absurd h3 h1, by omega⟩
    · intro e; have := e.2; omega
  · have := ((rightS_iff s).1 hr).1; omega

/-- What the margins of a number of points are. -/
structure MarLaw (s : List Int) (p : Int) : Prop where
  e : marE s p = 0
  lo : -1000000 ≤ marL s p
  le : marL s p ≤ marH s p
  hi : marH s p ≤ 1000000
  at_ : ∀ m, -1000000 ≤ m ∧ m ≤ 1000000 → (ptsA s m = p ↔ marL s p ≤ m ∧ m ≤ marH s p)
  first : p = 0 → marL s p = -1000000
  last : p = 2 * s.length → marH s p = 1000000
  next : p < 2 * s.length → marL s (p + 1) = marH s p + 1
theorem lim_bd (s : List Int) (hr : rightS s = true) (r : Int) (h : 1 ≤ r ∧ r ≤ s.length) : 1 ≤ atL s r ∧ atL s r ≤ 1000000 := by
  unfold atL
  rw [List.getD_eq_getElem?_getD, List.getElem?_eq_getElem (by omega), Option.getD_some]
  exact right_pos s hr _ (List.getElem_mem _)
theorem up_at (s : List Int) (r : Int) (h : r < s.length) : upTo s r = atL s (r + 1) - 1 := by
  unfold upTo atL; rw [if_pos h, Int.add_sub_cancel]
theorem up_last (s : List Int) (r : Int) (h : ¬ r < s.length) : upTo s r = 1000000 := by unfold upTo; rw [if_neg h]
theorem at_sorted (s : List Int) (hr : rightS s = true) (r : Int) (h : 1 ≤ r ∧ r < s.length) : atL s r < atL s (r + 1) := by
  unfold atL
  rw [List.getD_eq_getElem?_getD, List.getElem?_eq_getElem (by omega), List.getD_eq_getElem?_getD, List.getElem?_eq_getElem (by omega)]
  exact up_sorted s 0 ((rightS_iff s).1 hr).2.2 _ _ (by omega) (by omega)
theorem mar_ok (s : List Int) (hr : rightS s = true) (p : Int) (h : 0 ≤ p ∧ p ≤ 2 * s.length) : marE s p = 0 := by unfold marE; rw [if_pos hr, if_pos (show okP s p from h)]
theorem marL_eq (s : List Int) (hr : rightS s = true) (p : Int) (h : 0 ≤ p ∧ p ≤ 2 * s.length) : marL s p = if s.length < p then atL s (p - s.length) else -upTo s (s.length - p) := by
  unfold marL; rw [if_pos (mar_ok s hr p h)]
  unfold reach
  split
  · rw [if_neg (by omega)]
  · split
    · rfl
    · rw [show p - (s.length : Int) = s.length - p by omega]
theorem marH_eq (s : List Int) (hr : rightS s = true) (p : Int) (h : 0 ≤ p ∧ p ≤ 2 * s.length) : marH s p = if p < s.length then -atL s (s.length - p) else upTo s (p - s.length) := by
  unfold marH; rw [if_pos (mar_ok s hr p h)]
  unfold reach
  split
  · rfl
  · rfl
theorem mar_law (s : List Int) (hr : rightS s = true) (p : Int) (h : 0 ≤ p ∧ p ≤ 2 * s.length) : MarLaw s p := by
  have h50 := (rightS_iff s).1 hr
  have hL := marL_eq s hr p h
  have hH := marH_eq s hr p h
  have z0 := cntS_none s hr
  rcases Int.lt_trichotomy p s.length with h1 | h1 | h1
  · -- the first team has less
    rw [if_neg (by omega)] at hL
    rw [if_pos h1] at hH
    obtain ⟨r, hrp⟩ : ∃ r : Int, r = s.length - p := ⟨_, rfl⟩
    rw [← hrp] at hL hH
    have ra := lim_bd s hr r (by omega)
    have ub : atL s r ≤ upTo s r ∧ upTo s r ≤ 1000000 := by
      by_cases h2 : r < s.length
      · have := at_sorted s hr r (by omega)
        have := lim_bd s hr (r + 1) (by omega)
        rw [up_at s r h2]; omega
      · rw [up_last s r h2]; omega
    refine ⟨mar_ok s hr p h, by omega, by omega, by omega, fun m hm => ?_, fun h0 => ?_, fun h2 => by omega, fun _ => ?_⟩
    · rw [ptsA_eq s m hr hm, hL, hH]
      unfold moreS far
      by_cases hn : m < 0
      · rw [if_pos hn, if_pos hn]
        have := cnt_at s hr (-m) (by omega) r (by omega)
        constructor
        · intro e; have := this.1 (by omega); have := this.1 (by omega); omega
        · intro e; have := this.2 ⟨fun _ => by omega, by omega⟩; omega
      · rw [if_neg hn, if_neg hn]
        have := cntS_bd s m
        constructor
        · intro e; omega
        · intro e; omega
    · rw [hL, up_last s r (by omega)]
    · rw [marL_eq s hr (p + 1) (by omega), if_neg (by omega), hH, up_at s _ (by omega), show (s.length : Int) - (p + 1) + 1 = r by omega]; omega
  · -- both have as much
    rw [if_neg (by omega)] at hL
    rw [if_neg (by omega)] at hH
    rw [show (s.length : Int) - p = 0 by omega] at hL
    rw [show p - (s.length : Int) = 0 by omega] at hH
    have ua := up_at s 0 (by omega)
    have ra := lim_bd s hr 1 (by omega)
    rw [show (0 : Int) + 1 = 1 by omega] at ua
    refine ⟨mar_ok s hr p h, by omega, by omega, by omega, fun m hm => ?_, fun h0 => by omega, fun h2 => by omega, fun _ => ?_⟩
    · rw [ptsA_eq s m hr hm, hL, hH]
      unfold moreS far
      by_cases hn : m < 0
      · rw [if_pos hn, if_pos hn]
        have := cnt_at s hr (-m) (by omega) 0 (by omega)
        constructor
        · intro e; have := this.1 (by omega); omega
        · intro e; have := this.2 ⟨fun _ => by omega, by omega⟩; omega
      · rw [if_neg hn, if_neg hn]
        have := cnt_at s hr m (by omega) 0 (by omega)
        constructor
        · intro e; have := this.1 (by omega); omega
        · intro e; have := this.2 ⟨fun _ => by omega, by omega⟩; omega
    · rw [marL_eq s hr (p + 1) (by omega), if_pos (by omega), hH, ua, show p + 1 - (s.length : Int) = 1 by omega]; omega
  · -- the first team has more
    rw [if_pos (by omega)] at hL
    rw [if_neg (by omega)] at hH
    obtain ⟨r, hrp⟩ : ∃ r : Int, r = p - s.length := ⟨_, rfl⟩
    rw [← hrp] at hL hH
    have ra := lim_bd s hr r (by omega)
    have ub : atL s r ≤ upTo s r ∧ upTo s r ≤ 1000000 := by
      by_cases h2 : r < s.length
      · have := at_sorted s hr r (by omega)
        have := lim_bd s hr (r + 1) (by omega)
        rw [up_at s r h2]; omega
      · rw [up_last s r h2]; omega
    refine ⟨mar_ok s hr p h, by omega, by omega, by omega, fun m hm => ?_, fun h0 => by omega, fun h2 => ?_, fun h2 => ?_⟩
    · rw [ptsA_eq s m hr hm, hL, hH]
      unfold moreS far
      by_cases hn : m < 0
      · rw [if_pos hn, if_pos hn]
        have := cntS_bd s (-m)
        constructor
        · intro e; omega
        · intro e; omega
      · rw [if_neg hn, if_neg hn]
        have := cnt_at s hr m (by omega) r (by omega)
        constructor
        · intro e; have := this.1 (by omega); have := this.1 (by omega); omega
        · intro e; have := this.2 ⟨fun _ => by omega, by omega⟩; omega
    · rw [hH, up_last s r (by omega)]
    · rw [marL_eq s hr (p + 1) (by omega), if_pos (by omega), hH, up_at s r (by omega), show p + 1 - (s.length : Int) = r + 1 by omega]; omega

/-! ### The usual scales -/
theorem up_of (s : List Int) : ∀ b, (∀ (h : 0 < s.length), b < s[0]) → (∀ i (h : i + 1 < s.length), s[i] < s[i + 1]) → (∀ y ∈ s, y ≤ 1000000) → up b s = true := by
  induction s with
  | nil => intro b _ _ _; rfl
  | cons y r ih =>
    intro b h1 h2 h3
    rw [up_cons, decide_eq_true (by simpa using h1), decide_eq_true (h3 y (by simp)), ih y (fun h => by simpa using h2 0 (by simpa using h)) (fun i h => by have := h2 (i + 1) (by simpa using h); rw [List.getElem_cons_succ, List.getElem_cons_succ] at this; exact this) (fun z hz => h3 z (by simp [hz]))]; rfl
theorem least_lt (b k m n : Int) (hb : 1 ≤ b) (hk : 1 ≤ k) (hm : least4 (want b k) m) (hn : least4 (want b (k + 1)) n) : m < n := by
  obtain ⟨⟨m1, m2⟩, m3⟩ := hm
  obtain ⟨⟨n1, n2⟩, n3⟩ := hn
  unfold want at *
  rcases Int.lt_or_le m n with h | h
  · exact h
  · exfalso
    have hq : 4 * n * n ≤ 4 * m * m := sq4_mono n m (by omega) h
    obtain ⟨u, rfl⟩ : ∃ u, m = u + 1 := ⟨m - 1, by omega⟩
    rw [Int.add_sub_cancel] at m2
    have big : 9 * (k + 1) * (k + 1) * b ≤ 4 * (u + 1) * (u + 1) := Int.le_trans n3 hq
    have big1 : 9 * (k + 1) * (k + 1) ≤ 9 * (k + 1) * (k + 1) * b := by
      have h0 : 0 ≤ 9 * (k + 1) * (k + 1) := Int.mul_nonneg (by omega) (by omega)
      have := Int.mul_le_mul_of_nonneg_left hb h0
      omega
    by_cases huk : u < k
    · have : 4 * (u + 1) * (u + 1) ≤ 4 * k * k := sq4_mono (u + 1) k (by omega) (by omega)
      have e : 9 * (k + 1) * (k + 1) = 9 * (k * k) + 18 * k + 9 := by grind
      have e2 : 4 * k * k = 4 * (k * k) := by grind
      have : 0 ≤ k * k := Int.mul_nonneg (by omega) (by omega)
      omega
    · rcases m2 with h2 | h2
      · omega
      · -- u (k + 1) >= (u + 1) k
        have hxy : (u + 1) * k ≤ u * (k + 1) := by grind
        have h3 : (4 * u * u) * ((k + 1) * (k + 1)) < (9 * k * k * b) * ((k + 1) * (k + 1)) := Int.mul_lt_mul_of_pos_right h2 (Int.mul_pos (by omega) (by omega))
        have h4 : (9 * (k + 1) * (k + 1) * b) * (k * k) ≤ (4 * (u + 1) * (u + 1)) * (k * k) := Int.mul_le_mul_of_nonneg_right big (Int.mul_nonneg (by omega) (by omega))
        have h5 := sq4_mono _ _ (Int.mul_nonneg (show 0 ≤ u + 1 by omega) (show 0 ≤ k by omega)) hxy
        have e1 : 4 * (u * (k + 1)) * (u * (k + 1)) = (4 * u * u) * ((k + 1) * (k + 1)) := by grind
        have e2 : (9 * k * k * b) * ((k + 1) * (k + 1)) = (9 * (k + 1) * (k + 1) * b) * (k * k) := by grind
        have e3 : 4 * ((u + 1) * k) * ((u + 1) * k) = (4 * (u + 1) * (u + 1)) * (k * k) := by grind
        omega
theorem least_le (t u m n : Int) (h : t ≤ u) (hm : least4 t m) (hn : least4 u n) : m ≤ n := by
  obtain ⟨⟨m1, m2⟩, m3⟩ := hm
  obtain ⟨⟨n1, n2⟩, n3⟩ := hn
  rcases m2 with h2 | h2
  · omega
  · rcases Int.lt_or_le n m with h3 | h3
    · have := sq4_mono n (m - 1) (by omega) (by omega); omega
    · exact h3
theorem least_four (t m n : Int) (hm : least4 t m) (hn : least4 (4 * t) n) : n ≤ 2 * m ∧ 2 * m - 2 < n := by
  obtain ⟨⟨m1, m2⟩, m3⟩ := hm
  obtain ⟨⟨n1, n2⟩, n3⟩ := hn
  constructor
  · rcases n2 with h2 | h2
    · omega
    · rcases Int.lt_or_le (2 * m) n with h3 | h3
      · have := sq4_mono (2 * m) (n - 1) (by omega) (by omega)
        have e : 4 * (2 * m) * (2 * m) = 4 * (4 * m * m) := by grind
        omega
      · exact h3
  · rcases m2 with h2 | h2
    · omega
    · rcases Int.lt_or_le (2 * m - 2) n with h3 | h3
      · exact h3
      · have := sq4_mono n (2 * (m - 1)) (by omega) (by omega)
        have e : 4 * (2 * (m - 1)) * (2 * (m - 1)) = 4 * (4 * (m - 1) * (m - 1)) := by grind
        omega
theorem usual_bd (b : Int) (hb : 1 ≤ b ∧ b ≤ 128) (L : List Int) (hL : L.length = 10) (h : isUsual b L) (j : Nat) (hj : j < L.length) : 1 ≤ L[j] ∧ L[j] ≤ 170 :=
  below4_bd _ _ (want_bd b (j + 1) hb (by omega)).2.2.2 (h j hj).1
theorem usual_right (b : Int) (hb : 1 ≤ b ∧ b ≤ 128) (L : List Int) (hL : L.length = 10) (h : isUsual b L) : rightS L = true := by
  rw [rightS_iff]
  refine ⟨by omega, by omega, up_of L 0 (fun h0 => by have := usual_bd b hb L hL h 0 h0; omega) (fun i hi => ?_) (fun y hy => ?_)⟩
  · exact least_lt b (i + 1) _ _ hb.1 (by omega) (h i (by omega)) (by have := h (i + 1) hi; simpa using this)
  · obtain ⟨j, hj, rfl⟩ := List.getElem_of_mem hy
    have := usual_bd b hb L hL h j hj; omega

end Go.Proofs.Ytkdbkokiieolpaa
