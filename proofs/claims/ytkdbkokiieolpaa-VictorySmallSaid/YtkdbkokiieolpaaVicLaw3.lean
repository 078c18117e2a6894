/- Plain laws of victory points: the margins that the reference tries. No program stands in this text. -/
import Derived.Test.YtkdbkokiieolpaaVicLaw2
namespace Go.Proofs.Ytkdbkokiieolpaa

/-- The margins that are tried. -/
def four (y : Int) : List Int := [y, y - 1, -y, 1 - y]
def triesTo (s : List Int) (k : Nat) : List Int := [0, 1000000, -1000000] ++ (s.take k).flatMap four
theorem triesTo_succ (s : List Int) (k : Nat) (h : k < s.length) : triesTo s (k + 1) = triesTo s k ++ four s[k] := by
  unfold triesTo
  rw [List.take_succ_eq_append_getElem h, List.flatMap_append, List.append_assoc]; simp
theorem triesTo_len (s : List Int) (k : Nat) (h : k ≤ s.length) : (triesTo s k).length = 3 + 4 * k := by
  induction k with
  | zero => simp [triesTo]
  | succ k ih => rw [triesTo_succ s k (by omega), List.length_append, ih (by omega)]; simp [four]; omega
def tries (s : List Int) : List Int := triesTo s s.length
theorem mem_tries (s : List Int) (t : Int) : t ∈ tries s ↔ t = 0 ∨ t = 1000000 ∨ t = -1000000 ∨ ∃ y ∈ s, t ∈ four y := by
  unfold tries triesTo
  rw [List.take_length, List.mem_append, List.mem_flatMap]
  simp [or_assoc]

def stepS (s : List Int) (p : Int) (st : Bool × Int × Int) (t : Int) : Bool × Int × Int :=
  if ptsA s t = p then (true, if st.1 = false ∨ t < st.2.1 then t else st.2.1, if st.1 = false ∨ st.2.2 < t then t else st.2.2) else st
def scanTo (s : List Int) (p : Int) (T : List Int) (k : Nat) : Bool × Int × Int := (T.take k).foldl (stepS s p) (false, 0, 0)
theorem scanTo_succ (s : List Int) (p : Int) (T : List Int) (k : Nat) (h : k < T.length) : scanTo s p T (k + 1) = stepS s p (scanTo s p T k) T[k] := by
  unfold scanTo
  rw [List.take_succ_eq_append_getElem h, List.foldl_append]; rfl
theorem scan_none (s : List Int) (p : Int) (T : List Int) (h : ∀ t ∈ T, ptsA s t ≠ p) : T.foldl (stepS s p) (false, 0, 0) = (false, 0, 0) := by
  induction T with
  | nil => rfl
  | cons t T ih =>
    rw [List.foldl_cons, show stepS s p (false, 0, 0) t = (false, 0, 0) by unfold stepS; rw [if_neg (h t (by simp))]]
    exact ih fun u hu => h u (by simp [hu])
/-- What is held once some margin has been found. -/
def Held (lo hi : Int) (st : Bool × Int × Int) (S : List Int) : Prop :=
  (st.1 = false ∧ ∀ t ∈ S, ¬ (lo ≤ t ∧ t ≤ hi)) ∨ (st.1 = true ∧ lo ≤ st.2.1 ∧ st.2.1 ≤ hi ∧ lo ≤ st.2.2 ∧ st.2.2 ≤ hi ∧ ∀ t ∈ S, lo ≤ t ∧ t ≤ hi → st.2.1 ≤ t ∧ t ≤ st.2.2)
theorem held_step (s : List Int) (p lo hi : Int) (st : Bool × Int × Int) (S : List Int) (t : Int) (h : Held lo hi st S) (ht : ptsA s t = p ↔ lo ≤ t ∧ t ≤ hi) : Held lo hi (stepS s p st t) (S ++ [t]) := by
  unfold stepS
  by_cases hp : ptsA s t = p
  · rw [if_pos hp]
    have hlh := ht.1 hp
    right
    rcases h with ⟨h1, h2⟩ | ⟨h1, h2, h3, h4, h5, h6⟩
    · rw [if_pos (.inl h1), if_pos (.inl h1)]
      refine ⟨rfl, hlh.1, hlh.2, hlh.1, hlh.2, fun u hu hul => ?_⟩
      rcases List.mem_append.1 hu with hu | hu
      · exact absurd hul (h2 u hu)
      · obtain rfl : u = t := by simpa using hu
        exact ⟨by simp, by simp⟩
    · have e1 : (if st.1 = false ∨ t < st.2.1 then t else st.2.1) ≤ t ∧ (if st.1 = false ∨ t < st.2.1 then t else st.2.1) ≤ st.2.1 ∧ lo ≤ (if st.1 = false ∨ t < st.2.1 then t else st.2.1) := by
        rw [h1]; split <;> simp_all <;> omega
      have e2 : t ≤ (if st.1 = false ∨ st.2.2 < t then t else st.2.2) ∧ st.2.2 ≤ (if st.1 = false ∨ st.2.2 < t then t else st.2.2) ∧ (if st.1 = false ∨ st.2.2 < t then t else st.2.2) ≤ hi := by
        rw [h1]; split <;> simp_all <;> omega
      refine ⟨rfl, e1.2.2, by show (if st.1 = false ∨ t < st.2.1 then t else st.2.1) ≤ hi; omega, by show lo ≤ (if st.1 = false ∨ st.2.2 < t then t else st.2.2); omega, e2.2.2, fun u hu hul => ?_⟩
      show (if st.1 = false ∨ t < st.2.1 then t else st.2.1) ≤ u ∧ u ≤ (if st.1 = false ∨ st.2.2 < t then t else st.2.2)
      rcases List.mem_append.1 hu with hu | hu
      · have := h6 u hu hul; omega
      · obtain rfl : u = t := by simpa using hu
        exact ⟨e1.1, e2.1⟩
  · rw [if_neg hp]
    have hn : ¬ (lo ≤ t ∧ t ≤ hi) := fun h => hp (ht.2 h)
    rcases h with ⟨h1, h2⟩ | ⟨h1, h2, h3, h4, h5, h6⟩
    · refine .inl ⟨h1, fun u hu => ?_⟩
      rcases List.mem_append.1 hu with hu | hu
      · exact h2 u hu
      · obtain rfl : u = t := by simpa using hu
        exact hn
    · refine .inr ⟨h1, h2, h3, h4, h5, fun u hu hul => ?_⟩
      rcases List.mem_append.1 hu with hu | hu
      · exact h6 u hu hul
      · obtain rfl : u = t := by simpa using hu
        exact absurd hul hn
theorem held_all (s : List Int) (p lo hi : Int) (T : List Int) : ∀ (st : Bool × Int × Int) (S : List Int), Held lo hi st S → (∀ t ∈ T, ptsA s t = p ↔ lo ≤ t ∧ t ≤ hi) → Held lo hi (T.foldl (stepS s p) st) (S ++ T) := by
  induction T with
  | nil => intro st S h _; simpa using h
  | cons t T ih =>
    intro st S h ht
    have := ih (stepS s p st t) (S ++ [t]) (held_step s p lo hi st S t h (ht t (by simp))) (fun u hu => ht u (by simp [hu]))
    rw [List.foldl_cons]
    rwa [List.append_assoc] at this
theorem scan_some (s : List Int) (p lo hi : Int) (T : List Int) (hlh : lo ≤ hi) (h1 : lo ∈ T) (h2 : hi ∈ T) (ht : ∀ t ∈ T, ptsA s t = p ↔ lo ≤ t ∧ t ≤ hi) : T.foldl (stepS s p) (false, 0, 0) = (true, lo, hi) := by
  have := held_all s p lo hi T (false, 0, 0) [] (.inl ⟨rfl, by simp⟩) ht
  rw [List.nil_append] at this
  rcases this with ⟨_, h⟩ | ⟨e, a, b, c, d, h⟩
  · exact absurd ⟨Int.le_refl _, hlh⟩ (h lo h1)
  · have := h lo h1 ⟨Int.le_refl _, hlh⟩
    have := h hi h2 ⟨hlh, Int.le_refl _⟩
    exact Prod.ext e (Prod.ext (by show _ = lo; omega) (by show _ = hi; omega))
theorem four_bd (y t : Int) (h : 1 ≤ y ∧ y ≤ 1000000) (ht : t ∈ four y) : -1000000 ≤ t ∧ t ≤ 1000000 := by
  simp [four] at ht; omega
theorem tries_bd (s : List Int) (hr : rightS s = true) (t : Int) (ht : t ∈ tries s) : -1000000 ≤ t ∧ t ≤ 1000000 := by
  rcases (mem_tries s t).1 ht with rfl | rfl | rfl | ⟨y, hy, h⟩
  · omega
  · omega
  · omega
  · exact four_bd y t (right_pos s hr y hy) h
theorem at_mem (s : List Int) (r : Int) (h : 1 ≤ r ∧ r ≤ s.length) : atL s r ∈ s := by
  unfold atL
  rw [List.getD_eq_getElem?_getD, List.getElem?_eq_getElem (by omega), Option.getD_some]
  exact List.getElem_mem _
theorem four_at (s : List Int) (y t : Int) (hy : y ∈ s) (h : t = y ∨ t = y - 1 ∨ t = -y ∨ t = 1 - y) : t ∈ tries s :=
  (mem_tries s t).2 (.inr (.inr (.inr ⟨y, hy, by simp [four]; omega⟩)))
theorem lo_mem (s : List Int) (hr : rightS s = true) (p : Int) (h : 0 ≤ p ∧ p ≤ 2 * s.length) : marL s p ∈ tries s := by
  rw [marL_eq s hr p h]
  split
  · exact four_at s _ _ (at_mem s _ (by omega)) (.inl rfl)
  · by_cases h2 : (s.length : Int) - p < s.length
    · rw [up_at s _ h2]
      exact four_at s (atL s ((s.length : Int) - p + 1)) _ (at_mem s _ (by omega)) (.inr (.inr (.inr (by omega))))
    · rw [up_last s _ h2]
      exact (mem_tries s _).2 (.inr (.inr (.inl rfl)))
theorem hi_mem (s : List Int) (hr : rightS s = true) (p : Int) (h : 0 ≤ p ∧ p ≤ 2 * s.length) : marH s p ∈ tries s := by
  rw [marH_eq s hr p h]
  split
  · exact four_at s _ _ (at_mem s _ (by omega)) (.inr (.inr (.inl rfl)))
  · by_cases h2 : p - (s.length : Int) < s.length
    · rw [up_at s _ h2]
      exact four_at s _ _ (at_mem s _ (by omega)) (.inr (.inl rfl))
    · rw [up_last s _ h2]
      exact (mem_tries s _).2 (.inr (.inl rfl))
/-- What trying all margins finds. -/
theorem scan_law (s : List Int) (hr : rightS s = true) (p : Int) :
    (scanTo s p (tries s) (tries s).length = (false, 0, 0) ∧ marE s p = 6 ∧ marL s p = 0 ∧ marH s p = 0) ∨
    (scanTo s p (tries s) (tries s).length = (true, marL s p, marH s p) ∧ marE s p = 0) := by
  unfold scanTo
  rw [List.take_length]
  by_cases h : 0 ≤ p ∧ p ≤ 2 * s.length
  · right
    have law := mar_law s hr p h
    exact ⟨scan_some s p _ _ _ law.le (lo_mem s hr p h) (hi_mem s hr p h) (fun t ht => law.at_ t (tries_bd s hr t ht)), law.e⟩
  · left
    have e3 : marE s p = 6 := by unfold marE; rw [if_pos hr, if_neg (show ¬ okP s p from h)]
    refine ⟨scan_none s p _ fun t ht e => h ?_, e3, ?_, ?_⟩
    · rw [ptsA_eq s t hr (tries_bd s hr t ht)] at e
      have := moreS_bd s t; omega
    · unfold marL; rw [if_neg (by omega)]
    · unfold marH; rw [if_neg (by omega)]

end Go.Proofs.Ytkdbkokiieolpaa
