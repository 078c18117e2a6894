/- A row of entries of the call's own that is stored to, cell by cell. -/
import Derived.Test.YtchklobblkddhaaGreatDoorRowMid
namespace Go.Proofs.YtchklobblkddhaaGreatDoor
open Go.RowKit

/-- A block that begins with some entries. -/
def EB (W : World) (g : Nat) (O : List Ent) : Prop := ∃ C, W.heap[g]? = some (.cells C 51 (0, 0)) ∧ O.length * 33 ≤ C.size ∧ C.toList.take (O.length * 33) = enL O
theorem EB.lt {W : World} {g : Nat} {O : List Ent} (h : EB W g O) : g < W.heap.size := by
  obtain ⟨C, h1, _⟩ := h
  exact blk_lt h1
theorem EB.below {W W' : World} {g B : Nat} {O : List Ent} (h : EB W g O) (hb : Below B W W') (hg : g < B) : EB W' g O := by
  obtain ⟨C, h1, h2⟩ := h
  exact ⟨C, blk_below h1 hb hg, h2⟩
theorem EB.drew {W : World} {g : Nat} {O : List Ent} (h : EB W g O) : EB W.drew g O := h
theorem EB.rd {W : World} {g : Nat} {O : List Ent} (h : EB W g O) (hO : ∀ e ∈ O, e.C.size = 33) : Rd W W.heap.size 33 (some ⟨g, 0, none⟩) O.length (enL O) := by
  obtain ⟨C, h1, h2, h3⟩ := h
  exact blk_rd_e hO h1 h3
theorem EB.of_own {W : World} {g base e n cap : Nat} {O : List Ent} (he : e = 51) (hn : n = O.length) (h : W.ownsRow base e 33 (.slice (some ⟨g, 0, none⟩) n cap) n (enL O)) : EB W g O := by
  subst he hn
  rcases h.2 with ⟨hv, _⟩ | ⟨g', cap', cur, hv, _, hh, hnc, _, hcs, hx⟩
  · injection hv with h1; cases h1
  · injection hv with h1 h2 h3
    injection h1 with h1
    injection h1 with h1
    subst h1
    refine ⟨cur, hh, by rw [hcs]; exact Nat.mul_le_mul_right _ hnc, hx⟩
theorem EB.cell {W : World} {g : Nat} {O : List Ent} (h : EB W g O) (hO : ∀ e ∈ O, e.C.size = 33) (i : Nat) (hi : i < O.length) (j : Nat) (hj : j < 33) : W.cell? ⟨g, i * 33 + j, none⟩ = (O[i]).C[j]? := by
  obtain ⟨C, h1, h2, h3⟩ := h
  have hle : (i + 1) * 33 ≤ O.length * 33 := Nat.mul_le_mul_right _ hi
  rw [blk_cell h1, ← enL_get O hO i hi j hj, ← h3, List.getElem?_take_of_lt (by omega)]
  simp
theorem EB.free {W : World} {g : Nat} {O : List Ent} (h : EB W g O) (j : Nat) : W.frozen? ⟨g, j, none⟩ = false := by
  obtain ⟨C, h1, _⟩ := h
  exact blk_free h1 j
theorem enL_setc (v : Value) (j : Nat) (hj : j < 33) : ∀ (O : List Ent) (_ : ∀ e ∈ O, e.C.size = 33) (i : Nat) (hi : i < O.length) (e' : Ent) (_ : e'.C = (O[i]).C.setIfInBounds j v), (enL O).set (i * 33 + j) v = enL (O.set i e') := by
  intro O
  induction O with
  | nil => intro _ i hi; simp at hi
  | cons a O ih =>
    intro hO i hi e' he
    have ha := hO a (List.mem_cons_self ..)
    have e1 : enL (a :: O) = a.C.toList ++ enL O := rfl
    cases i with
    | zero =>
      have e2 : enL ((a :: O).set 0 e') = e'.C.toList ++ enL O := rfl
      rw [e1, e2, he, Nat.zero_mul, Nat.zero_add, List.set_append_left _ _ (by simp [ha]; exact hj)]
      simp
    | succ i =>
      have e2 : enL ((a :: O).set (i + 1) e') = a.C.toList ++ enL (O.set i e') := rfl
      have hl : a.C.toList.length = 33 := by simpa using ha
      rw [e1, e2, List.set_append_right _ _ (by omega), hl, show (i + 1) * 33 + j - 33 = i * 33 + j by omega]
      rw [ih (fun x hx => hO x (List.mem_cons_of_mem _ hx)) i (by simpa using hi) e' (by simpa using he)]
theorem EB.set {W : World} {g : Nat} {O : List Ent} (h : EB W g O) (hO : ∀ e ∈ O, e.C.size = 33) (i : Nat) (hi : i < O.length) (j : Nat) (hj : j < 33) (v : Value) (e' : Ent) (he : e'.C = (O[i]).C.setIfInBounds j v) : EB (W.setCell ⟨g, i * 33 + j, none⟩ v) g (O.set i e') := by
  obtain ⟨C, h1, h2, h3⟩ := h
  refine ⟨_, blk_set h1 _ _, by rw [List.length_set]; simpa using h2, ?_⟩
  rw [List.length_set, Array.toList_setIfInBounds, List.take_set, h3, enL_setc v j hj O hO i hi e' he]
/-- A list of which the first entries are changed. -/
def mapTo (F : Nat → Ent → Ent) : Nat → List Ent → List Ent
  | 0, R => R
  | i + 1, R => match R with
    | [] => []
    | a :: R => F 0 a :: mapTo (fun n => F (n + 1)) i R
theorem mapTo_len (R : List Ent) : ∀ (F : Nat → Ent → Ent) (i : Nat), (mapTo F i R).length = R.length := by
  induction R with
  | nil => intro F i; cases i <;> rfl
  | cons a R ih =>
    intro F i
    cases i with
    | zero => rfl
    | succ i => show (F 0 a :: mapTo (fun n => F (n + 1)) i R).length = _; rw [List.length_cons, ih]; rfl
theorem mapTo_get (R : List Ent) : ∀ (F : Nat → Ent → Ent) (i m : Nat) (h : m < R.length), (mapTo F i R)[m]? = some (if m < i then F m R[m] else R[m]) := by
  induction R with
  | nil => intro F i m h; simp at h
  | cons a R ih =>
    intro F i m h
    cases i with
    | zero => rw [if_neg (by omega)]; exact List.getElem?_eq_getElem h
    | succ i =>
      show (F 0 a :: mapTo (fun n => F (n + 1)) i R)[m]? = _
      cases m with
      | zero => rw [if_pos (by omega)]; rfl
      | succ m =>
        rw [List.getElem?_cons_succ, ih (fun n => F (n + 1)) i m (by simpa using h)]
        congr 1
        by_cases e : m < i
        · rw [if_pos e, if_pos (by omega)]; rfl
        · rw [if_neg e, if_neg (by omega)]; rfl
theorem mapTo_at (R : List Ent) (F : Nat → Ent → Ent) (i : Nat) (h : i < R.length) : (mapTo F i R)[i]'(by rw [mapTo_len]; exact h) = R[i] := by
  have h1 := mapTo_get R F i i h
  rw [List.getElem?_eq_getElem (by rw [mapTo_len]; exact h), if_neg (by omega)] at h1
  exact Option.some.inj h1
theorem mapTo_succ (R : List Ent) (F : Nat → Ent → Ent) (i : Nat) (h : i < R.length) : (mapTo F i R).set i (F i R[i]) = mapTo F (i + 1) R := by
  refine List.ext_getElem? fun m => ?_
  by_cases hm : m < R.length
  · rw [mapTo_get R F (i + 1) m hm]
    by_cases e : m = i
    · subst e
      rw [List.getElem?_set_self (by rw [mapTo_len]; exact h), if_pos (by omega)]
    · rw [List.getElem?_set_ne (fun x => e x.symm), mapTo_get R F i m hm]
      by_cases e2 : m < i
      · rw [if_pos e2, if_pos (by omega)]
      · rw [if_neg e2, if_neg (by omega)]
  · rw [List.getElem?_eq_none (by rw [List.length_set, mapTo_len]; omega), List.getElem?_eq_none (by rw [mapTo_len]; omega)]
theorem mapTo_all (F : Nat → Ent → Ent) (R : List Ent) (P : Ent → Prop) (hR : ∀ e ∈ R, P e) (hF : ∀ i e, P e → P (F i e)) (i : Nat) : ∀ e ∈ mapTo F i R, P e := fun e he => by
  obtain ⟨m, hm, rfl⟩ := List.getElem_of_mem he
  rw [mapTo_len] at hm
  have h1 := mapTo_get R F i m hm
  rw [List.getElem?_eq_getElem (by rw [mapTo_len]; exact hm)] at h1
  rw [Option.some.inj h1]
  split
  · exact hF _ _ (hR _ (List.getElem_mem hm))
  · exact hR _ (List.getElem_mem hm)
theorem mapTo_const (F : Ent → Ent) (R : List Ent) : mapTo (fun _ => F) R.length R = R.map F := by
  refine List.ext_getElem? fun m => ?_
  by_cases hm : m < R.length
  · rw [mapTo_get R _ _ m hm, if_pos hm, List.getElem?_map, List.getElem?_eq_getElem hm]; rfl
  · rw [List.getElem?_eq_none (by rw [mapTo_len]; omega), List.getElem?_eq_none (by rw [List.length_map]; omega)]

end Go.Proofs.YtchklobblkddhaaGreatDoor
