/- The plain laws of FoulOrder: entries in another order, fields with other numbers. -/
import Derived.Test.YtchklobblkddhaaDoorFouApL
import Derived.Test.YtchklobblkddhaaDoorRowMid
namespace Go.Proofs.YtchklobblkddhaaDoor
open Go.RowKit

/-- Two entries of two boards have the same line. -/
theorem line_eq (L O : List Ent) (V : Int) (i m : Nat) (hi : i < L.length) (hm : m < O.length) (hk : (O[m]).k = (L[i]).k) (h0 : (O[m]).a0 = (L[i]).a0) (h1 : (O[m]).a1 = (L[i]).a1) (hr : ∀ s, resE V s O[m] = resE V s L[i])
    (hn : notVoid O = notVoid L) (hl : ∀ s, (fldR O (O[m]).f V s).length = (fldR L (L[i]).f V s).length) (hg : ∀ s, gAll (resE V s L[i]) (fldR O (O[m]).f V s) = gAll (resE V s L[i]) (fldR L (L[i]).f V s)) : lineE O V m = lineE L V i := by
  have hx : ∀ (all : Int) (t : Nat), XB O V all m t = XB L V all i t := fun all t => by
    rw [XB_get O V all m t hm, XB_get L V all i t hi, hk, h0, h1]
    have hval : valN O (O[m]).f V all t m = valN L (L[i]).f V all t i := by
      unfold valN
      rw [List.getElem?_eq_getElem hm, List.getElem?_eq_getElem hi]
      show fr (gAll (resE V t O[m]) _ * all - 10000 * ((fldR O (O[m]).f V t).length : Int)) _ = fr (gAll (resE V t L[i]) _ * all - _) _
      rw [hr, hg, hl]
    rw [hval]
  unfold lineE
  rw [hn, hx, hx, List.getElem?_eq_getElem hm, List.getElem?_eq_getElem hi]
  show (_, _, decide ((O[m]).k ≠ 0) && _) = (_, _, decide ((L[i]).k ≠ 0) && _)
  rw [hk]

/-! ### An entry with another field -/
theorem one_set23 {C : Array Value} (h : C.all (·.oneCell') = true) (j : Nat) (v : Value) (hv : v.oneCell' = true) : (C.setIfInBounds j v).all (·.oneCell') = true := by
  rw [Array.all_eq_true_iff_forall_mem] at *
  intro u hu
  rcases Array.mem_or_eq_of_mem_setIfInBounds hu with hx | hx
  · exact h u hx
  · rw [hx]; exact hv
def fldE (e : Ent) (f : Int) : Ent := { e with C := e.C.setIfInBounds 5 (.int .u8 f), f := f }
theorem fldE_ok {e : Ent} (h : e.Ok) (f : Int) (hf : 0 ≤ f ∧ f ≤ 255) : (fldE e f).Ok := by
  obtain ⟨⟨c0, c4, c5, c31, c32, co⟩, h1, h2, h3, h4⟩ := h
  have far : ∀ j, j ≠ 5 → (e.C.setIfInBounds 5 (.int .u8 f))[j]? = e.C[j]? := fun j hj => Array.getElem?_setIfInBounds_ne (by omega)
  refine ⟨⟨by simpa [fldE] using c0, (far 4 (by decide)).trans c4, ?_, (far 31 (by decide)).trans c31, (far 32 (by decide)).trans c32, fun i hi => ?_⟩, ?_, h2, hf, h4⟩
  · show (e.C.setIfInBounds 5 (.int .u8 f))[5]? = _
    rw [Array.getElem?_setIfInBounds_self_of_lt (by omega)]; rfl
  · obtain ⟨p0, p1, p2, p3, p4, p5⟩ := co i hi
    exact ⟨(far _ (by omega)).trans p0, (far _ (by omega)).trans p1, (far _ (by omega)).trans p2, (far _ (by omega)).trans p3, (far _ (by omega)).trans p4, (far _ (by omega)).trans p5⟩
  · exact one_set23 h1 5 _ rfl
theorem fldE_right {e : Ent} (h : e.right = true) (f : Int) (hf : f ≤ 3) : (fldE e f).right = true := by
  unfold Ent.right rightE at *
  rw [Bool.and_eq_true] at *
  exact ⟨decide_eq_true hf, h.2⟩
theorem fldE_res (e : Ent) (f V : Int) (s : Nat) : resE V s (fldE e f) = resE V s e := rfl
/-- The number of a field, turned. -/
def tF (t f : Int) : Int := (f + t) % 4
theorem tF_inj (t f g : Int) (hf : 0 ≤ f ∧ f ≤ 3) (hg : 0 ≤ g ∧ g ≤ 3) (h : tF t f = tF t g) : f = g := by unfold tF at h; omega
/-- The entries in another order, with other fields. -/
def rotE (L : List Ent) (k : Nat) : List Ent := L.drop k ++ L.take k
def ordE (L : List Ent) (k : Nat) (t : Int) : List Ent := (rotE L k).map fun e => fldE e (tF t e.f)
theorem rotE_len (L : List Ent) (k : Nat) (h : k ≤ L.length) : (rotE L k).length = L.length := by unfold rotE; rw [List.length_append, List.length_drop, List.length_take]; omega
theorem rotE_mem (L : List Ent) (k : Nat) (e : Ent) (h : e ∈ rotE L k) : e ∈ L := by
  rcases List.mem_append.1 h with h | h
  · exact List.mem_of_mem_drop h
  · exact List.mem_of_mem_take h
theorem ordE_len (L : List Ent) (k : Nat) (t : Int) (h : k ≤ L.length) : (ordE L k t).length = L.length := by unfold ordE; rw [List.length_map, rotE_len L k h]
theorem ordE_ok (L : List Ent) (k : Nat) (t : Int) (hO : ∀ e ∈ L, e.Ok) : ∀ e ∈ ordE L k t, e.Ok := fun e he => by
  obtain ⟨x, hx, rfl⟩ := List.mem_map.1 he
  exact fldE_ok (hO x (rotE_mem L k x hx)) _ (by unfold tF; omega)
theorem ordE_right (L : List Ent) (k : Nat) (t : Int) (hR : ∀ e ∈ L, e.right = true) : ∀ e ∈ ordE L k t, e.right = true := fun e he => by
  obtain ⟨x, hx, rfl⟩ := List.mem_map.1 he
  exact fldE_right (hR x (rotE_mem L k x hx)) _ (by unfold tF; omega)
theorem rot_get {α : Type} (L : List α) (k i : Nat) (hk : k < L.length) (hi : i < L.length) : (L.drop k ++ L.take k)[(i + L.length - k) % L.length]? = some L[i] := by
  by_cases h : i < k
  · have e : (i + L.length - k) % L.length = i + L.length - k := Nat.mod_eq_of_lt (by omega)
    rw [e, List.getElem?_append_right (by rw [List.length_drop]; omega), List.length_drop, List.getElem?_take_of_lt (by omega), show i + L.length - k - (L.length - k) = i by omega]
    exact List.getElem?_eq_getElem hi
  · have e : (i + L.length - k) % L.length = i - k := by rw [show i + L.length - k = (i - k) + L.length by omega, Nat.add_mod_right, Nat.mod_eq_of_lt (by omega)]
    rw [e, List.getElem?_append_left (by rw [List.length_drop]; omega), List.getElem?_drop, show k + (i - k) = i by omega]
    exact List.getElem?_eq_getElem hi
theorem filter_tF (t f : Int) (hf : 0 ≤ f ∧ f ≤ 3) : ∀ (M : List Ent) (_ : ∀ e ∈ M, 0 ≤ e.f ∧ e.f ≤ 3) (F : Ent → List Pt) (_ : ∀ e g, F (fldE e g) = F e), ((M.map fun e => fldE e (tF t e.f)).filter (selE (tF t f))).map F = (M.filter (selE f)).map F := by
  intro M
  induction M with
  | nil => intro _ F _; rfl
  | cons a M ih =>
    intro hM F hF
    have ha := hM a (List.mem_cons_self ..)
    have ih := ih (fun e he => hM e (List.mem_cons_of_mem _ he)) F hF
    have hs : selE (tF t f) (fldE a (tF t a.f)) = selE f a := by
      unfold selE
      have e1 : cmpB (fldE a (tF t a.f)) = cmpB a := rfl
      have e2 : decide ((fldE a (tF t a.f)).f = tF t f) = decide (a.f = f) := by
        show decide (tF t a.f = tF t f) = _
        by_cases h : a.f = f
        · rw [h, decide_eq_true rfl, decide_eq_true rfl]
        · rw [decide_eq_false h, decide_eq_false (fun e => h (tF_inj t _ _ ha hf e))]
      rw [e1, e2]
    rw [List.map_cons]
    by_cases h : selE f a = true
    · rw [List.filter_cons_of_pos (by rw [hs]; exact h), List.filter_cons_of_pos h, List.map_cons, List.map_cons, ih, hF]
    · rw [List.filter_cons_of_neg (by rw [hs]; exact h), List.filter_cons_of_neg h, ih]
theorem notVoid_map (M : List Ent) (F : Ent → Ent) (hF : ∀ e, (F e).k = e.k) : notVoid (M.map F) = notVoid M := by
  unfold notVoid
  induction M with
  | nil => rfl
  | cons a M ih =>
    rw [List.map_cons]
    simp only [List.filter_cons, hF]
    by_cases h : decide (a.k ≠ 0) = true
    · rw [if_pos h, if_pos h, List.length_cons, List.length_cons, ih]
    · rw [if_neg h, if_neg h, ih]
theorem filter_rot (L : List Ent) (k : Nat) (p : Ent → Bool) : ((rotE L k).filter p).length = (L.filter p).length := by
  have h : (L.filter p).length = ((L.take k ++ L.drop k).filter p).length := by rw [List.take_append_drop]
  rw [h]
  unfold rotE
  rw [List.filter_append, List.filter_append, List.length_append, List.length_append]; omega
theorem gAll_rot (L : List Ent) (k : Nat) (p : Ent → Bool) (F : Ent → List Pt) (r : List Pt) : gAll r (((rotE L k).filter p).map F) = gAll r ((L.filter p).map F) := by
  have h : gAll r ((L.filter p).map F) = gAll r (((L.take k ++ L.drop k).filter p).map F) := by rw [List.take_append_drop]
  rw [h]
  unfold rotE
  rw [List.filter_append, List.filter_append, List.map_append, List.map_append, gAll_app, gAll_app]; omega
/-- In which order entries come does not matter; nor how fields are numbered. -/
theorem line_ord (L : List Ent) (hO : ∀ e ∈ L, e.Ok) (hR : ∀ e ∈ L, e.right = true) (V t : Int) (k i : Nat) (hk : k < L.length) (hi : i < L.length) : lineE (ordE L k t) V ((i + L.length - k) % L.length) = lineE L V i := by
  obtain ⟨m, hm⟩ : ∃ m, (i + L.length - k) % L.length = m := ⟨_, rfl⟩
  have hml : m < L.length := by rw [← hm]; exact Nat.mod_lt _ (by omega)
  have hmo : m < (ordE L k t).length := by rw [ordE_len L k t (by omega)]; exact hml
  have hge : (ordE L k t)[m] = fldE L[i] (tF t (L[i]).f) := by
    have h1 := rot_get L k i hk hi
    rw [hm] at h1
    have h2 : (ordE L k t)[m]? = some (fldE L[i] (tF t (L[i]).f)) := by
      unfold ordE
      rw [List.getElem?_map]
      show (rotE L k)[m]?.map _ = _
      unfold rotE
      rw [h1]; rfl
    rw [List.getElem?_eq_getElem hmo] at h2
    exact Option.some.inj h2
  have hfm : ∀ e ∈ L, 0 ≤ e.f ∧ e.f ≤ 3 := fun e he => ⟨(hO e he).2.2.2.1.1, right_f (hR e he)⟩
  have hff := hfm _ (List.getElem_mem hi)
  have hfl : ∀ s, fldR (ordE L k t) (tF t (L[i]).f) V s = ((rotE L k).filter (selE (L[i]).f)).map (resE V s) := fun s => by
    rw [fldR_filter]
    exact filter_tF t _ hff (rotE L k) (fun e he => hfm e (rotE_mem L k e he)) (resE V s) (fun e g => fldE_res e g V s)
  rw [hm]
  refine line_eq L (ordE L k t) V i m hi hmo (by rw [hge]; rfl) (by rw [hge]; rfl) (by rw [hge]; rfl) (fun s => by rw [hge]; exact fldE_res _ _ _ _) ?_ (fun s => ?_) (fun s => ?_)
  · unfold ordE
    rw [notVoid_map (rotE L k) (fun e => fldE e (tF t e.f)) (fun _ => rfl)]
    exact filter_rot L k _
  · rw [hge]
    show (fldR (ordE L k t) (tF t (L[i]).f) V s).length = _
    rw [hfl, fldR_filter, List.length_map, List.length_map, filter_rot]
  · rw [hge]
    show gAll _ (fldR (ordE L k t) (tF t (L[i]).f) V s) = _
    rw [hfl, fldR_filter, gAll_rot]

end Go.Proofs.YtchklobblkddhaaDoor
