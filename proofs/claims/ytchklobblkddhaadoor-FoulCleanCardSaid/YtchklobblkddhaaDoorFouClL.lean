/- The plain laws of FoulClean: entries that are compared, in one field; a void entry among them; what does not matter. -/
import Derived.Test.YtchklobblkddhaaDoorFouDemW
import Derived.Test.YtchklobblkddhaaDoorFouAwkW
import Derived.Test.YtchklobblkddhaaDoorFouOrL
import Derived.Test.YtchklobblkddhaaDoorFouRow
namespace Go.Proofs.YtchklobblkddhaaDoor
open Go.RowKit

/-- The entries that are compared, of the first k, in field 0. -/
def cleanTo (L : List Ent) (k : Nat) : List Ent := ((L.take k).filter cmpB).map fun e => fldE e 0
def cleanE (L : List Ent) : List Ent := cleanTo L L.length
theorem cleanTo_succ (L : List Ent) (k : Nat) (h : k < L.length) : cleanTo L (k + 1) = cleanTo L k ++ (if cmpB L[k] = true then [fldE L[k] 0] else []) := by
  unfold cleanTo
  rw [List.take_succ_eq_append_getElem h, List.filter_append, List.map_append]
  congr 1
  by_cases e : cmpB L[k] = true
  · rw [if_pos e, List.filter_cons_of_pos e]; rfl
  · rw [if_neg e, List.filter_cons_of_neg e]; rfl
theorem cleanTo_mem (L : List Ent) (k : Nat) (e : Ent) (h : e ∈ cleanTo L k) : ∃ x ∈ L, cmpB x = true ∧ e = fldE x 0 := by
  obtain ⟨x, hx, rfl⟩ := List.mem_map.1 h
  obtain ⟨h1, h2⟩ := List.mem_filter.1 hx
  exact ⟨x, List.mem_of_mem_take h1, h2, rfl⟩
theorem cleanTo_len (L : List Ent) (k : Nat) : (cleanTo L k).length ≤ k := by
  unfold cleanTo
  rw [List.length_map]
  exact Nat.le_trans (List.length_filter_le _ _) (by rw [List.length_take]; omega)
/-- All are compared, in field 0. -/
def Clean (C : List Ent) : Prop := ∀ e ∈ C, e.Ok ∧ e.right = true ∧ cmpB e = true ∧ e.f = 0
theorem cleanTo_clean (L : List Ent) (hO : ∀ e ∈ L, e.Ok) (hR : ∀ e ∈ L, e.right = true) (k : Nat) : Clean (cleanTo L k) := fun e he => by
  obtain ⟨x, hx, hc, rfl⟩ := cleanTo_mem L k e he
  exact ⟨fldE_ok (hO x hx) 0 (by decide), fldE_right (hR x hx) 0 (by decide), hc, rfl⟩
theorem Clean.nv {C : List Ent} (h : Clean C) : notVoid C = C.length := by
  unfold notVoid
  rw [List.filter_eq_self.2 (fun e he => decide_eq_true (of_decide_eq_true (h e he).2.2.1).1)]
theorem Clean.in0 {C : List Ent} (h : Clean C) : inField C 0 = C.length := by
  unfold inField
  rw [List.filter_eq_self.2 (fun e he => Bool.and_eq_true_iff.2 ⟨(h e he).2.2.1, decide_eq_true (h e he).2.2.2⟩)]
theorem Clean.inX {C : List Ent} (h : Clean C) (f : Int) (hf : f ≠ 0) : inField C f = 0 := by
  unfold inField
  rw [List.filter_eq_nil_iff.2 (fun e he hx => hf (by rw [← of_decide_eq_true (Bool.and_eq_true_iff.1 hx).2]; exact (h e he).2.2.2))]
  rfl
theorem Clean.dem {C : List Ent} (h : Clean C) (s : Nat) : demF C s = ((C.length : Int) * max ((C.length : Int) - 1) 0, 1) := by
  have haw : C.filterMap (fun e => if e.k = 4 then some ((if s = 0 then e.a0 else e.a1) * (2 * ((notVoid C : Int) - 1))) else none) = [] := by
    rw [List.filterMap_eq_nil_iff]
    intro e he
    rw [if_neg (of_decide_eq_true (h e he).2.2.1).2]
  unfold demF demN
  rw [haw, List.append_nil]
  have hr : List.range 4 = [0, 1, 2, 3] := rfl
  rw [hr]
  simp only [List.map_cons, List.map_nil, List.sum_cons, List.sum_nil]
  have e1 : inField C ((1 : Nat) : Int) = 0 := h.inX 1 (by decide)
  have e2 : inField C ((2 : Nat) : Int) = 0 := h.inX 2 (by decide)
  have e3 : inField C ((3 : Nat) : Int) = 0 := h.inX 3 (by decide)
  have e0 : inField C ((0 : Nat) : Int) = C.length := h.in0
  rw [e0, e1, e2, e3, h.nv]
  have hm : maxA (C.length : Int) = max ((C.length : Int) - 1) 0 := by unfold maxA; split <;> omega
  rw [hm]
  have := whole_frD ((C.length : Int) * max ((C.length : Int) - 1) 0) 100 (by decide)
  rw [← this]
  congr 1
  simp

/-! ### A void entry among them -/
def voidO : Nat → Oc := fun _ => ⟨0, 0, 0, 0, 0, 0⟩
def voidC (n f : Int) : Array Value := (enCells 0 f voidO 0 0).setIfInBounds 0 (.int .i64 n)
def voidE (n f : Int) : Ent := ⟨voidC n f, 0, f, voidO, 0, 0⟩
theorem ent_set {e : Ent} (h : e.Ok) (j : Nat) (v : Value) (hv : v.oneCell' = true) (h4 : j < 4 ∨ j = 6) : ({ e with C := e.C.setIfInBounds j v } : Ent).Ok := by
  obtain ⟨⟨c0, c4, c5, c31, c32, co⟩, h1, h2, h3, h5⟩ := h
  have far : ∀ i, i ≠ j → (e.C.setIfInBounds j v)[i]? = e.C[i]? := fun i hi => Array.getElem?_setIfInBounds_ne (by omega)
  refine ⟨⟨by simpa using c0, (far 4 (by omega)).trans c4, (far 5 (by omega)).trans c5, (far 31 (by omega)).trans c31, (far 32 (by omega)).trans c32, fun i hi => ?_⟩, one_set23 h1 j v hv, h2, h3, h5⟩
  obtain ⟨p0, p1, p2, p3, p4, p5⟩ := co i hi
  exact ⟨(far _ (by omega)).trans p0, (far _ (by omega)).trans p1, (far _ (by omega)).trans p2, (far _ (by omega)).trans p3, (far _ (by omega)).trans p4, (far _ (by omega)).trans p5⟩
theorem voidE_ok (n f : Int) (hf : 0 ≤ f ∧ f ≤ 255) : (voidE n f).Ok := by
  have h : (⟨enCells 0 f voidO 0 0, 0, f, voidO, 0, 0⟩ : Ent).Ok :=
    ⟨enCells_ok _ _ _ _ _, enCells_one _ _ _ _ _, fun i _ => (show OcOk ⟨0, 0, 0, 0, 0, 0⟩ by unfold OcOk; decide), hf, (show (0 : Int) ≤ 0 ∧ (0 : Int) ≤ 255 by decide)⟩
  exact ent_set h 0 (.int .i64 n) rfl (.inl (by decide))
theorem voidE_right (n f : Int) (hf : f ≤ 3) : (voidE n f).right = true := by
  have h : voidB voidO 0 0 = true := by decide
  show (decide (f ≤ 3) && voidB voidO 0 0) = true
  rw [h, decide_eq_true hf]; rfl
def insE (C : List Ent) (k : Nat) (v : Ent) : List Ent := C.take k ++ v :: C.drop k
theorem insE_len (C : List Ent) (k : Nat) (v : Ent) (hk : k ≤ C.length) : (insE C k v).length = C.length + 1 := by
  unfold insE
  rw [List.length_append, List.length_cons, List.length_take, List.length_drop]; omega
theorem insE_mem (C : List Ent) (k : Nat) (v e : Ent) (h : e ∈ insE C k v) : e ∈ C ∨ e = v := by
  rcases List.mem_append.1 h with h | h
  · exact .inl (List.mem_of_mem_take h)
  · rcases List.mem_cons.1 h with h | h
    · exact .inr h
    · exact .inl (List.mem_of_mem_drop h)
/-- Where an entry stands behind that. -/
def clI (k i : Nat) : Nat := if i ≥ k then i + 1 else i
theorem clI_lt (C : List Ent) (k : Nat) (v : Ent) (hk : k ≤ C.length) (i : Nat) (hi : i < C.length) : clI k i < (insE C k v).length := by
  rw [insE_len C k v hk]
  unfold clI; split <;> omega
theorem insE_get (C : List Ent) (k : Nat) (v : Ent) (hk : k ≤ C.length) (i : Nat) (hi : i < C.length) : (insE C k v)[clI k i]? = some C[i] := by
  have hl : (C.take k).length = k := by rw [List.length_take]; omega
  unfold insE clI
  by_cases h : i ≥ k
  · rw [if_pos h, List.getElem?_append_right (by omega), hl, show i + 1 - k = (i - k) + 1 by omega, List.getElem?_cons_succ, List.getElem?_drop, show k + (i - k) = i by omega]
    exact List.getElem?_eq_getElem hi
  · rw [if_neg h, List.getElem?_append_left (by omega), List.getElem?_take_of_lt (by omega)]
    exact List.getElem?_eq_getElem hi
theorem insE_filter (C : List Ent) (k : Nat) (v : Ent) (p : Ent → Bool) (hp : p v = false) : (insE C k v).filter p = C.filter p := by
  unfold insE
  rw [List.filter_append, List.filter_cons_of_neg (by rw [hp]; decide), ← List.filter_append, List.take_append_drop]

/-! ### What does not matter of an entry -/
def gE (n m : Int) (i : Nat) (e : Ent) : Ent := { e with C := (((e.C.setIfInBounds 1 (.int .i64 n)).setIfInBounds 2 (.int .i64 m)).setIfInBounds 3 (.int .i64 (i : Int))).setIfInBounds 6 (.bool ((i : Int) % 2 == 0)) }
theorem gE_same (n m : Int) (i : Nat) (e : Ent) : (gE n m i e).k = e.k ∧ (gE n m i e).f = e.f ∧ (gE n m i e).o = e.o ∧ (gE n m i e).a0 = e.a0 ∧ (gE n m i e).a1 = e.a1 := ⟨rfl, rfl, rfl, rfl, rfl⟩
theorem gE_ok (n m : Int) (i : Nat) {e : Ent} (h : e.Ok) : (gE n m i e).Ok :=
  ent_set (ent_set (ent_set (ent_set h 1 _ rfl (.inl (by decide))) 2 _ rfl (.inl (by decide))) 3 _ rfl (.inl (by decide))) 6 _ rfl (.inr rfl)
theorem mapTo_fld (f V : Int) (s : Nat) (R : List Ent) : ∀ (F : Nat → Ent → Ent) (_ : ∀ i e, (F i e).k = e.k ∧ (F i e).f = e.f ∧ (F i e).o = e.o) (i : Nat), ((mapTo F i R).filter (selE f)).map (resE V s) = (R.filter (selE f)).map (resE V s) := by
  induction R with
  | nil => intro F _ i; cases i <;> rfl
  | cons a R ih =>
    intro F hF i
    cases i with
    | zero => rfl
    | succ i =>
      show ((F 0 a :: mapTo (fun n => F (n + 1)) i R).filter (selE f)).map (resE V s) = _
      obtain ⟨e1, e2, e3⟩ := hF 0 a
      have hs : selE f (F 0 a) = selE f a := by unfold selE cmpB; rw [e1, e2]
      have hr : resE V s (F 0 a) = resE V s a := by unfold resE; rw [e1, e3]
      have ih := ih (fun n => F (n + 1)) (fun i e => hF (i + 1) e) i
      by_cases h : selE f a = true
      · rw [List.filter_cons_of_pos (by rw [hs]; exact h), List.filter_cons_of_pos h, List.map_cons, List.map_cons, ih, hr]
      · rw [List.filter_cons_of_neg (by rw [hs]; exact h), List.filter_cons_of_neg h, ih]
theorem mapTo_nv (R : List Ent) : ∀ (F : Nat → Ent → Ent) (_ : ∀ i e, (F i e).k = e.k) (i : Nat), notVoid (mapTo F i R) = notVoid R := by
  unfold notVoid
  induction R with
  | nil => intro F _ i; cases i <;> rfl
  | cons a R ih =>
    intro F hF i
    cases i with
    | zero => rfl
    | succ i =>
      show ((F 0 a :: mapTo (fun n => F (n + 1)) i R).filter _).length = _
      have ih := ih (fun n => F (n + 1)) (fun i e => hF (i + 1) e) i
      simp only [List.filter_cons, hF]
      by_cases h : decide (a.k ≠ 0) = true
      · rw [if_pos h, if_pos h, List.length_cons, List.length_cons, ih]
      · rw [if_neg h, if_neg h, ih]
/-- The board with a void entry, and other rounds, tables, boards, versions and arrows. -/
def moreE (C : List Ent) (k : Nat) (n m f : Int) (i : Nat) : List Ent := mapTo (gE n m) i (insE C k (voidE n f))
theorem moreE_len (C : List Ent) (k : Nat) (n m f : Int) (i : Nat) (hk : k ≤ C.length) : (moreE C k n m f i).length = C.length + 1 := by unfold moreE; rw [mapTo_len, insE_len C k _ hk]
theorem moreE_ok (C : List Ent) (hC : Clean C) (k : Nat) (n m f : Int) (hf : 0 ≤ f ∧ f ≤ 3) (i : Nat) : ∀ e ∈ moreE C k n m f i, e.Ok ∧ e.right = true :=
  mapTo_all (gE n m) (insE C k (voidE n f)) (fun e => e.Ok ∧ e.right = true) (fun e he => by
    rcases insE_mem C k _ e he with h | h
    · exact ⟨(hC e h).1, (hC e h).2.1⟩
    · rw [h]; exact ⟨voidE_ok n f ⟨hf.1, by omega⟩, voidE_right n f hf.2⟩) (fun j e h => ⟨gE_ok n m j h.1, h.2⟩) i
/-- Void entries change nothing; nor does what is of an entry but its content. -/
theorem line_clean (C : List Ent) (k : Nat) (hk : k ≤ C.length) (n m f V : Int) (j i : Nat) (hi : i < C.length) : lineE (moreE C k n m f j) V (clI k i) = lineE C V i := by
  have hml : clI k i < (moreE C k n m f j).length := by unfold moreE; rw [mapTo_len]; exact clI_lt C k _ hk i hi
  have hmi : clI k i < (insE C k (voidE n f)).length := clI_lt C k _ hk i hi
  have hgi : (insE C k (voidE n f))[clI k i] = C[i] := by
    have := insE_get C k (voidE n f) hk i hi
    rw [List.getElem?_eq_getElem hmi] at this
    exact Option.some.inj this
  have hg := mapTo_get (insE C k (voidE n f)) (gE n m) j (clI k i) hmi
  have hg2 : (moreE C k n m f j)[clI k i] = if clI k i < j then gE n m (clI k i) C[i] else C[i] := by
    have h1 : (moreE C k n m f j)[clI k i]? = some (if clI k i < j then gE n m (clI k i) C[i] else C[i]) := by
      unfold moreE
      rw [hg, hgi]
    rw [List.getElem?_eq_getElem hml] at h1
    exact Option.some.inj h1
  obtain ⟨x, hx⟩ : ∃ x, (moreE C k n m f j)[clI k i] = x := ⟨_, rfl⟩
  have hxe : x.k = (C[i]).k ∧ x.f = (C[i]).f ∧ x.o = (C[i]).o ∧ x.a0 = (C[i]).a0 ∧ x.a1 = (C[i]).a1 := by
    rw [← hx, hg2]
    by_cases hlt : clI k i < j
    · rw [if_pos hlt]; exact gE_same n m _ _
    · rw [if_neg hlt]; exact ⟨rfl, rfl, rfl, rfl, rfl⟩
  obtain ⟨e1, e2, e3, e4, e5⟩ := hxe
  have hfl : ∀ s, fldR (moreE C k n m f j) (C[i]).f V s = fldR C (C[i]).f V s := fun s => by
    rw [fldR_filter, fldR_filter]
    unfold moreE
    rw [mapTo_fld _ V s _ (gE n m) (fun _ _ => ⟨rfl, rfl, rfl⟩) j]
    rw [insE_filter C k (voidE n f) (selE (C[i]).f) (by unfold selE; rfl)]
  refine line_eq C (moreE C k n m f j) V i (clI k i) hi hml (by rw [hx]; exact e1) (by rw [hx]; exact e4) (by rw [hx]; exact e5) (fun s => by rw [hx]; unfold resE; rw [e1, e3]) ?_ (fun s => ?_) (fun s => ?_)
  · unfold moreE
    rw [mapTo_nv _ (gE n m) (fun _ _ => rfl)]
    unfold notVoid
    rw [insE_filter C k _ _ rfl]
  · rw [hx, e2, hfl]
  · rw [hx, e2, hfl]

end Go.Proofs.YtchklobblkddhaaDoor
