/- What the entries of a field get, in plain Lean. Two rows of rows of the call's own that grow side by side; an append in a round of a loop over a function. No walk stands in this text. What the entries of a board get, in plain Lean. -/
import Derived.Test.YtchklobblkddhaaGreatDoorFouAllW
import Derived.Test.YtchklobblkddhaaGreatDoorNeuLaw
import Derived.Test.YtchklobblkddhaaGreatDoorAdjSide
import Derived.Test.YtchklobblkddhaaGreatDoorMatOwn
import Derived.Deep.AppendLies
import Derived.Test.YtchklobblkddhaaGreatDoorAdjAwardW
namespace Go.Proofs.YtchklobblkddhaaGreatDoor
open Go.RowKit
open Go.RowKit Go.Shelf

/-! ### What the entries of a field get, in plain Lean. -/
/-- The result of a side of an entry. -/
def resE (vul : Int) (s : Nat) (e : Ent) : List Pt := if s = 0 then wPts (sideA e.k e.o) vul else negP (wPts (sideB e.k e.o) vul)
/-- The results of a side in a field. -/
def fldR (L : List Ent) (f vul : Int) (s : Nat) : List (List Pt) := (itAll L f).map fun x => resE vul s L[x.1.1]
theorem fldR_len (L : List Ent) (f vul : Int) (s : Nat) : (fldR L f vul s).length = (itAll L f).length := by unfold fldR; rw [List.length_map]
/-- An index is that of an entry that is compared, in a field. -/
def selN (L : List Ent) (f : Int) (i : Nat) : Bool := match L[i]? with | some e => selE f e | none => false
/-- What an entry of a field gets. -/
def valN (L : List Ent) (f vul all : Int) (s i : Nat) : Pt := match L[i]? with
  | some e => fr (gAll (resE vul s e) (fldR L f vul s) * all - 10000 * ((fldR L f vul s).length : Int)) (10000 * ((fldR L f vul s).length : Int))
  | none => (0, 0)
/-- What all entries get, when j sides of a field are done. -/
def stepX (L : List Ent) (f vul all : Int) (X0 : Nat → Nat → Pt) (j : Nat) : Nat → Nat → Pt := fun i t => if t < j ∧ selN L f i = true then valN L f vul all t i else X0 i t
theorem stepX_zero (L : List Ent) (f vul all : Int) (X0 : Nat → Nat → Pt) : stepX L f vul all X0 0 = X0 := by
  funext i t; unfold stepX; rw [if_neg (fun h => by omega)]

/-! ### The indices that are yielded -/
def idxTo (L : List Ent) (f : Int) (k : Nat) (h : k ≤ L.length) : List Nat := (itTo L f k h).map (·.1.1)
theorem idxTo_succ (L : List Ent) (f : Int) (k : Nat) (h : k + 1 ≤ L.length) : idxTo L f (k + 1) h = idxTo L f k (by omega) ++ (if selE f (L[k]'(by omega)) = true then [k] else []) := by
  unfold idxTo
  show (itTo L f k _ ++ _).map _ = _
  rw [List.map_append]
  congr 1
  by_cases hs : selE f (L[k]'(by omega)) = true
  · rw [dif_pos hs, if_pos hs]; rfl
  · rw [dif_neg hs, if_neg hs]; rfl
theorem idxTo_lt (L : List Ent) (f : Int) : ∀ (k : Nat) (h : k ≤ L.length), ∀ i ∈ idxTo L f k h, i < k := by
  intro k
  induction k with
  | zero => intro h i hi; cases hi
  | succ k ih =>
    intro h i hi
    rw [idxTo_succ] at hi
    rcases List.mem_append.1 hi with hi | hi
    · have := ih (by omega) i hi; omega
    · split at hi
      · rw [List.mem_singleton.1 hi]; omega
      · cases hi
theorem idxTo_nodup (L : List Ent) (f : Int) : ∀ (k : Nat) (h : k ≤ L.length), (idxTo L f k h).Nodup := by
  intro k
  induction k with
  | zero => intro h; exact List.nodup_nil
  | succ k ih =>
    intro h
    rw [idxTo_succ, List.nodup_append]
    refine ⟨ih (by omega), ?_, ?_⟩
    · split
      · exact List.nodup_cons.2 ⟨by simp, List.nodup_nil⟩
      · exact List.nodup_nil
    · intro a ha b hb
      have h1 := idxTo_lt L f k (by omega) a ha
      split at hb
      · rw [List.mem_singleton.1 hb]; omega
      · cases hb
theorem idxTo_mem (L : List Ent) (f : Int) : ∀ (k : Nat) (h : k ≤ L.length) (i : Nat), i ∈ idxTo L f k h ↔ i < k ∧ selN L f i = true := by
  intro k
  induction k with
  | zero => intro h i; exact ⟨fun hi => (by cases hi), fun hi => (by omega)⟩
  | succ k ih =>
    intro h i
    rw [idxTo_succ, List.mem_append, ih (by omega) i]
    have hk : L[k]? = some (L[k]'(by omega)) := List.getElem?_eq_getElem (by omega)
    have hs : selN L f k = selE f (L[k]'(by omega)) := by unfold selN; rw [hk]
    constructor
    · rintro (⟨h1, h2⟩ | h1)
      · exact ⟨by omega, h2⟩
      · split at h1
        · rename_i h2
          rw [List.mem_singleton.1 h1]
          exact ⟨by omega, by rw [hs]; exact h2⟩
        · cases h1
    · rintro ⟨h1, h2⟩
      by_cases e : i < k
      · exact .inl ⟨e, h2⟩
      · obtain rfl : i = k := by omega
        rw [hs] at h2
        exact .inr (by rw [if_pos h2]; exact List.mem_singleton.2 rfl)
def idxAll (L : List Ent) (f : Int) : List Nat := (itAll L f).map (·.1.1)
theorem idxAll_eq (L : List Ent) (f : Int) : idxAll L f = idxTo L f L.length (Nat.le_refl _) := rfl
theorem selN_lt {L : List Ent} {f : Int} {i : Nat} (h : selN L f i = true) : i < L.length := by
  unfold selN at h
  cases hL : L[i]? with
  | none => rw [hL] at h; cases h
  | some e => exact (List.getElem?_eq_some_iff.1 hL).1

/-! ### The cells of what entries get -/
def GC (C : Array Value) (n : Nat) (X : Nat → Nat → Pt) : Prop := C.size = n * 4 ∧ ∀ i s, i < n → s < 2 → C[i * 4 + s * 2]? = some (.int .i64 (X i s).1) ∧ C[i * 4 + s * 2 + 1]? = some (.int .i64 (X i s).2)
theorem GC.congr {C : Array Value} {n : Nat} {X Y : Nat → Nat → Pt} (h : GC C n X) (e : ∀ i s, i < n → s < 2 → X i s = Y i s) : GC C n Y :=
  ⟨h.1, fun i s hi hs => by rw [← e i s hi hs]; exact h.2 i s hi hs⟩
def updX (X : Nat → Nat → Pt) (i s : Nat) (p : Pt) : Nat → Nat → Pt := fun j t => if j = i ∧ t = s then p else X j t
theorem GC.set {C : Array Value} {n : Nat} {X : Nat → Nat → Pt} (h : GC C n X) (i s : Nat) (hi : i < n) (hs : s < 2) (p : Pt) :
    GC ((C.setIfInBounds (i * 4 + s * 2) (.int .i64 p.1)).setIfInBounds (i * 4 + s * 2 + 1) (.int .i64 p.2)) n (updX X i s p) := by
  obtain ⟨h1, h2⟩ := h
  refine ⟨by simp [h1], fun j t hj ht => ?_⟩
  obtain ⟨e1, e2⟩ := h2 j t hj ht
  unfold updX
  by_cases e : j = i ∧ t = s
  · obtain ⟨rfl, rfl⟩ := e
    rw [if_pos ⟨rfl, rfl⟩]
    constructor
    · rw [Array.getElem?_setIfInBounds_ne (by omega), Array.getElem?_setIfInBounds_self_of_lt (by omega)]
    · rw [Array.getElem?_setIfInBounds_self_of_lt (by simp; omega)]
  · rw [if_neg e]
    have hne : i * 4 + s * 2 ≠ j * 4 + t * 2 := fun h => e (by omega)
    constructor
    · rw [Array.getElem?_setIfInBounds_ne (by omega), Array.getElem?_setIfInBounds_ne (by omega)]; exact e1
    · rw [Array.getElem?_setIfInBounds_ne (by omega), Array.getElem?_setIfInBounds_ne (by omega)]; exact e2

/-- Points have been put where some indices say. -/
def PutOk (X0 : Nat → Nat → Pt) (s : Nat) (pts : List Pt) (idx : List Nat) (X : Nat → Nat → Pt) : Prop :=
  (∀ i t, t ≠ s → X i t = X0 i t) ∧ (∀ i, i ∉ idx → X i s = X0 i s) ∧ (idx.Nodup → ∀ k (h : k < idx.length), pts[k]? = some (X idx[k] s))
theorem PutOk.nil_ {X0 : Nat → Nat → Pt} {s : Nat} {pts : List Pt} : PutOk X0 s pts [] X0 := ⟨fun _ _ _ => rfl, fun _ _ => rfl, fun _ k h => (by cases h)⟩
theorem PutOk.snoc {X0 X : Nat → Nat → Pt} {s : Nat} {pts : List Pt} {idx : List Nat} (h : PutOk X0 s pts idx X) (i : Nat) (p : Pt) (hp : pts[idx.length]? = some p) : PutOk X0 s pts (idx ++ [i]) (updX X i s p) := by
  obtain ⟨h1, h2, h3⟩ := h
  refine ⟨fun j t ht => ?_, fun j hj => ?_, fun hd k hk => ?_⟩
  · unfold updX
    rw [if_neg (fun e => ht e.2)]; exact h1 j t ht
  · unfold updX
    rw [if_neg (fun e => hj (by rw [e.1]; exact List.mem_append_right _ (List.mem_singleton.2 rfl)))]
    exact h2 j (fun e => hj (List.mem_append_left _ e))
  · obtain ⟨d1, _, d3⟩ := List.nodup_append.1 hd
    by_cases e : k < idx.length
    · rw [List.getElem_append_left e]
      have hne : idx[k] ≠ i := fun e2 => d3 _ (List.getElem_mem e) i (List.mem_singleton.2 rfl) e2
      unfold updX
      rw [if_neg (fun e2 => hne e2.1)]
      exact h3 d1 k e
    · obtain rfl : k = idx.length := by rw [List.length_append] at hk; simp at hk; omega
      rw [List.getElem_append_right (Nat.le_refl _), hp]
      simp [updX]

theorem put_all {L : List Ent} {f vul all : Int} {X0 X : Nat → Nat → Pt} {j : Nat} (h : PutOk (stepX L f vul all X0 j) j (adjL (fldR L f vul j) all) (idxAll L f) X) (i t : Nat) (hi : i < L.length) : X i t = stepX L f vul all X0 (j + 1) i t := by
  obtain ⟨h1, h2, h3⟩ := h
  by_cases ht : t = j
  · subst ht
    by_cases hs : selN L f i = true
    · have hm : i ∈ idxAll L f := (idxTo_mem L f L.length (Nat.le_refl _) i).2 ⟨hi, hs⟩
      obtain ⟨k, hk, rfl⟩ := List.getElem_of_mem hm
      have h4 := h3 (idxTo_nodup L f L.length (Nat.le_refl _)) k hk
      have hk2 : k < (fldR L f vul t).length := by rw [fldR_len]; simpa [idxAll] using hk
      rw [List.getElem?_eq_getElem (by rw [adjL_len]; exact hk2), adjL_get _ _ k hk2] at h4
      rw [← Option.some.inj h4]
      unfold stepX
      rw [if_pos ⟨by omega, hs⟩]
      unfold valN
      rw [List.getElem?_eq_getElem hi]
      have hka : k < (itAll L f).length := by simpa [idxAll] using hk
      have e0 : (fldR L f vul t)[k]? = some (resE vul t L[((itAll L f)[k]).1.1]) := by
        unfold fldR
        rw [List.getElem?_map, List.getElem?_eq_getElem hka]
        rfl
      have ei : (idxAll L f)[k] = ((itAll L f)[k]).1.1 := by simp [idxAll]
      have e1 : (fldR L f vul t)[k] = resE vul t (L[(idxAll L f)[k]]) := by
        rw [List.getElem?_eq_getElem hk2] at e0
        rw [Option.some.inj e0]
        simp only [ei]
      rw [e1]
    · rw [h2 i (fun hm => hs ((idxTo_mem L f L.length (Nat.le_refl _) i).1 hm).2)]
      unfold stepX
      rw [if_neg (fun e => hs e.2), if_neg (fun e => hs e.2)]
  · rw [h1 i t ht]
    unfold stepX
    by_cases hs : t < j ∧ selN L f i = true
    · rw [if_pos hs, if_pos ⟨by omega, hs.2⟩]
    · rw [if_neg hs, if_neg (fun e => hs ⟨by omega, e.2⟩)]

/-! ### Two rows of rows of the call's own that grow side by side; an append in a round of a loop over a function. No walk stands in this text. -/
theorem own_grow {W W' : World} {base e sz n : Nat} {v : Value} {xs : List Value} {row : Option Nat} (h : W.ownsRow base e sz v n xs) (hg : W.grownBy W' row) (hr : ∀ k, row = some k → k < base ∨ ∃ o : Obj, W.heap[k]? = some o ∧ o.isCells = false) : W'.ownsRow base e sz v n xs :=
  h.kept hg (by
    cases hv : v.ownBlock with
    | none => exact .inl rfl
    | some g => exact .inr (fun e => by
        have h1 := (h.lt g hv).1
        rcases hr g e.symm with h2 | ⟨o, h2, h3⟩
        · omega
        · rcases h.2 with ⟨rfl, _⟩ | ⟨g', cap, cur, rfl, _, hb, _⟩
          · simp [Value.ownBlock] at hv
          · simp [Value.ownBlock] at hv
            subst hv
            rw [hb] at h2; cases h2; cases h3))
theorem grown_setCell23 (w : World) (a : Addr) (u : Value) : w.grownBy (w.setCell a u) (some a.block) :=
  ⟨rfl, rfl, rfl, by simp, fun k _ hk => Below.heap_setCell w a u k (fun e => hk (by rw [e]))⟩
theorem grown_alloc23 (w : World) (o : Obj) : w.grownBy (w.alloc o) none :=
  ⟨rfl, rfl, rfl, by simp, fun k hk _ => Below.heap_alloc w o k hk⟩
theorem grown_below23 {w w' : World} (h : Below w.heap.size w w') : w.grownBy w' none := ⟨h.os, h.tape, h.output, h.size, fun k hk _ => h.block k hk⟩
theorem OwnL.far {W W' : World} {base e : Nat} {v v' v1 : Value} {xs : List Value} {L : List (List Pt)} {H : Nat} (h : OwnL W base e v xs L) (h1 : OwnL W base e v1 xs L) (hg : W.grownBy W' v.ownBlock) (hat : v'.ownBlock = v.ownBlock ∨ v'.ownBlock = some H) (hH : H = W.heap.size) : OwnL W' base e v1 xs L :=
  ⟨h.1, fun j hj => by
    obtain ⟨Aj, cj, e1, e2, e3, e4⟩ := h.2 j hj
    obtain ⟨Ak, ck, f1, f2, f3, f4⟩ := h1.2 j hj
    rw [f1] at e1
    injection e1 with e1
    rw [e1] at f4
    exact ⟨Aj, cj, by rw [f1, e1], e2, (own_two e3 hg e4 (hH ▸ hat)).1, f4⟩⟩
theorem OwnL.grow {W W' : World} {base e : Nat} {v : Value} {xs : List Value} {L : List (List Pt)} {row : Option Nat} (h : OwnL W base e v xs L) (hg : W.grownBy W' row) (hr : ∀ k, row = some k → k < base ∨ ∃ o : Obj, W.heap[k]? = some o ∧ o.isCells = false) : OwnL W' base e v xs L :=
  ⟨h.1, fun j hj => by
    obtain ⟨Aj, cj, e1, e2, e3, e4⟩ := h.2 j hj
    exact ⟨Aj, cj, e1, e2, own_grow e3 hg hr, e4⟩⟩

/-- Two rows of results, apart from each other and from all results. -/
def CmpS (base k0 k1 : Nat) (v0 v1 : Value) (xs0 xs1 : List Value) (L0 L1 : List (List Pt)) (W : World) : Prop :=
  W.ownsRow base 74 1 v0 k0 xs0 ∧ W.ownsRow base 74 1 v1 k1 xs1 ∧ apart2 v0 v1 ∧ OwnL W base 114 v0 xs0 L0 ∧ OwnL W base 114 v1 xs0 L0 ∧ OwnL W base 114 v0 xs1 L1 ∧ OwnL W base 114 v1 xs1 L1
section
variable {base k0 k1 : Nat} {v0 v1 : Value} {xs0 xs1 : List Value} {L0 L1 : List (List Pt)} {W W' : World}
theorem CmpS.swap (h : CmpS base k0 k1 v0 v1 xs0 xs1 L0 L1 W) : CmpS base k1 k0 v1 v0 xs1 xs0 L1 L0 W := by
  obtain ⟨h1, h2, h3, h4, h5, h6, h7⟩ := h
  exact ⟨h2, h1, h3.symm_, h7, h6, h5, h4⟩
theorem CmpS.grow (h : CmpS base k0 k1 v0 v1 xs0 xs1 L0 L1 W) {row : Option Nat} (hg : W.grownBy W' row) (hr : ∀ k, row = some k → k < base ∨ ∃ o : Obj, W.heap[k]? = some o ∧ o.isCells = false) : CmpS base k0 k1 v0 v1 xs0 xs1 L0 L1 W' := by
  obtain ⟨h1, h2, h3, h4, h5, h6, h7⟩ := h
  exact ⟨own_grow h1 hg hr, own_grow h2 hg hr, h3, h4.grow hg hr, h5.grow hg hr, h6.grow hg hr, h7.grow hg hr⟩
theorem CmpS.push (h : CmpS base k0 k1 v0 v1 xs0 xs1 L0 L1 W) {A : Option Addr} {c : Nat} {r : List Pt} (hA : A = none → c = 0) (ho : W.ownsRow base 114 2 (.slice A r.length c) r.length (pC r)) (ap0 : apart2 v0 (.slice A r.length c)) (ap1 : apart2 v1 (.slice A r.length c))
    {v0' : Value} (hg : W.grownBy W' v0.ownBlock) (hat : v0'.ownBlock = v0.ownBlock ∨ v0'.ownBlock = some W.heap.size) (hown : W'.ownsRow base 74 1 v0' (k0 + 1) (xs0 ++ [.slice A r.length c])) :
    CmpS base (k0 + 1) k1 v0' v1 (xs0 ++ [.slice A r.length c]) xs1 (L0 ++ [r]) L1 W' := by
  obtain ⟨h1, h2, h3, h4, h5, h6, h7⟩ := h
  obtain ⟨g1, g2⟩ := own_two h2 hg h3 hat
  obtain ⟨r1, r2⟩ := own_two ho hg ap0 hat
  exact ⟨hown, g1, g2, (h4.kept hg hat rfl).snoc hA r1 r2, (h4.far h5 hg hat rfl).snoc hA r1 ap1, h6.kept hg hat rfl, h6.far h7 hg hat rfl⟩
theorem CmpS.len0 (h : CmpS base k0 k1 v0 v1 xs0 xs1 L0 L1 W) : L0.length = k0 := by rw [← h.2.2.2.1.1, h.1.1]; omega
theorem CmpS.nil_ : CmpS base 0 0 (.slice none 0 0) (.slice none 0 0) [] [] [] [] W := ⟨own_nil, own_nil, apart2.nil_, OwnL.nil_, OwnL.nil_, OwnL.nil_, OwnL.nil_⟩
theorem CmpS.lt0 (h : CmpS base k0 k1 v0 v1 xs0 xs1 L0 L1 W) (k : Nat) (hk : v0.ownBlock = some k) : base ≤ k ∧ k < W.heap.size := h.1.lt k hk
end
theorem below_grown23 {W W' : World} {base e sz n : Nat} {v : Value} {xs : List Value} (h : W.ownsRow base e sz v n xs) (hg : W.grownBy W' v.ownBlock) (hb : base ≤ W.heap.size) : Below base W W' := (Below.refl _ _).grown hg hb (fun k e => (h.lt k e).1)
theorem keeps_grown23 {W W' : World} {base e sz n : Nat} {v : Value} {xs : List Value} (h : W.ownsRow base e sz v n xs) (hg : W.grownBy W' v.ownBlock) : KeepsOthers W W' :=
  ⟨hg.size, fun k o hk ho => (hg.block k (Array.getElem?_eq_some_iff.1 hk).1 (fun e => by
    rcases h.2 with ⟨rfl, _⟩ | ⟨g, cap, cur, rfl, _, hb, _⟩
    · simp [Value.ownBlock] at e
    · simp [Value.ownBlock] at e
      subst e
      rw [hb] at hk; cases hk; cases ho)).trans hk⟩

section
variable {P : Program} {ops : Array Oper} {rest : List Oper} {o : Oper} {a : Act} {w : World} {Q : Exit → Act → World → Prop}
theorem round_append_lies {l n' : Nat} (hgd : o.guard = none) (s x : Operand) (t : TypeId)
    (ho : o.op = .call { callee := .builtin .append, args := #[s, x], argTypes := #[t, t] })
    (base : Nat) (e : TypeId) (i : TypeInfo) (z : Value) (size bytes : Nat) (ht : P.underlying t = some (.slice e)) (hi : P.info? e = some i) (hz : i.zero = some z)
    (hsize : i.size = size) (hby : i.bytes = bytes) (hzs : z.cells.size = size) (hsz : 0 < size)
    (v : Value) (n : Nat) (xs : List Value) (hs : a.eval s = v) (hown : w.ownsRow base e size v n xs)
    (ad : Addr) (m c : Nat) (news : List Value) (hx : a.eval x = .slice (some ad) m c) (hl : news.length = m * size) (hnews : ∀ j u, news[j]? = some u → w.cell? (ad.add j) = some u) (h1 : ∀ u ∈ news, u.oneCell' = true)
    (hm : 0 < m) (h63 : n + m ≤ maxLen) (hbytes : (n + m) * bytes ≤ 140737488355328) (hbase : base ≤ w.heap.size) (H : Nat) (hH : w.heap.size = H)
    (h : ∀ g cap w', w'.ownsRow base e size (.slice (some ⟨g, 0, none⟩) (n + m) cap) (n + m) (xs ++ news) → w.grownBy w' v.ownBlock → (v.ownBlock = some g ∨ g = H) → g < w'.heap.size → wpListIn (Fence.wide.inRound l) n' P ops Q rest (a.put o.dst (.slice (some ⟨g, 0, none⟩) (n + m) cap)) w') : wpListIn (Fence.wide.inRound l) n' P ops Q (o :: rest) a w :=
  wpListIn_plain hgd fun _ hK => op_round (by rw [ho]; intro c e; cases e) (wp_append_lies w s x t ho base e i z size bytes ht hi hz hsize hby hzs hsz v n xs hs hown ad m c news hx hl hnews h1 hm h63 hbytes hbase H hH fun g cap w' h2 h3 h4 h5 => hK _ _ (h g cap w' h2 h3 h4 h5))
theorem round_alloc_to {l n' : Nat} (hgd : o.guard = none) (ty : TypeId) (ho : o.op = .alloc ty) (Z : Array Value) (hz : (P.info? ty).map (·.zero) = some (some (.agg Z)))
    (h : wpListIn (Fence.wide.inRound l) n' P ops Q rest (a.put o.dst (.pointer (some ⟨w.heap.size, 0, none⟩))) (w.alloc (.cells Z ty))) : wpListIn (Fence.wide.inRound l) n' P ops Q (o :: rest) a w :=
  wpListIn_plain hgd fun _ hK => op_round (by rw [ho]; intro c e; cases e) (wp_alloc_to ty ho Z hz (hK _ _ h))
theorem round_store_new {l n' : Nat} (hgd : o.guard = none) (ty : TypeId) (x y : Operand) (ho : o.op = .store ty x y)
    (cells : Array Value) (t : TypeId) (old : Array Value) (hx : a.eval x = .pointer (some ⟨w.heap.size, 0, none⟩)) (hy : a.eval y = .agg cells)
    (hi : (P.info? ty).map (·.size) = some cells.size) (hold : old.size = cells.size) (h1 : cells.all (·.oneCell') = true)
    (h : wpListIn (Fence.wide.inRound l) n' P ops Q rest (a.put o.dst undef) (w.alloc (.cells cells t))) : wpListIn (Fence.wide.inRound l) n' P ops Q (o :: rest) a (w.alloc (.cells old t)) := by
  refine round_store_row hgd ty x y ho w.heap.size cells hx hy t old (heap_alloc_last w _) hi hold h1 ?_
  rw [World.setRow_alloc_new]; exact h
end
theorem right_k23 {k f : Int} {o : Nat → Oc} {a0 a1 : Int} (h : rightE k f o a0 a1 = true) : k = 0 ∨ k = 4 ∨ (k = 1 ∨ k = 2 ∨ k = 3) := by
  unfold rightE at h
  by_cases h0 : k = 0
  · exact .inl h0
  by_cases h4 : k = 4
  · exact .inr (.inl h4)
  by_cases h1 : k = 1
  · exact .inr (.inr (.inl h1))
  by_cases h2 : k = 2
  · exact .inr (.inr (.inr (.inl h2)))
  by_cases h3 : k = 3
  · exact .inr (.inr (.inr (.inr h3)))
  rw [if_neg h0, if_neg h1, if_neg h2, if_neg h3, if_neg h4, Bool.and_false] at h
  cases h
theorem sel_k {f : Int} {e : Ent} (hr : e.right = true) (h : selE f e = true) : e.k = 1 ∨ e.k = 2 ∨ e.k = 3 := by
  have h1 := (Bool.and_eq_true_iff.1 h).1
  unfold cmpB at h1
  have h2 := of_decide_eq_true h1
  rcases right_k23 hr with h3 | h3 | h3
  · exact absurd h3 h2.1
  · exact absurd h3 h2.2
  · exact h3

/-! ### What the entries of a board get, in plain Lean. -/
/-- What an entry gets ahead of all comparing. -/
def X1 (L : List Ent) (all : Int) (i t : Nat) : Pt := match L[i]? with
  | some e => if e.k = 0 then (0, 0) else if all = 1 then (0, 1) else if e.k = 4 then awardF (if t = 0 then e.a0 else e.a1) all else (0, 0)
  | none => (0, 0)
def X1to (L : List Ent) (all : Int) (k : Nat) (i t : Nat) : Pt := if i < k then X1 L all i t else (0, 0)
/-- What all entries get when j fields are compared. -/
def XF (L : List Ent) (vul all : Int) : Nat → Nat → Nat → Pt
  | 0 => X1to L all L.length
  | j + 1 => stepX L (j : Int) vul all (XF L vul all j) 2
/-- What an entry gets. -/
def XB (L : List Ent) (vul all : Int) (i t : Nat) : Pt := match L[i]? with
  | some e => if e.k = 0 then (0, 0) else if all = 1 then (0, 1) else if e.k = 4 then awardF (if t = 0 then e.a0 else e.a1) all else valN L e.f vul all t i
  | none => (0, 0)
theorem X1_get (L : List Ent) (all : Int) (i t : Nat) (h : i < L.length) : X1 L all i t = if (L[i]).k = 0 then (0, 0) else if all = 1 then (0, 1) else if (L[i]).k = 4 then awardF (if t = 0 then (L[i]).a0 else (L[i]).a1) all else (0, 0) := by
  unfold X1; rw [List.getElem?_eq_getElem h]
theorem XB_get (L : List Ent) (vul all : Int) (i t : Nat) (h : i < L.length) : XB L vul all i t = if (L[i]).k = 0 then (0, 0) else if all = 1 then (0, 1) else if (L[i]).k = 4 then awardF (if t = 0 then (L[i]).a0 else (L[i]).a1) all else valN L (L[i]).f vul all t i := by
  unfold XB; rw [List.getElem?_eq_getElem h]
theorem selN_get (L : List Ent) (f : Int) (i : Nat) (h : i < L.length) : selN L f i = selE f L[i] := by unfold selN; rw [List.getElem?_eq_getElem h]
theorem XF_val (L : List Ent) (vul all : Int) (i t : Nat) (h : i < L.length) (ht : t < 2) (hf : 0 ≤ (L[i]).f) : ∀ j : Nat, XF L vul all j i t = if cmpB L[i] = true ∧ (L[i]).f < (j : Int) then valN L (L[i]).f vul all t i else X1 L all i t := by
  intro j
  induction j with
  | zero =>
    rw [if_neg (fun e => by have := e.2; omega)]
    unfold XF X1to
    rw [if_pos h]
  | succ j ih =>
    show stepX L (j : Int) vul all (XF L vul all j) 2 i t = _
    unfold stepX
    rw [selN_get L _ i h]
    by_cases hs : selE (j : Int) L[i] = true
    · obtain ⟨h1, h2⟩ := Bool.and_eq_true_iff.1 hs
      have h2 := of_decide_eq_true h2
      rw [if_pos ⟨ht, hs⟩, if_pos ⟨h1, by omega⟩, h2]
    · rw [if_neg (fun e => hs e.2), ih]
      by_cases h1 : cmpB L[i] = true ∧ (L[i]).f < ((j + 1 : Nat) : Int)
      · have hne : (L[i]).f ≠ (j : Int) := fun e => hs (Bool.and_eq_true_iff.2 ⟨h1.1, decide_eq_true e⟩)
        rw [if_pos h1, if_pos ⟨h1.1, by have := h1.2; omega⟩]
      · rw [if_neg h1, if_neg (fun e => h1 ⟨e.1, by have := e.2; omega⟩)]
theorem right_f {e : Ent} (h : e.right = true) : e.f ≤ 3 := by
  unfold Ent.right rightE at h
  exact of_decide_eq_true (Bool.and_eq_true_iff.1 h).1
theorem XF_four (L : List Ent) (vul all : Int) (i t : Nat) (h : i < L.length) (ht : t < 2) (hO : ∀ e ∈ L, e.Ok) (hR : ∀ e ∈ L, e.right = true) (ha : all ≠ 1) : XF L vul all 4 i t = XB L vul all i t := by
  have hm := List.getElem_mem h
  have h3 := right_f (hR _ hm)
  rw [XF_val L vul all i t h ht (hO _ hm).2.2.2.1.1 4, XB_get L vul all i t h, X1_get L all i t h]
  by_cases h0 : (L[i]).k = 0
  · rw [if_pos h0, if_pos h0, if_neg (fun e => by have := of_decide_eq_true e.1; exact this.1 h0)]
  · rw [if_neg h0, if_neg h0, if_neg ha, if_neg ha]
    by_cases h4 : (L[i]).k = 4
    · rw [if_pos h4, if_pos h4, if_neg (fun e => by have := of_decide_eq_true e.1; exact this.2 h4)]
    · rw [if_neg h4, if_neg h4, if_pos ⟨decide_eq_true ⟨h0, h4⟩, by omega⟩]
theorem notVoid_one (L : List Ent) (i : Nat) (h : i < L.length) (hk : (L[i]).k ≠ 0) : 1 ≤ notVoid L := by
  unfold notVoid
  exact List.length_pos_of_mem (List.mem_filter.2 ⟨List.getElem_mem h, decide_eq_true hk⟩)
theorem X1_low (L : List Ent) (vul : Int) (i t : Nat) (h : i < L.length) (ha : notVoid L < 2) : X1to L (notVoid L : Int) L.length i t = XB L vul (notVoid L : Int) i t := by
  unfold X1to
  rw [if_pos h, X1_get L _ i t h, XB_get L vul _ i t h]
  by_cases h0 : (L[i]).k = 0
  · rw [if_pos h0, if_pos h0]
  · have := notVoid_one L i h h0
    have e : (notVoid L : Int) = 1 := by omega
    rw [if_neg h0, if_neg h0, if_pos e, if_pos e]
theorem inField_le (L : List Ent) (f : Int) : inField L f ≤ notVoid L := by
  unfold inField notVoid
  induction L with
  | nil => exact Nat.le_refl _
  | cons a L ih =>
    simp only [List.filter_cons]
    by_cases h : (cmpB a && decide (a.f = f)) = true
    · have h0 : decide (a.k ≠ 0) = true := decide_eq_true (of_decide_eq_true (Bool.and_eq_true_iff.1 h).1).1
      rw [if_pos h, if_pos h0]
      exact Nat.succ_le_succ ih
    · rw [if_neg h]
      by_cases h0 : decide (a.k ≠ 0) = true
      · rw [if_pos h0]; exact Nat.le_succ_of_le ih
      · rw [if_neg h0]; exact ih
theorem X1to_zero (L : List Ent) (all : Int) (i t : Nat) : X1to L all 0 i t = (0, 0) := by unfold X1to; rw [if_neg (by omega)]
theorem X1to_same (L : List Ent) (all : Int) (k i t : Nat) (hk : k < L.length) (h : X1 L all k t = (0, 0)) : X1to L all (k + 1) i t = X1to L all k i t := by
  unfold X1to
  by_cases e : i < k
  · rw [if_pos e, if_pos (by omega)]
  · by_cases e2 : i = k
    · subst e2; rw [if_pos (by omega), if_neg e, h]
    · rw [if_neg e, if_neg (by omega)]
theorem X1to_upd (L : List Ent) (all : Int) (k i t : Nat) (ht : t < 2) (p q : Pt) (h0 : X1 L all k 0 = p) (h1 : X1 L all k 1 = q) : updX (updX (X1to L all k) k 0 p) k 1 q i t = X1to L all (k + 1) i t := by
  unfold updX X1to
  by_cases e : i = k
  · subst e
    rcases (show t = 0 ∨ t = 1 by omega) with rfl | rfl
    · rw [if_neg (by simp), if_pos ⟨rfl, rfl⟩, if_pos (by omega), h0]
    · rw [if_pos ⟨rfl, rfl⟩, if_pos (by omega), h1]
  · rw [if_neg (fun h => e h.1), if_neg (fun h => e h.1)]
    by_cases e2 : i < k
    · rw [if_pos e2, if_pos (by omega)]
    · rw [if_neg e2, if_neg (by omega)]

theorem GC.get4 {C : Array Value} {n : Nat} {X : Nat → Nat → Pt} (h : GC C n X) (i : Nat) (hi : i < n) : C[i * 4]? = some (.int .i64 (X i 0).1) ∧ C[i * 4 + 1]? = some (.int .i64 (X i 0).2) ∧ C[i * 4 + 2]? = some (.int .i64 (X i 1).1) ∧ C[i * 4 + 3]? = some (.int .i64 (X i 1).2) := by
  obtain ⟨a, b⟩ := h.2 i 0 hi (by decide)
  obtain ⟨c, d⟩ := h.2 i 1 hi (by decide)
  exact ⟨a, b, c, d⟩
theorem GC.set4 {C : Array Value} {n : Nat} {X : Nat → Nat → Pt} (h : GC C n X) (i : Nat) (hi : i < n) (p q : Pt) :
    GC ((((C.setIfInBounds (i * 4) (.int .i64 p.1)).setIfInBounds (i * 4 + 1) (.int .i64 p.2)).setIfInBounds (i * 4 + 2) (.int .i64 q.1)).setIfInBounds (i * 4 + 3) (.int .i64 q.2)) n (updX (updX X i 0 p) i 1 q) :=
  (h.set i 0 hi (by decide) p).set i 1 hi (by decide) q

/-! ### The lines -/
abbrev Ln : Type := Pt × Pt × Bool
def lnC (l : List Ln) : List Value := l.flatMap fun x => [.int .i64 x.1.1, .int .i64 x.1.2, .int .i64 x.2.1.1, .int .i64 x.2.1.2, .bool x.2.2]
theorem lnC_len (l : List Ln) : (lnC l).length = l.length * 5 := by
  induction l with
  | nil => rfl
  | cons a l ih =>
    have e : lnC (a :: l) = [.int .i64 a.1.1, .int .i64 a.1.2, .int .i64 a.2.1.1, .int .i64 a.2.1.2, .bool a.2.2] ++ lnC l := rfl
    rw [e, List.length_append, ih]; simp; omega
theorem lnC_app (l m : List Ln) : lnC (l ++ m) = lnC l ++ lnC m := List.flatMap_append
theorem lnC_get (l : List Ln) : ∀ (k : Nat) (h : k < l.length), (lnC l)[k * 5]? = some (.int .i64 l[k].1.1) ∧ (lnC l)[k * 5 + 1]? = some (.int .i64 l[k].1.2) ∧ (lnC l)[k * 5 + 2]? = some (.int .i64 l[k].2.1.1) ∧ (lnC l)[k * 5 + 3]? = some (.int .i64 l[k].2.1.2) ∧ (lnC l)[k * 5 + 4]? = some (.bool l[k].2.2) := by
  induction l with
  | nil => intro k h; simp at h
  | cons a l ih =>
    intro k h
    have e : lnC (a :: l) = .int .i64 a.1.1 :: .int .i64 a.1.2 :: .int .i64 a.2.1.1 :: .int .i64 a.2.1.2 :: .bool a.2.2 :: lnC l := rfl
    rw [e]
    cases k with
    | zero => exact ⟨rfl, rfl, rfl, rfl, rfl⟩
    | succ k =>
      have := ih k (by simpa using h)
      rw [show (k + 1) * 5 = k * 5 + 1 + 1 + 1 + 1 + 1 by omega]
      exact this
/-- The line of an entry. -/
def lineE (L : List Ent) (vul : Int) (i : Nat) : Ln := (XB L vul (notVoid L : Int) i 0, XB L vul (notVoid L : Int) i 1, match L[i]? with | some e => decide (e.k ≠ 0) && decide ((notVoid L : Int) > 1) | none => false)
def boardTo (L : List Ent) (vul : Int) (k : Nat) : List Ln := (List.range k).map (lineE L vul)
theorem boardTo_succ (L : List Ent) (vul : Int) (k : Nat) : boardTo L vul (k + 1) = boardTo L vul k ++ [lineE L vul k] := by unfold boardTo; rw [List.range_succ, List.map_append]; rfl
theorem boardTo_len (L : List Ent) (vul : Int) (k : Nat) : (boardTo L vul k).length = k := by unfold boardTo; rw [List.length_map, List.length_range]
theorem boardTo_get (L : List Ent) (vul : Int) (k i : Nat) (h : i < k) : (boardTo L vul k)[i]'(by rw [boardTo_len]; exact h) = lineE L vul i := by unfold boardTo; rw [List.getElem_map, List.getElem_range]

end Go.Proofs.YtchklobblkddhaaGreatDoor
