/- The plain laws of FoulApart: an entry of a field of one; entries with the same content. -/
import Derived.Test.YtchklobblkddhaaGreatDoorFouBrdW
namespace Go.Proofs.YtchklobblkddhaaGreatDoor
open Go.RowKit

theorem alone_val (L : List Ent) (hO : ∀ e ∈ L, e.Ok) (hR : ∀ e ∈ L, e.right = true) (vul : Int) (hv : 0 ≤ vul ∧ vul ≤ 3) (f : Int) (i : Nat) (hi : i < L.length) (hf : (L[i]).f = f) (hs : cmpB L[i] = true) (h1 : inField L f = 1) (all : Int) (t : Nat) :
    valN L f vul all t i = (all - 1, 1) := by
  have hlen : (fldR L f vul t).length = 1 := by rw [fldR_len, itAll_cnt, h1]
  have hsel : selE f L[i] = true := Bool.and_eq_true_iff.2 ⟨hs, decide_eq_true hf⟩
  have hm : i ∈ idxAll L f := (idxTo_mem L f L.length (Nat.le_refl _) i).2 ⟨hi, by rw [selN_get L _ i hi]; exact hsel⟩
  have hin : resE vul t L[i] ∈ fldR L f vul t := by
    obtain ⟨x, hx, he⟩ := List.mem_map.1 hm
    unfold fldR
    subst he
    exact List.mem_map.2 ⟨x, hx, rfl⟩
  obtain ⟨r, hr⟩ : ∃ r, fldR L f vul t = [r] := List.length_eq_one_iff.1 hlen
  have hrr : rightM r = true := fldR_right L f vul hO hR hv t r (by rw [hr]; exact List.mem_singleton.2 rfl)
  rw [hr] at hin
  have hin := List.mem_singleton.1 hin
  have hg : gAll r [r] = 10000 := by rw [gAll_cons, gAB_self r hrr]; rfl
  unfold valN
  rw [List.getElem?_eq_getElem hi]
  show fr (gAll (resE vul t L[i]) (fldR L f vul t) * all - 10000 * ((fldR L f vul t).length : Int)) (10000 * ((fldR L f vul t).length : Int)) = _
  rw [hr, hin, hg]
  have := whole_frD (all - 1) (10000 * 1) (by decide)
  rw [← this]
  have e1 : (([r].length : Nat) : Int) = 1 := rfl
  rw [e1]
  congr 1
  omega
theorem alone_XB (L : List Ent) (hO : ∀ e ∈ L, e.Ok) (hR : ∀ e ∈ L, e.right = true) (vul : Int) (hv : 0 ≤ vul ∧ vul ≤ 3) (i : Nat) (hi : i < L.length) (hs : cmpB L[i] = true) (h1 : inField L (L[i]).f = 1) (all : Int) (t : Nat) :
    XB L vul all i t = (all - 1, 1) := by
  have hk := of_decide_eq_true hs
  rw [XB_get L vul all i t hi, if_neg hk.1]
  by_cases ha : all = 1
  · rw [if_pos ha, ha]; rfl
  · rw [if_neg ha, if_neg hk.2]
    exact alone_val L hO hR vul hv _ i hi rfl hs h1 all t

theorem oc_ext {x y : Oc} (h1 : x.l = y.l) (h2 : x.d = y.d) (h3 : x.r = y.r) (h4 : x.s = y.s) (h5 : x.t = y.t) (h6 : x.w = y.w) : x = y := by
  cases x; cases y
  dsimp only at h1 h2 h3 h4 h5 h6
  subst h1 h2 h3 h4 h5 h6; rfl
theorem cell_u8 {C : Array Value} {j : Nat} {x y : Int} (h : C[j]? = some (.int .u8 x)) (h2 : C[j]? = some (.int .u8 y)) : x = y := by
  have := h.symm.trans h2
  injection this with this
  injection this
theorem cell_i64 {C : Array Value} {j : Nat} {x y : Int} (h : C[j]? = some (.int .i64 x)) (h2 : C[j]? = some (.int .i64 y)) : x = y := by
  have := h.symm.trans h2
  injection this with this
  injection this
theorem ent_same {e e' : Ent} (h : e.Ok) (h' : e'.Ok) (hC : e.C = e'.C) : e.k = e'.k ∧ e.f = e'.f ∧ e.a0 = e'.a0 ∧ e.a1 = e'.a1 ∧ ∀ i, i < 4 → e.o i = e'.o i := by
  obtain ⟨⟨_, c4, c5, c31, c32, co⟩, _⟩ := h
  obtain ⟨⟨_, d4, d5, d31, d32, dO⟩, _⟩ := h'
  rw [hC] at c4 c5 c31 c32 co
  refine ⟨cell_u8 c4 d4, cell_u8 c5 d5, cell_i64 c31 d31, cell_i64 c32 d32, fun i hi => ?_⟩
  obtain ⟨p0, p1, p2, p3, p4, p5⟩ := co i hi
  obtain ⟨q0, q1, q2, q3, q4, q5⟩ := dO i hi
  exact oc_ext (cell_u8 p0 q0) (cell_u8 p1 q1) (cell_u8 p2 q2) (cell_u8 p3 q3) (cell_i64 p4 q4) (cell_i64 p5 q5)
theorem partsTo_le (o : Nat → Oc) : ∀ n, partsTo o n ≤ n := by
  intro n
  induction n with
  | zero => exact Nat.le_refl _
  | succ n ih =>
    unfold partsTo
    split
    · exact Nat.le_refl _
    · omega
theorem partsTo_congr (o o' : Nat → Oc) (m : Nat) (h : ∀ i, i < m → o i = o' i) : ∀ n, n ≤ m → partsTo o n = partsTo o' n := by
  intro n
  induction n with
  | zero => intro _; rfl
  | succ n ih =>
    intro hn
    unfold partsTo
    rw [ih (by omega), h n (by omega)]
theorem firstO_congr (o o' : Nat → Oc) (n : Nat) (h : ∀ i, i < n → o i = o' i) : firstO o n = firstO o' n := by
  unfold firstO
  exact List.map_congr_left fun i hi => h i (List.mem_range.1 hi)
theorem side_congr (k : Int) (o o' : Nat → Oc) (h : ∀ i, i < 4 → o i = o' i) : sideA k o = sideA k o' ∧ sideB k o = sideB k o' := by
  have hp : partsN o = partsN o' := partsTo_congr o o' 4 h 4 (Nat.le_refl _)
  have hl : partsN o' ≤ 4 := partsTo_le o' 4
  have hf : firstO o (partsN o) = firstO o' (partsN o') := by rw [hp]; exact firstO_congr o o' _ fun i hi => h i (by omega)
  unfold sideA sideB
  rw [hf, h 0 (by decide), h 1 (by decide)]
  exact ⟨rfl, rfl⟩
theorem res_same {e e' : Ent} (h : e.Ok) (h' : e'.Ok) (hC : e.C = e'.C) (vul : Int) (s : Nat) : resE vul s e = resE vul s e' := by
  obtain ⟨hk, _, _, _, ho⟩ := ent_same h h' hC
  obtain ⟨e1, e2⟩ := side_congr e.k e.o e'.o ho
  unfold resE
  rw [e1, e2, hk]
/-- Entries with the same content get the same. -/
theorem line_same (L : List Ent) (hO : ∀ e ∈ L, e.Ok) (vul : Int) (i k : Nat) (hi : i < L.length) (hk : k < L.length) (hC : (L[i]).C = (L[k]).C) : lineE L vul i = lineE L vul k := by
  have o1 := hO _ (List.getElem_mem hi)
  have o2 := hO _ (List.getElem_mem hk)
  obtain ⟨ek, ef, e0, e1, _⟩ := ent_same o1 o2 hC
  have hx : ∀ (all : Int) (t : Nat), XB L vul all i t = XB L vul all k t := fun all t => by
    rw [XB_get L vul all i t hi, XB_get L vul all k t hk, ek, ef, e0, e1]
    have hval : valN L (L[k]).f vul all t i = valN L (L[k]).f vul all t k := by
      unfold valN
      rw [List.getElem?_eq_getElem hi, List.getElem?_eq_getElem hk]
      show fr (gAll (resE vul t L[i]) _ * all - _) _ = fr (gAll (resE vul t L[k]) _ * all - _) _
      rw [res_same o1 o2 hC vul t]
    rw [hval]
  unfold lineE
  rw [hx, hx, List.getElem?_eq_getElem hi, List.getElem?_eq_getElem hk]
  show (_, _, decide ((L[i]).k ≠ 0) && _) = (_, _, decide ((L[k]).k ≠ 0) && _)
  rw [ek]

/-! ### The results of a field, by a filter -/
theorem itTo_map (L : List Ent) (f : Int) (F : Ent → List Pt) : ∀ (k : Nat) (h : k ≤ L.length), (itTo L f k h).map (fun x => F L[x.1.1]) = ((L.take k).filter (selE f)).map F := by
  intro k
  induction k with
  | zero => intro h; rfl
  | succ k ih =>
    intro h
    show (itTo L f k _ ++ _).map _ = _
    rw [List.map_append, ih (by omega), List.take_succ_eq_append_getElem (by omega), List.filter_append, List.map_append]
    congr 1
    by_cases hs : selE f (L[k]'(by omega)) = true
    · rw [dif_pos hs, List.filter_cons_of_pos hs]; rfl
    · rw [dif_neg hs, List.filter_cons_of_neg hs]; rfl
theorem fldR_filter (L : List Ent) (f vul : Int) (s : Nat) : fldR L f vul s = (L.filter (selE f)).map (resE vul s) := by
  unfold fldR itAll
  rw [itTo_map L f (resE vul s) L.length (Nat.le_refl _), List.take_length]
theorem fldR_inField (L : List Ent) (f vul : Int) (s : Nat) : (fldR L f vul s).length = inField L f := by rw [fldR_len, itAll_cnt]

/-! ### Lines in a world -/
theorem eqLn (a b c d : Int) (e : Bool) (w : World) : (Op.equalIn 10000 41 (.agg #[.int .i64 a, .int .i64 b, .int .i64 c, .int .i64 d, .bool e]) (.agg #[.int .i64 a, .int .i64 b, .int .i64 c, .int .i64 d, .bool e])).run Tryz.prog w = .ok true w := by
  rw [run_equalIn_agg w 9999 41 _ _ (by kernel_rfl) (by kernel_rfl)]
  go_simp
theorem rd_ln {w : World} {B : Nat} {A : Option Addr} {l : List Ln} (h : Rd w B 5 A l.length (lnC l)) (k : Nat) (hk : k < l.length) :
    ∃ b off, A = some ⟨b, off, none⟩ ∧ b < B ∧ w.cell? ⟨b, off + k * 5, none⟩ = some (.int .i64 l[k].1.1) ∧ w.cell? ⟨b, off + k * 5 + 1, none⟩ = some (.int .i64 l[k].1.2) ∧ w.cell? ⟨b, off + k * 5 + 2, none⟩ = some (.int .i64 l[k].2.1.1) ∧ w.cell? ⟨b, off + k * 5 + 3, none⟩ = some (.int .i64 l[k].2.1.2) ∧ w.cell? ⟨b, off + k * 5 + 4, none⟩ = some (.bool l[k].2.2) := by
  obtain ⟨b, off, e, hb, hc⟩ := h.pos (by omega)
  obtain ⟨g0, g1, g2, g3, g4⟩ := lnC_get l k hk
  have hl := lnC_len l
  exact ⟨b, off, e, hb, (hc _ (by omega)).trans g0, (hc (k * 5 + 1) (by omega)).trans g1, (hc (k * 5 + 2) (by omega)).trans g2, (hc (k * 5 + 3) (by omega)).trans g3, (hc (k * 5 + 4) (by omega)).trans g4⟩
/-- The line of an entry, in a world. -/
def LnAt (w : World) (b o : Nat) (x : Ln) : Prop := w.cell? ⟨b, o, none⟩ = some (.int .i64 x.1.1) ∧ w.cell? ⟨b, o + 1, none⟩ = some (.int .i64 x.1.2) ∧ w.cell? ⟨b, o + 2, none⟩ = some (.int .i64 x.2.1.1) ∧ w.cell? ⟨b, o + 3, none⟩ = some (.int .i64 x.2.1.2) ∧ w.cell? ⟨b, o + 4, none⟩ = some (.bool x.2.2)
theorem LnAt.below {w w' : World} {B b o : Nat} {x : Ln} (h : LnAt w b o x) (hb : Below B w w') (hl : b < B) : LnAt w' b o x :=
  ⟨(bcell hb b _ hl).trans h.1, (bcell hb b _ hl).trans h.2.1, (bcell hb b _ hl).trans h.2.2.1, (bcell hb b _ hl).trans h.2.2.2.1, (bcell hb b _ hl).trans h.2.2.2.2⟩

end Go.Proofs.YtchklobblkddhaaGreatDoor
