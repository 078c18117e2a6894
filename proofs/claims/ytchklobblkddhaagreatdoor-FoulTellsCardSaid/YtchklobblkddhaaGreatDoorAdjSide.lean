/- Both sides' results of an entry, in plain Lean. -/
import Derived.Test.YtchklobblkddhaaGreatDoorScoMath
import Derived.Test.YtchklobblkddhaaGreatDoorFracMul
namespace Go.Proofs.YtchklobblkddhaaGreatDoor
open Go.RowKit

/-- The cells of outcomes. -/
def ocC (L : List Oc) : List Value := L.flatMap fun x => [.int .u8 x.l, .int .u8 x.d, .int .u8 x.r, .int .u8 x.s, .int .i64 x.t, .int .i64 x.w]
theorem ocC_cons (x : Oc) (L : List Oc) : ocC (x :: L) = [.int .u8 x.l, .int .u8 x.d, .int .u8 x.r, .int .u8 x.s, .int .i64 x.t, .int .i64 x.w] ++ ocC L := rfl
theorem ocC_len (L : List Oc) : (ocC L).length = L.length * 6 := by
  induction L with
  | nil => rfl
  | cons x L ih => rw [ocC_cons, List.length_append, ih]; simp; omega
theorem ocC_get (L : List Oc) : ∀ (k : Nat) (h : k < L.length), (ocC L)[k * 6]? = some (.int .u8 L[k].l) ∧ (ocC L)[k * 6 + 1]? = some (.int .u8 L[k].d) ∧ (ocC L)[k * 6 + 2]? = some (.int .u8 L[k].r) ∧ (ocC L)[k * 6 + 3]? = some (.int .u8 L[k].s) ∧ (ocC L)[k * 6 + 4]? = some (.int .i64 L[k].t) ∧ (ocC L)[k * 6 + 5]? = some (.int .i64 L[k].w) := by
  induction L with
  | nil => intro k h; simp at h
  | cons x L ih =>
    intro k h
    rw [ocC_cons]
    cases k with
    | zero => exact ⟨rfl, rfl, rfl, rfl, rfl, rfl⟩
    | succ k =>
      have := ih k (by simpa using h)
      refine ⟨?_, ?_, ?_, ?_, ?_, ?_⟩
      all_goals rw [List.getElem?_append_right (by simp; omega)]
      · rw [show (k + 1) * 6 - ([Value.int .u8 x.l, .int .u8 x.d, .int .u8 x.r, .int .u8 x.s, .int .i64 x.t, .int .i64 x.w] : List Value).length = k * 6 by simp; omega]; exact this.1
      · rw [show (k + 1) * 6 + 1 - ([Value.int .u8 x.l, .int .u8 x.d, .int .u8 x.r, .int .u8 x.s, .int .i64 x.t, .int .i64 x.w] : List Value).length = k * 6 + 1 by simp; omega]; exact this.2.1
      · rw [show (k + 1) * 6 + 2 - ([Value.int .u8 x.l, .int .u8 x.d, .int .u8 x.r, .int .u8 x.s, .int .i64 x.t, .int .i64 x.w] : List Value).length = k * 6 + 2 by simp; omega]; exact this.2.2.1
      · rw [show (k + 1) * 6 + 3 - ([Value.int .u8 x.l, .int .u8 x.d, .int .u8 x.r, .int .u8 x.s, .int .i64 x.t, .int .i64 x.w] : List Value).length = k * 6 + 3 by simp; omega]; exact this.2.2.2.1
      · rw [show (k + 1) * 6 + 4 - ([Value.int .u8 x.l, .int .u8 x.d, .int .u8 x.r, .int .u8 x.s, .int .i64 x.t, .int .i64 x.w] : List Value).length = k * 6 + 4 by simp; omega]; exact this.2.2.2.2.1
      · rw [show (k + 1) * 6 + 5 - ([Value.int .u8 x.l, .int .u8 x.d, .int .u8 x.r, .int .u8 x.s, .int .i64 x.t, .int .i64 x.w] : List Value).length = k * 6 + 5 by simp; omega]; exact this.2.2.2.2.2
theorem rd_o {w : World} {B : Nat} {A : Option Addr} {L : List Oc} (h : Rd w B 6 A L.length (ocC L)) (k : Nat) (hk : k < L.length) :
    ∃ b off, A = some ⟨b, off, none⟩ ∧ b < B ∧ w.cell? ⟨b, off + k * 6, none⟩ = some (.int .u8 L[k].l) ∧ w.cell? ⟨b, off + k * 6 + 1, none⟩ = some (.int .u8 L[k].d) ∧ w.cell? ⟨b, off + k * 6 + 2, none⟩ = some (.int .u8 L[k].r) ∧ w.cell? ⟨b, off + k * 6 + 3, none⟩ = some (.int .u8 L[k].s) ∧ w.cell? ⟨b, off + k * 6 + 4, none⟩ = some (.int .i64 L[k].t) ∧ w.cell? ⟨b, off + k * 6 + 5, none⟩ = some (.int .i64 L[k].w) := by
  obtain ⟨b, off, e, hb, hc⟩ := h.pos (by omega)
  obtain ⟨h0, h1, h2, h3, h4, h5⟩ := ocC_get L k hk
  have hl := ocC_len L
  exact ⟨b, off, e, hb, (hc _ (by omega)).trans h0, by rw [Nat.add_assoc]; exact (hc _ (by omega)).trans h1, by rw [Nat.add_assoc]; exact (hc _ (by omega)).trans h2, by rw [Nat.add_assoc]; exact (hc _ (by omega)).trans h3, by rw [Nat.add_assoc]; exact (hc _ (by omega)).trans h4, by rw [Nat.add_assoc]; exact (hc _ (by omega)).trans h5⟩

/-- The points and the weight of an outcome. -/
def wPt (vul : Int) (x : Oc) : Pt := (scoreI x.l x.d x.r x.s x.t vul, x.w)
def wPts (L : List Oc) (vul : Int) : List Pt := L.map (wPt vul)
theorem wPts_len (L : List Oc) (vul : Int) : (wPts L vul).length = L.length := by unfold wPts; rw [List.length_map]
theorem wPts_snoc (L : List Oc) (vul : Int) (k : Nat) (h : k < L.length) : wPts (L.take (k + 1)) vul = wPts (L.take k) vul ++ [wPt vul L[k]] := by
  unfold wPts; rw [List.take_succ_eq_append_getElem h, List.map_append]; rfl
/-- Outcomes make a result. -/
def wOk (L : List Oc) (vul : Int) : Bool := decide (L.length ≤ 4) && decide (vul ≤ 3) && L.all outB && rightM (wPts L vul)
theorem wOk_iff (L : List Oc) (vul : Int) : wOk L vul = true ↔ L.length ≤ 4 ∧ vul ≤ 3 ∧ (∀ x ∈ L, outB x = true) ∧ rightM (wPts L vul) = true := by
  unfold wOk; simp only [Bool.and_eq_true, decide_eq_true_eq, List.all_eq_true, and_assoc]

/-- An outcome that counts whole. -/
def fullO (x : Oc) : Oc := { x with w := 100 }
def firstO (o : Nat → Oc) (n : Nat) : List Oc := (List.range n).map o
/-- The outcomes of North and South, and of East and West. -/
def sideA (k : Int) (o : Nat → Oc) : List Oc := if k = 2 then firstO o (partsN o) else [fullO (o 0)]
def sideB (k : Int) (o : Nat → Oc) : List Oc := if k = 2 then firstO o (partsN o) else if k = 3 then [fullO (o 1)] else [fullO (o 0)]
theorem firstO_len (o : Nat → Oc) (n : Nat) : (firstO o n).length = n := by simp [firstO]
theorem firstO_get (o : Nat → Oc) (n i : Nat) (h : i < n) : (firstO o n)[i]'(by rw [firstO_len]; exact h) = o i := by simp [firstO]

theorem out_pts {x : Oc} (h : outB x = true) (h0 : 0 ≤ x.l ∧ 0 ≤ x.r) (vul : Int) : -7800 ≤ (wPt vul x).1 ∧ (wPt vul x).1 ≤ 7800 := scoreI_small _ _ _ _ _ vul h h0
theorem full_ok {x : Oc} (h : outB x = true) (h0 : 0 ≤ x.l ∧ 0 ≤ x.r) (vul : Int) (hv : vul ≤ 3) : wOk [fullO x] vul = true := by
  rw [wOk_iff]
  have ho : outB (fullO x) = true := h
  refine ⟨by simp, hv, fun y hy => by rw [List.mem_singleton.1 hy]; exact ho, ?_⟩
  rw [rightM_iff]
  refine ⟨by simp [wPts], by simp [wPts], fun p hp => ?_, by simp [wPts, wPt, sumW, sumF, fullO]⟩
  obtain rfl : p = wPt vul (fullO x) := by simpa [wPts] using hp
  rw [okPt_iff]
  have := out_pts ho h0 vul
  exact ⟨⟨by show (1 : Int) ≤ 100; omega, by show (100 : Int) ≤ 100; omega⟩, by omega, by omega⟩
theorem wSum_first (o : Nat → Oc) (vul : Int) (n : Nat) : sumW (wPts (firstO o n) vul) = wSum o n := by
  induction n with
  | zero => rfl
  | succ n ih =>
    have : firstO o (n + 1) = firstO o n ++ [o n] := by simp [firstO, List.range_succ]
    rw [this]
    have e : sumW (wPts (firstO o n ++ [o n]) vul) = sumW (wPts (firstO o n) vul) + (o n).w := by
      simp [sumW, sumF, wPts, wPt]
    rw [e, ih]; rfl
theorem weighted_ok (o : Nat → Oc) (a0 a1 : Int) (h : weightedB o a0 a1 = true) (ho : ∀ i, i < 4 → OcOk (o i)) (vul : Int) (hv : vul ≤ 3) : wOk (firstO o (partsN o)) vul = true ∧ 2 ≤ partsN o ∧ partsN o ≤ 4 := by
  unfold weightedB at h
  obtain ⟨h1, h⟩ := Bool.and_eq_true_iff.1 h
  obtain ⟨h, h5⟩ := Bool.and_eq_true_iff.1 h
  obtain ⟨h, h4⟩ := Bool.and_eq_true_iff.1 h
  obtain ⟨h2, h3⟩ := Bool.and_eq_true_iff.1 h
  have h2 := of_decide_eq_true h2
  have h3 := of_decide_eq_true h3
  have hn : partsN o ≤ 4 := by
    have key : ∀ n, partsTo o n ≤ n := fun n => by
      induction n with
      | zero => exact Nat.le_refl _
      | succ n ih => show (if partsTo o n = n ∧ (o n).w ≠ 0 then n + 1 else partsTo o n) ≤ n + 1; split <;> omega
    exact key 4
  have hall : ∀ i, i < partsN o → okW (o i) = true := fun i hi => by
    unfold allW at h1
    exact List.all_eq_true.1 h1 i (List.mem_range.2 hi)
  refine ⟨?_, h2, hn⟩
  rw [wOk_iff, rightM_iff, firstO_len, wPts_len, firstO_len, wSum_first]
  have hmem : ∀ x ∈ firstO o (partsN o), ∃ i, i < partsN o ∧ x = o i := fun x hx => by
    obtain ⟨i, hi, rfl⟩ := List.mem_map.1 hx
    exact ⟨i, List.mem_range.1 hi, rfl⟩
  refine ⟨hn, hv, fun x hx => ?_, by omega, by omega, fun p hp => ?_, h3⟩
  · obtain ⟨i, hi, rfl⟩ := hmem x hx
    have := hall i hi
    unfold okW at this
    exact (Bool.and_eq_true_iff.1 (Bool.and_eq_true_iff.1 this).1).1
  · obtain ⟨x, hx, rfl⟩ := List.mem_map.1 hp
    obtain ⟨i, hi, rfl⟩ := hmem x hx
    have := hall i hi
    unfold okW at this
    obtain ⟨h6, h7⟩ := Bool.and_eq_true_iff.1 this
    obtain ⟨h8, h9⟩ := Bool.and_eq_true_iff.1 h6
    have h7 := of_decide_eq_true h7
    have h9 := of_decide_eq_true h9
    have hok := ho i (by omega)
    have := out_pts h8 ⟨hok.1.1, hok.2.2.1.1⟩ vul
    rw [okPt_iff]
    exact ⟨⟨h9, h7⟩, by omega, by omega⟩
theorem whole_out {x : Oc} (h : wholeB x = true) : outB x = true := (Bool.and_eq_true_iff.1 h).1
/-- A right entry that is compared has right results. -/
theorem sides_okB (k f : Int) (o : Nat → Oc) (a0 a1 : Int) (h : rightE k f o a0 a1 = true) (ho : ∀ i, i < 4 → OcOk (o i)) (hk : k = 1 ∨ k = 2 ∨ k = 3) (vul : Int) (hv : vul ≤ 3) :
    wOk (sideA k o) vul = true ∧ wOk (sideB k o) vul = true := by
  unfold rightE at h
  have h := (Bool.and_eq_true_iff.1 h).2
  have p0 := ho 0 (by decide)
  have p1 := ho 1 (by decide)
  rcases hk with rfl | rfl | rfl
  · have h : playedB o a0 a1 = true := h
    unfold playedB at h
    have h1 := whole_out (Bool.and_eq_true_iff.1 (Bool.and_eq_true_iff.1 h).1).1
    exact ⟨full_ok h1 ⟨p0.1.1, p0.2.2.1.1⟩ vul hv, full_ok h1 ⟨p0.1.1, p0.2.2.1.1⟩ vul hv⟩
  · have h := weighted_ok o a0 a1 h ho vul hv
    exact ⟨h.1, h.1⟩
  · have h : splitB o a0 a1 = true := h
    unfold splitB at h
    have h := (Bool.and_eq_true_iff.1 (Bool.and_eq_true_iff.1 h).1).1
    have h1 := whole_out (Bool.and_eq_true_iff.1 h).1
    have h2 := whole_out (Bool.and_eq_true_iff.1 h).2
    exact ⟨full_ok h1 ⟨p0.1.1, p0.2.2.1.1⟩ vul hv, full_ok h2 ⟨p1.1.1, p1.2.2.1.1⟩ vul hv⟩

end Go.Proofs.YtchklobblkddhaaGreatDoor
