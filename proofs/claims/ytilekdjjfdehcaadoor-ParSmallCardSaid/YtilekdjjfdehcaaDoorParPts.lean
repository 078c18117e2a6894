/- Points of bids as laws of the tricks; Par's points in one summary. -/
import Derived.Test.YtilekdjjfdehcaaDoorParMadeW
import Derived.Laws.BytesArg
namespace Go.Proofs.YtilekdjjfdehcaaDoor
open Go.RowKit

/-- What a bid of a side brings that makes n tricks in it. -/
def ptB (v : Int) (b s : Nat) (n : Int) : Int := ptsI (lvl b) (dnm b) (if n < 6 + lvl b then 1 else 0) n (vulB v s)
theorem vulB_par (v : Int) (a b : Nat) (ha : a ≤ 3) (hb : b ≤ 3) (h : a % 2 = b % 2) : vulB v a = vulB v b := by
  have e : ((a : Int) % 2 = 0) ↔ ((b : Int) % 2 = 0) := by omega
  have h1 : (a : Int) ≤ 3 := by omega
  have h2 : (b : Int) ≤ 3 := by omega
  unfold vulB
  simp only [e, h1, h2]
theorem finF_B (t : Nat → Nat → Int) (v : Int) (b s : Nat) (hs : s ≤ 1) : finF t v b s = wo s (ptB v b s (bstN t (dnm b) s)) := by
  have h := bstS_bd t (dnm b) s hs
  rw [finF_wo t v b s hs]
  unfold ptF ptB rsk
  rw [vulB_par v _ s (by omega) (by omega) (by omega)]
theorem finG_B (t : Nat → Nat → Int) (v : Int) (b s : Nat) (h3 : 3 ≤ b) (h37 : b ≤ 37) (hs : s ≤ 1) : finG t v b s = wo s (ptB v b s (bstN t (dnm b) s)) := by
  rw [← finF_B t v b s hs]; exact if_pos ⟨h3, h37, hs⟩
theorem sumT_mono (r : Int) (v : Bool) (m n : Nat) (h : m ≤ n) : sumT r v m ≤ sumT r v n := by
  induction n with
  | zero => obtain rfl : m = 0 := by omega
            exact Int.le_refl _
  | succ n ih =>
    by_cases e : m = n + 1
    · subst e; exact Int.le_refl _
    · have := ih (by omega)
      have := trickI_bd r n v
      show sumT r v m ≤ sumT r v n + trickI r n v
      omega
theorem missI_mono (r : Int) (v : Bool) (m n : Nat) (h : m ≤ n) : missI r m v ≤ missI r n v := by
  have := sumT_mono r v m n h
  unfold missI; split <;> omega
theorem ptB_mono (v : Int) (b s : Nat) (h3 : 3 ≤ b) (h37 : b ≤ 37) (m n : Int) (h0 : 0 ≤ m) (hmn : m ≤ n) (h13 : n ≤ 13) : ptB v b s m ≤ ptB v b s n := by
  have hl := lvl_bd b h3 h37
  have hz : ¬ lvl b = 0 := by omega
  unfold ptB
  by_cases h1 : n < 6 + lvl b
  · rw [if_pos h1, if_pos (show m < 6 + lvl b by omega)]
    unfold ptsI
    rw [if_neg hz, if_neg hz, if_pos h1, if_pos (show m < 6 + lvl b by omega)]
    have := missI_mono 1 (vulB v s) (6 + lvl b - n).toNat (6 + lvl b - m).toNat (by omega)
    omega
  · rw [if_neg h1]
    by_cases h2 : m < 6 + lvl b
    · rw [if_pos h2]
      have a := (ptsI_bd (lvl b) (dnm b) 1 m (vulB v s) hl (by omega) (by omega)).2 h2
      have c := (ptsI_bd (lvl b) (dnm b) 0 n (vulB v s) hl (by omega) (by omega)).1 (by omega)
      omega
    · rw [if_neg h2]
      unfold ptsI
      rw [if_neg hz, if_neg hz, if_neg h1, if_neg h2]
      unfold madeI
      have he := (eachI_bd (dnm b) 0 (vulB v s) (by omega)).1
      have := Int.mul_le_mul_of_nonneg_right (show m - (6 + lvl b) ≤ n - (6 + lvl b) by omega) he
      omega
theorem parV_bd (f : Nat → Nat → Int) (hf : ∀ b s, -10000 ≤ f b s ∧ f b s ≤ 10000) (s : Nat) (hs : s ≤ 1) : -10000 ≤ parV f s ∧ parV f s ≤ 10000 := by
  rcases h : bidsL f s with _ | ⟨x, r⟩
  · have := (bids_nil f s hs (beg_nil_of f s h)).2.1
    omega
  · have := bids_last f s hs r.length (by rw [h]; rfl)
    rw [← this]; exact hf _ _
/-- Par answers its points, and an outcome of numbers. -/
def ParR (f : Nat → Nat → Int) (s : Nat) (w : World) (e : Ending) (w' : World) : Prop :=
  ∃ c1 c2 c3 c4 c5 c6 : Int, e = .returned (.tuple #[.agg #[.int .u8 c1, .int .u8 c2, .int .u8 c3, .int .u8 c4, .int .i64 c5, .int .i64 c6], .int .i64 (parV f s), .int .i64 0]) ∧ Below w.heap.size w w'
theorem ppar_pts (C : Array Value) (t : Nat → Nat → Int) (hC : TabC C t) (v d : Nat) (hv : v ≤ 3) (hd : d ≤ 3) (h : rightT t = true) (w : World) (hLa : LaidS w) :
    Calls Tryd.prog 12 #[.agg C, .int .u8 (v : Int), .int .u8 (d : Int)] w (ParR (finG t v) (d % 2) w) := by
  have hs : d % 2 ≤ 1 := by omega
  rcases h0 : bidsL (finG t v) (d % 2) with _ | ⟨x, r⟩
  · refine (ppar_none C t hC v d hv hd h h0 w hLa).mono ?_
    rintro e w' ⟨rfl, hb⟩
    have hp := (bids_nil (finG t v) (d % 2) hs (beg_nil_of _ _ h0)).2.1
    exact ⟨0, 0, 0, 0, 0, 0, by rw [hp]; rfl, hb⟩
  · have hj : (bidsL (finG t v) (d % 2)).length = r.length + 1 := by rw [h0]; rfl
    have hbs := bids_spec (finG t v) (d % 2) hs r.length (by omega)
    have hla := bids_last (finG t v) (d % 2) hs r.length hj
    have hq := sideAt_le (begS (finG t v) (d % 2)) r.length (beg_spec (finG t v) (d % 2) hs).1
    refine (ppar_some C t hC v d hv hd h r.length hj _ _ rfl rfl w hLa).mono ?_
    rintro e w' ⟨rfl, hb⟩
    have e : finG t v ((bidsL (finG t v) (d % 2)).getD r.length 0) (sideAt (begS (finG t v) (d % 2)) r.length) = finF t v ((bidsL (finG t v) (d % 2)).getD r.length 0) (sideAt (begS (finG t v) (d % 2)) r.length) := if_pos ⟨hbs.1, hbs.2.1, hq⟩
    rw [e] at hla
    rw [hla]
    unfold ocV
    exact ⟨_, _, _, _, _, _, rfl, hb⟩

/-- The string of a slice of bids. -/
def strB (l : List Nat) : ByteArray := strOfNums (l.map fun (b : Nat) => (b : Int))
theorem conv_rd {P : Program} {w : World} {B n : Nat} {A : Option Addr} {l : List Nat} (h : Rd w B 1 A n (bC l)) (c : Nat) (src dst e : TypeId) (hs : P.underlying src = some (.slice e)) (he : P.underlying e = some (.int .u8)) (hd : P.underlying dst = some .string) :
    (convert src dst (.slice A n c)).run P w = .ok (.string (strB l)) w := by
  have hn : l.length = n := by have := h.len; unfold bC at this; simpa using this
  rcases Nat.eq_zero_or_pos n with h0 | h0
  · subst h0
    obtain rfl : l = [] := List.eq_nil_of_length_eq_zero hn
    cases A with
    | none => exact run_convert_bytes_nil w src e hs he 0 c dst hd
    | some a =>
      rw [run_convert_bytes_string w src dst e _ 0 c hs he hd, run_bytesToString w _ 0 c [] rfl]
      rfl
  · obtain ⟨b, off, rfl, _, hc⟩ := h.pos h0
    refine run_convert_bytes_arg w src e hs he b off n c (l.map fun (b : Nat) => (b : Int)) (by simpa using hn) (fun i hi => ?_) dst hd
    have hil : i < l.length := by omega
    rw [hc i (by unfold bC; simpa using hil)]
    unfold bC
    simp [List.getD, List.getElem?_map, List.getElem?_eq_getElem hil]

end Go.Proofs.YtilekdjjfdehcaaDoor
