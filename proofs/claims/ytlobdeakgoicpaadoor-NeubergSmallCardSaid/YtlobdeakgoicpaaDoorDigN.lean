/- The walk of finesseref01.number. -/
import Derived.Test.YtlobdeakgoicpaaDoorDigV
namespace Go.Proofs.YtlobdeakgoicpaaDoor
open Go.RowKit

def lim63 : Nat := 9223372036854775808
theorem ln_lim : ln lim63 = 4 := ln_eq (by show 9223372036854775808 < 18446744073709551616; decide) (.inr (by show 65536 ^ 3 ≤ 9223372036854775808; decide))
theorem dC_lim : dC lim63 4 = [.int .i64 0, .int .i64 0, .int .i64 0, .int .i64 32768] := rfl
/-- A number fits. -/
def fitsB (neg : Bool) (n : Nat) : Bool := if neg then decide (n ≤ 9223372036854775808) else decide (n < 9223372036854775808)
def numV (neg : Bool) (n : Nat) : Int := if fitsB neg n then (if neg then -(n : Int) else (n : Int)) else 0

set_option maxRecDepth 100000 in
set_option maxHeartbeats 1000000 in
theorem r01number (neg : Bool) (n : Nat) (A : Option Addr) (c : Nat) (w : World) (h : DS w n (ln n) A c) (hl : ln n ≤ 1000) :
    Calls Tryd.prog 88 #[.bool neg, .slice A (ln n) c] w fun e w' => e = .returned (.tuple #[.int .i64 (numV neg n), .bool (fitsB neg n)]) ∧ Below w.heap.size w w' := by
  obtain ⟨H, hH⟩ : ∃ H, w.heap.size = H := ⟨_, rfl⟩
  obtain ⟨W, hW⟩ : ∃ W, w.alloc (.cells #[.int .i64 0, .int .i64 0, .int .i64 0, .int .i64 32768] 3) = W := ⟨_, rfl⟩
  have hB : Below w.heap.size w W := by rw [← hW]; exact (Below.refl _ _).alloc (Nat.le_refl _) _
  have hblk : W.heap[H]? = some (.cells #[.int .i64 0, .int .i64 0, .int .i64 0, .int .i64 32768] 3 (0, 0)) := by rw [← hW]; exact blk_new _ hH.symm
  have hLim : DS W lim63 (ln lim63) (some ⟨H, 0, none⟩) 4 := by
    rw [ln_lim]
    refine ⟨fun h => (by cases h), rd_of_blk hblk ?_ ?_, by omega, by omega⟩
    · rw [dC_lim]; rfl
    · rw [dC_len]
  have hA := h.go hB
  have HL1 := Lib.hid (r01less lim63 n _ A 4 c W hLim hA (by rw [ln_lim]; decide) hl)
  have HL2 := Lib.hid (fun k => r01less n lim63 A _ c 4 (W.drewN k) (show DS (W.drewN k) n (ln n) A c from hA) (show DS (W.drewN k) lim63 (ln lim63) _ 4 from hLim) hl (by rw [ln_lim]; decide))
  have HA := Lib.hid hA
  have HB := Lib.hid hB
  have HM := Lib.hid (fun j => num_step n j)
  have hlt := ln_lt n
  have HLt := Lib.hid hlt
  rw [ln_lim] at HL1 HL2
  clear h hB hLim hA hlt hblk
  generalize ln n = l at *
  by_cases h1 : lim63 < n
  · have e1 : decide (lim63 < n) = true := decide_eq_true h1
    have e2 : fitsB neg n = false := by unfold fitsB; cases neg <;> exact decide_eq_false (by unfold lim63 at h1; omega)
    have e3 : numV neg n = 0 := by unfold numV; rw [e2]; rfl
    rw [e2, e3]
    rw [e1] at HL1
    clear h1 e1 e2 e3 HL2
    go_enter Tryd.func88, Tryd.ntmps88
    go_wp2_with fail
    clear hW
    (try rw [hH])
    refine HL1.out.mono ?_
    rintro ee w2 ⟨rfl, n1, rfl⟩
    go_wp2
    go_ret2
    exact ⟨rfl, below_drewN HB.out n1⟩
  · have e1 : decide (lim63 < n) = false := decide_eq_false h1
    rw [e1] at HL1
    have hn63 : n ≤ 9223372036854775808 := by unfold lim63 at h1; omega
    clear e1
    cases neg with
    | true =>
      have e2 : fitsB true n = true := decide_eq_true hn63
      have e3 : numV true n = -(n : Int) := by unfold numV; rw [e2]; rfl
      rw [e2, e3]
      clear e2 e3 HL2 h1
      go_enter Tryd.func88, Tryd.ntmps88
      go_wp2_with fail
      clear hW
      (try rw [hH])
      refine HL1.out.mono ?_
      rintro ee w2 ⟨rfl, n1, rfl⟩
      have HB2 := Lib.hid (below_drewN HB.out n1)
      have HA2 := Lib.hid (show DS (W.drewN n1) n l A c from HA.out)
      obtain ⟨W2, hW2⟩ : ∃ V, W.drewN n1 = V := ⟨_, rfl⟩
      rw [hW2] at HB2 HA2 ⊢
      clear hW2
      go_wp2
      go_loopw [7, 8] (fun x i wr => ∃ j : Nat, j ≤ l ∧ i = .int .i64 ((j : Int) - 1) ∧ x = .int .i64 (-((n / Bs ^ j : Nat) : Int)) ∧ wr = W2) (fun _ i _ => (intOf i + 1).toNat)
      case atStart => exact ⟨l, Nat.le_refl _, rfl, by rw [Nat.div_eq_of_lt HLt.out]; rfl, rfl⟩
      case round =>
        obtain ⟨j, hj, rfl, rfl, rfl⟩ := hrel
        by_cases h0 : 0 < j
        · obtain ⟨i, rfl⟩ : ∃ i, j = i + 1 := ⟨j - 1, by omega⟩
          obtain ⟨pa, oa, rfl, hpa, qa⟩ := HA2.out.digit i (by omega)
          have HM1 := Lib.hid (HM.out i)
          have hle : n / Bs ^ i ≤ n := Nat.div_le_self _ _
          have hd := dg_lt n i
          have e1 : (((i + 1 : Nat) : Int)) - 1 = (i : Int) := by omega
          have c1 : (0 : Int) ≤ (i : Int) := by omega
          have c2 : (i : Int) < (l : Int) := by omega
          rw [← HM1.out] at hle
          rw [e1]
          generalize dg n i = d at *
          generalize n / Bs ^ (i + 1) = q at *
          have w1 := IntWalk.i64_in ((-((q : Nat) : Int)) * 65536) (by omega)
          have w2 := IntWalk.i64_in ((-((q : Nat) : Int)) * 65536 - (d : Int)) (by omega)
          go_wp2
          go_roundw
          case rel => exact ⟨i, by omega, rfl, int_eq (by rw [← HM1.out]; omega), trivial⟩
          case measure => simp [intOf]
        · obtain rfl : j = 0 := by omega
          have e5 : n / Bs ^ 0 = n := by simp
          rw [e5]
          go_wp2
          go_ret2
          exact ⟨rfl, HB2.out⟩
    | false =>
      by_cases h2 : n < lim63
      · have e2 : fitsB false n = true := decide_eq_true h2
        have e3 : numV false n = (n : Int) := by unfold numV; rw [e2]; rfl
        have e4 : decide (n < lim63) = true := decide_eq_true h2
        rw [e2, e3]
        rw [e4] at HL2
        have hn63' : n < 9223372036854775808 := h2
        clear e2 e3 e4 h1 h2
        go_enter Tryd.func88, Tryd.ntmps88
        go_wp2_with fail
        clear hW
        (try rw [hH])
        refine HL1.out.mono ?_
        rintro ee w2 ⟨rfl, n1, rfl⟩
        go_wp2_with fail
        refine (HL2.out n1).mono ?_
        rintro ee w3 ⟨rfl, n2, rfl⟩
        rw [World.drewN_drewN]
        have HB2 := Lib.hid (below_drewN HB.out (n1 + n2))
        have HA2 := Lib.hid (show DS (W.drewN (n1 + n2)) n l A c from HA.out)
        obtain ⟨W2, hW2⟩ : ∃ V, W.drewN (n1 + n2) = V := ⟨_, rfl⟩
        rw [hW2] at HB2 HA2 ⊢
        clear hW2 HL1 HL2
        go_wp2
        go_loopw [7, 8] (fun x i wr => ∃ j : Nat, j ≤ l ∧ i = .int .i64 ((j : Int) - 1) ∧ x = .int .i64 ((n / Bs ^ j : Nat) : Int) ∧ wr = W2) (fun _ i _ => (intOf i + 1).toNat)
        case atStart => exact ⟨l, Nat.le_refl _, rfl, by rw [Nat.div_eq_of_lt HLt.out]; rfl, rfl⟩
        case round =>
          obtain ⟨j, hj, rfl, rfl, rfl⟩ := hrel
          by_cases h0 : 0 < j
          · obtain ⟨i, rfl⟩ : ∃ i, j = i + 1 := ⟨j - 1, by omega⟩
            obtain ⟨pa, oa, rfl, hpa, qa⟩ := HA2.out.digit i (by omega)
            have HM1 := Lib.hid (HM.out i)
            have hle : n / Bs ^ i ≤ n := Nat.div_le_self _ _
            have hd := dg_lt n i
            have e1 : (((i + 1 : Nat) : Int)) - 1 = (i : Int) := by omega
            have c1 : (0 : Int) ≤ (i : Int) := by omega
            have c2 : (i : Int) < (l : Int) := by omega
            rw [← HM1.out] at hle
            rw [e1]
            generalize dg n i = d at *
            generalize n / Bs ^ (i + 1) = q at *
            have w1 := IntWalk.i64_in (((q : Nat) : Int) * 65536) (by omega)
            have w2 := IntWalk.i64_in (((q : Nat) : Int) * 65536 + (d : Int)) (by omega)
            go_wp2
            go_roundw
            case rel => exact ⟨i, by omega, rfl, int_eq (by rw [← HM1.out]; omega), trivial⟩
            case measure => simp [intOf]
          · obtain rfl : j = 0 := by omega
            have e5 : n / Bs ^ 0 = n := by simp
            rw [e5]
            go_wp2
            go_ret2
            exact ⟨rfl, HB2.out⟩
      · have e2 : fitsB false n = false := decide_eq_false h2
        have e3 : numV false n = 0 := by unfold numV; rw [e2]; rfl
        have e4 : decide (n < lim63) = false := decide_eq_false h2
        rw [e2, e3]
        rw [e4] at HL2
        clear e2 e3 e4 h1 h2
        go_enter Tryd.func88, Tryd.ntmps88
        go_wp2_with fail
        clear hW
        (try rw [hH])
        refine HL1.out.mono ?_
        rintro ee w2 ⟨rfl, n1, rfl⟩
        go_wp2_with fail
        refine (HL2.out n1).mono ?_
        rintro ee w3 ⟨rfl, n2, rfl⟩
        rw [World.drewN_drewN]
        go_wp2
        go_ret2
        exact ⟨rfl, below_drewN HB.out (n1 + n2)⟩

end Go.Proofs.YtlobdeakgoicpaaDoor
