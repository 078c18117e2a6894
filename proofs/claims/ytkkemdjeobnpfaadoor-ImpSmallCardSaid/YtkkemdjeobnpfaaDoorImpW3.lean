/- The walks of the statements' own helpers: awake, made, matches. -/
import Derived.Test.YtkkemdjeobnpfaaDoorImpW2
namespace Go.Proofs.YtkkemdjeobnpfaaDoor
open Go.RowKit

def awkL : List (Int × Int) := [(10, 0), (20, 1), (40, 1), (50, 2), (-490, -10), (500, 11), (3990, 23), (4000, 24), (100000, 24)]
theorem awk_ok (k : Nat) (h : k < 9) : (impV (awkL[k]'h).1 != (awkL[k]'h).2) = false := by
  have : ∀ k : Fin 9, (impV (awkL[k.1]'k.2).1 != (awkL[k.1]'k.2).2) = false := by decide +kernel
  exact this ⟨k, h⟩
theorem awk_bd (k : Nat) (h : k < 9) : -1000000 ≤ (awkL[k]'h).1 ∧ (awkL[k]'h).1 ≤ 1000000 ∧ -1000000 ≤ (awkL[k]'h).2 ∧ (awkL[k]'h).2 ≤ 1000000 := by
  have : ∀ k : Fin 9, -1000000 ≤ (awkL[k.1]'k.2).1 ∧ (awkL[k.1]'k.2).1 ≤ 1000000 ∧ -1000000 ≤ (awkL[k.1]'k.2).2 ∧ (awkL[k.1]'k.2).2 ≤ 1000000 := by decide +kernel
  exact this ⟨k, h⟩
def awkB : List (Int × Int) := [(620, -100), (0, 0), (-50, 110)]

theorem Laid.drewN {w : World} (h : Laid w) (n : Nat) : Laid (w.drewN n) := h
theorem imp_quiet (d : Int) (w : World) (n : Nat) (hg : Laid w) :
    Calls Tryd.prog 15 #[.int .i64 d] (w.drewN n) fun e w' => e = .returned (.int .i64 (impV d)) ∧ w' = w.drewN n := (imp_any d _ (hg.drewN n)).mono fun _ _ h => ⟨h.1, h.2.symm⟩

set_option maxHeartbeats 1000000 in
/-- The examples of the chapter hold. -/
theorem awake_any (w : World) (hg : Laid w) :
    Calls Tryd.prog 17 #[] w fun e w' => e = .returned (.bool true) ∧ Below w.heap.size w w' := by
  go_enter Tryd.func17, Tryd.ntmps17
  go_wp2
  go_loopw [24] (fun i wr => ∃ k : Nat, k ≤ 9 ∧ i = .int .i64 (k : Int) ∧ wr.heap[w.heap.size]? = some (.cells (bCells awkL).toArray 51) ∧ Below w.heap.size w wr) (fun i _ => 9 - (intOf i).toNat)
  case atStart => exact ⟨0, by omega, rfl, heap_alloc_new _ _, (by repeat (first | exact Below.refl _ _ | assumption | refine Below.drew ?_ | refine below_drewN ?_ _ | refine Below.alloc ?_ (by first | omega | (simp; done) | (simp; omega)) _ | refine Below.setCell ?_ (by first | omega | (simp; done) | (simp; omega)) _))⟩
  case round =>
    obtain ⟨k, hk, rfl, hblk, hbel⟩ := hrel
    have hlw := blk_lt hblk
    by_cases hlt : k < 9
    · have hc1 : wr.cell? ⟨w.heap.size, k * 2, none⟩ = _ := (blk_cell hblk (k * 2)).trans (by simpa using (bCells_get awkL k hlt).1)
      have hc2 : wr.cell? ⟨w.heap.size, k * 2 + 1, none⟩ = _ := (blk_cell hblk (k * 2 + 1)).trans (by simpa using (bCells_get awkL k hlt).2)
      have hne := awk_ok k hlt
      have Hlaid := Lib.hid (hg.below hbel hg.lt)
      have Hblk := Lib.hid hblk
      clear hblk
      generalize (awkL[k]'hlt).1 = x at hc1 hc2 hne
      generalize (awkL[k]'hlt).2 = y at hc1 hc2 hne
      go_wp2
      go_quiet ((go_at_call 15; exact Calls.quiet_of_same (imp_quiet _ _ _ (Hlaid.out.below ((Below.refl _ _).alloc (Nat.le_refl _) _) (by omega)))))
      go_wp2
      go_roundw
      case rel => exact ⟨k + 1, by omega, by go_num, blk_alloc Hblk.out _, (by repeat (first | exact Below.refl _ _ | assumption | refine Below.drew ?_ | refine below_drewN ?_ _ | refine Below.alloc ?_ (by first | omega | (simp; done) | (simp; omega)) _ | refine Below.setCell ?_ (by first | omega | (simp; done) | (simp; omega)) _))⟩
      case measure => simp [intOf]; omega
    · obtain rfl : k = 9 := by omega
      have hl0 := Lib.hid (hg.below hbel hg.lt)
      have a1 : leastV 0 = 0 := by decide
      have a2 : leastE 0 = 0 := by decide
      have a3 : leastV 11 = 500 := by decide
      have a4 : leastE 11 = 0 := by decide
      have a5 : leastV 25 = 0 := by decide
      have a6 : leastE 25 = 2 := by decide
      have b1 : wonV awkB = 12 := by decide +kernel
      have b2 : lostV awkB = 4 := by decide +kernel
      have b3 : matchE awkB = 0 := by decide +kernel
      have b4 : runV awkB = [12, 12, 8] := by decide +kernel
      have A1 := Lib.hid a1; have A2 := Lib.hid a2; have A3 := Lib.hid a3; have A4 := Lib.hid a4; have A5 := Lib.hid a5; have A6 := Lib.hid a6
      have B1 := Lib.hid b1; have B2 := Lib.hid b2; have B3 := Lib.hid b3; have B4 := Lib.hid b4
      clear a1 a2 a3 a4 a5 a6 b1 b2 b3 b4 hblk
      go_wp2_with fail
      refine (least_any _ _ hl0.out).mono ?_
      rintro e _ ⟨rfl, rfl⟩
      rw [A1.out, A2.out]
      go_wp2_with fail
      refine (least_any _ _ hl0.out).mono ?_
      rintro e _ ⟨rfl, rfl⟩
      rw [A3.out, A4.out]
      go_wp2_with fail
      refine (least_any _ _ hl0.out).mono ?_
      rintro e _ ⟨rfl, rfl⟩
      rw [A5.out, A6.out]
      go_wp2_with fail
      have hrd : Rd (wr.alloc (.cells #[.int .i64 620, .int .i64 (-100), .int .i64 0, .int .i64 0, .int .i64 (-50), .int .i64 110] 29)) (wr.heap.size + 1) 2 (some ⟨wr.heap.size, 0, none⟩) 3 (bCells awkB) :=
        ⟨rfl, fun _ => ⟨_, 0, rfl, by omega, fun j hj => by rw [Nat.zero_add]; exact (blk_cell (blk_new _ rfl) j).trans (by simp [awkB, bCells])⟩⟩
      have hl1 := hl0.out.below ((Below.refl wr.heap.size wr).alloc (Nat.le_refl _) (.cells #[.int .i64 620, .int .i64 (-100), .int .i64 0, .int .i64 0, .int .i64 (-50), .int .i64 110] 29)) hl0.out.lt
      refine (match_any awkB _ _ _ hl1 (hrd.more (by simp)) (by simp [awkB])).mono ?_
      rintro e w1 ⟨rfl, hb1⟩
      rw [B1.out, B2.out, B3.out]
      have hsz1 : wr.heap.size + 1 ≤ w1.heap.size := by have := hb1.size; simpa using this
      have hrd1 := (hrd.below (hb1.mono (by simp))).more hsz1
      have hl2 := hl1.below hb1 hl1.lt
      have Hrd := Lib.hid hrd
      have Hl1 := Lib.hid hl1
      clear hrd hl1
      go_wp2_with fail
      refine (running_any awkB _ _ _ hl2 hrd1 (by simp [awkB])).mono ?_
      rintro e w2 ⟨v, rfl, hown, hb2⟩
      obtain ⟨A, c, rfl⟩ := own_form hown
      rw [B3.out]
      have hr := Rd.of_own hown
      rw [B4.out] at hr
      obtain ⟨b, off, rfl, _, hc⟩ := hr.pos (by simp)
      have hx0 : w2.cell? ⟨b, off, none⟩ = some (.int .i64 12) := hc 0 (by simp)
      have hx1 : w2.cell? ⟨b, off + 1, none⟩ = some (.int .i64 12) := hc 1 (by simp)
      have hx2 : w2.cell? ⟨b, off + 2, none⟩ = some (.int .i64 8) := hc 2 (by simp)
      have hlen : (runV awkB).length = 3 := by rw [B4.out]; rfl
      rw [hlen]
      clear hc hr hown hlen hrd1 hl2
      go_wp2
      go_ret
      exact ⟨rfl, ((hbel.alloc hbel.size _).trans (hb1.mono (by have := hbel.size; simp; omega))).trans (hb2.mono (by have := hb1.size; have := hbel.size; simp at *; omega))⟩

end Go.Proofs.YtkkemdjeobnpfaaDoor
