/- The walk of score.made. -/
import Derived.Test.YtchklobblkddhaaGreatDoorScoW
namespace Go.Proofs.YtchklobblkddhaaGreatDoor
open Go.RowKit

theorem made_sum (l d r over : Int) (v : Bool) (N p b e m : Int) (h : madeI l d r over v = N) (hp : trickV l d r = p) (hb : bonusI p l v = b) (he : eachI d r v = e) (hm : over * e = m) : p + b + insI r + m = N := by
  subst hp hb he hm; exact h

set_option maxRecDepth 100000 in
set_option maxHeartbeats 4000000 in
theorem smade_any (l d r s over : Int) (v : Bool) (hl : 1 ≤ l ∧ l ≤ 7) (hd : 0 ≤ d ∧ d ≤ 4) (hr : 0 ≤ r ∧ r ≤ 2) (ho : 0 ≤ over ∧ over ≤ 6) (w : World) (hL : LaidS w) :
    Calls Tryz.prog 104 #[.agg #[.int .u8 l, .int .u8 d, .int .u8 r, .int .u8 s], .int .i64 over, .bool v] w fun e w' => e = .returned (.int .i64 (madeI l d r over v)) ∧ Below w.heap.size w w' := by
  obtain ⟨N, hN⟩ : ∃ N, madeI l d r over v = N := ⟨_, rfl⟩
  rw [hN]
  have HC := Lib.hid (fun W => scol_any v W)
  have h0 := hL.lt
  have b1 := base_bd l d hl
  have b2 := trickV_bd l d r hl
  have b3 := eachI_bd d r v hr
  have HL := Lib.hid hL
  obtain ⟨p, hp⟩ : ∃ p, trickV l d r = p := ⟨_, rfl⟩
  obtain ⟨b, hb⟩ : ∃ b, bonusI p l v = b := ⟨_, rfl⟩
  obtain ⟨e, he⟩ : ∃ e, eachI d r v = e := ⟨_, rfl⟩
  obtain ⟨m, hm⟩ : ∃ m, over * e = m := ⟨_, rfl⟩
  have b4 : 0 ≤ m ∧ m ≤ 2400 := by
    rw [← hm, ← he]
    exact ⟨Int.mul_nonneg ho.1 b3.1, by have := Int.mul_le_mul ho.2 b3.2 b3.1 (by omega); omega⟩
  have HN := Lib.hid (made_sum l d r over v N p b e m hN hp hb he hm)
  have b5 := bonusI_bd p l v
  rw [hb] at b5
  rw [hp] at b2
  rw [he] at b3
  have hW : IntKind.i64.wrap (over * e) = m := by rw [hm]; exact IntWalk.i64_in _ (by omega)
  obtain ⟨c1, c2, c3, c4, c5⟩ := hL.cells d r hd hr
  have Hb := Lib.hid hb
  have He := Lib.hid he
  have hy := valI_bd d
  have hi : 0 ≤ insI r ∧ insI r ≤ 100 := by unfold insI; omega
  obtain ⟨q, hq⟩ : ∃ q, l * valI d = q := ⟨_, rfl⟩
  have hqb : 20 ≤ q ∧ q ≤ 210 := by rw [← hq]; rcases hy with h | h <;> rw [h] <;> omega
  have hW1 : IntKind.i64.wrap (l * valI d) = q := by rw [hq]; exact IntWalk.i64_in _ (by omega)
  have hW2 : IntKind.i64.wrap ((if d = 4 then q + 10 else q) * facI r) = p := by
    rw [show (if d = 4 then q + 10 else q) * facI r = p by rw [← hp, ← hq]; unfold trickV; split <;> simp]
    exact IntWalk.i64_in _ (by omega)
  have HW1 := Lib.hid hW1
  have HW2 := Lib.hid hW2
  have HWm := Lib.hid hW
  have hfc := facI_bd r
  have HE := Lib.hid (show (0 < r → moreI r v = e) ∧ (¬ 0 < r → valI d = e) by rw [← he]; unfold eachI; exact ⟨fun h => (if_pos h).symm, fun h => (if_neg h).symm⟩)
  generalize valI d = y at c1 HW1 HE
  generalize facI r = f at c2 HW2 hfc
  generalize insI r = u at c3 hi HN
  have C6 := Lib.hid (show (v = false → w.cell? ⟨5, r.toNat * 2, none⟩ = some (.int .i64 (moreI r v))) ∧ (v = true → w.cell? ⟨5, r.toNat * 2 + 1, none⟩ = some (.int .i64 (moreI r v))) from ⟨fun h => by rw [h]; exact c4, fun h => by rw [h]; exact c5⟩)
  generalize moreI r v = z at C6 HE
  clear c4 c5
  clear hN hL hW1 hW2 hp hb he hm hW b1 hq hy
  go_enter Tryz.func104, Tryz.ntmps104
  go_wp2_with fail
  refine (HC.out _).mono ?_
  rintro ee w1 ⟨rfl, rfl⟩
  obtain ⟨W1, hW1⟩ : ∃ W1, w.alloc (.cells #[.int .u8 l, .int .u8 d, .int .u8 r, .int .u8 s] 45) = W1 := ⟨_, rfl⟩
  have k0 : W1.heap[w.heap.size]? = some (.cells #[.int .u8 l, .int .u8 d, .int .u8 r, .int .u8 s] 45) := by rw [← hW1]; exact blk_new _ rfl
  have hB0 : Below w.heap.size w W1 := by rw [← hW1]; exact (by repeat (first | exact Below.refl _ _ | assumption | refine Below.drew ?_ | refine below_drewN ?_ _ | refine Below.alloc ?_ (by first | omega | (simp; done) | (simp; omega)) _ | refine Below.setCell ?_ (by first | omega | (simp; done) | (simp; omega)) _))
  rw [hW1]
  have c1 := (bcell hB0 3 d.toNat (by omega)).trans c1
  have c2 := (bcell hB0 4 r.toNat (by omega)).trans c2
  have c3 := (bcell hB0 6 r.toNat (by omega)).trans c3
  have HB0 := Lib.hid hB0
  have hB1 : Below w.heap.size w W1 := hB0
  have q0 := blk_cell k0 0
  have q1 := blk_cell k0 1
  have q2 := blk_cell k0 2
  clear hW1 k0
  have hW1 := HW1.out
  go_upto_region 2 with fail
  go_quiet (fail)
  clear hW1
  have ix0 : ∀ (W : World) (a b : Int), (Instr.index 49 (.agg #[.int .i64 a, .int .i64 b]) (.int .i64 0)).run Tryz.prog W = .ok (.int .i64 a) W :=
    fun W a b => run_index_one (P := Tryz.prog) (w := W) 49 3 2 #[.int .i64 a, .int .i64 b] .i64 0 (.int .i64 a) Tryz.underlying49 (by kernel_rfl) (fun _ => by kernel_rfl) rfl (by decide)
  have ix1 : ∀ (W : World) (a b : Int), (Instr.index 49 (.agg #[.int .i64 a, .int .i64 b]) (.int .i64 1)).run Tryz.prog W = .ok (.int .i64 b) W :=
    fun W a b => run_index_one (P := Tryz.prog) (w := W) 49 3 2 #[.int .i64 a, .int .i64 b] .i64 1 (.int .i64 b) Tryz.underlying49 (by kernel_rfl) (fun _ => by kernel_rfl) rfl (by decide)
  have i20 : colI false = 0 := rfl
  have i21 : colI true = 1 := rfl
  obtain ⟨x, i1, hW2⟩ : ∃ x : Bool, (d == 4) = x ∧ IntKind.i64.wrap ((if x = true then q + 10 else q) * f) = p := by
    by_cases hd4 : d = 4
    · exact ⟨true, by rw [hd4]; rfl, by have := HW2.out; rw [if_pos hd4] at this; rw [if_pos rfl]; exact this⟩
    · exact ⟨false, beq_eq_false_iff_ne.2 hd4, by have := HW2.out; rw [if_neg hd4] at this; rw [if_neg (by decide)]; exact this⟩
  clear HW2
  by_cases hr0 : 0 < r
  · obtain rfl := HE.out.1 hr0
    have hWm := HWm.out
    clear HE HWm
    cases v
    · have c6 := (bcell HB0.out 5 (r.toNat * 2) (by omega)).trans (C6.out.1 rfl)
      cases x
      all_goals
        simp only [Bool.false_eq_true, if_false, if_true] at hW2
        go_wp2
        all_goals go_ret
        all_goals refine ⟨ret_int ?_, below_drewN HB0.out _⟩
        all_goals rw [← HN.out]
        all_goals have hbv := Hb.out
        all_goals simp only [bonusI, Bool.false_eq_true, if_false] at hbv
        all_goals (try simp only [beq_iff_eq, beq_eq_false_iff_ne, ne_eq] at *)
        all_goals (repeat' split at hbv) <;> omega
    · have c6 := (bcell HB0.out 5 (r.toNat * 2 + 1) (by omega)).trans (C6.out.2 rfl)
      cases x
      all_goals
        simp only [Bool.false_eq_true, if_false, if_true] at hW2
        go_wp2
        all_goals go_ret
        all_goals refine ⟨ret_int ?_, below_drewN HB0.out _⟩
        all_goals rw [← HN.out]
        all_goals have hbv := Hb.out
        all_goals simp only [bonusI, if_true] at hbv
        all_goals (try simp only [beq_iff_eq, beq_eq_false_iff_ne, ne_eq] at *)
        all_goals (repeat' split at hbv) <;> omega
  · obtain rfl := HE.out.2 (by omega)
    have hWm := HWm.out
    clear HE HWm C6
    cases v <;> cases x
    all_goals
      simp only [Bool.false_eq_true, if_false, if_true] at hW2
      go_wp2
      all_goals go_ret
      all_goals refine ⟨ret_int ?_, below_drewN HB0.out _⟩
      all_goals rw [← HN.out]
      all_goals have hbv := Hb.out
      all_goals simp only [bonusI, Bool.false_eq_true, if_false, if_true] at hbv
      all_goals (try simp only [beq_iff_eq, beq_eq_false_iff_ne, ne_eq] at *)
      all_goals (repeat' split at hbv) <;> omega

end Go.Proofs.YtchklobblkddhaaGreatDoor
