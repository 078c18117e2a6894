/- The walks of the reference finesseref17: Right, Need, Result, Vulnerable, value. -/
import Derived.Test.YtilekdjjfdehcaaDoorScoPtsW
namespace Go.Proofs.YtilekdjjfdehcaaDoor
open Go.RowKit

set_option maxHeartbeats 1000000 in
theorem r17right (l d r s : Int) (hl : 0 ≤ l ∧ l ≤ 255) (hd : 0 ≤ d ∧ d ≤ 255) (hr : 0 ≤ r ∧ r ≤ 255) (hs : 0 ≤ s ∧ s ≤ 255) (w : World) :
    Calls Tryd.prog 52 #[.agg #[.int .u8 l, .int .u8 d, .int .u8 r, .int .u8 s]] w fun e w' => e = .returned (.bool (rightC l d r s)) ∧ Below w.heap.size w w' := by
  obtain ⟨R, hR⟩ : ∃ R, rightC l d r s = R := ⟨_, rfl⟩
  rw [hR]
  have HR := Lib.hid hR
  clear hR
  go_enter Tryd.func52, Tryd.ntmps52
  go_wp2
  all_goals go_ret
  all_goals refine ⟨ret_bool ?_, (by repeat (first | exact Below.refl _ _ | assumption | refine Below.drew ?_ | refine below_drewN ?_ _ | refine Below.alloc ?_ (by first | omega | (simp; done) | (simp; omega)) _ | refine Below.setCell ?_ (by first | omega | (simp; done) | (simp; omega)) _))⟩
  all_goals rw [← HR.out]
  all_goals unfold rightC
  all_goals first
    | (have hz : l = 0 := beq_iff_eq.1 (by assumption)
       first | exact (decide_eq_false (by omega)).symm | (rw [Bool.eq_iff_iff, beq_iff_eq, decide_eq_true_iff]; omega))
    | (have hz : ¬ l = 0 := beq_eq_false_iff_ne.1 (by assumption)
       first | exact (decide_eq_false (by omega)).symm | exact decide_eq_decide.2 (by omega))

set_option maxHeartbeats 1000000 in
theorem r17need (l d r s : Int) (hl : 0 ≤ l ∧ l ≤ 255) (hd : 0 ≤ d ∧ d ≤ 255) (hr : 0 ≤ r ∧ r ≤ 255) (hs : 0 ≤ s ∧ s ≤ 255) (w : World) :
    Calls Tryd.prog 53 #[.agg #[.int .u8 l, .int .u8 d, .int .u8 r, .int .u8 s]] w fun e w' => e = .returned (.int .i64 (needC l d r s)) ∧ Below w.heap.size w w' := by
  obtain ⟨N, hN⟩ : ∃ N, needC l d r s = N := ⟨_, rfl⟩
  rw [hN]
  have HN := Lib.hid hN
  have HQ := Lib.hid (fun W => r17right l d r s hl hd hr hs W)
  obtain ⟨R, hR⟩ : ∃ R, rightC l d r s = R := ⟨_, rfl⟩
  rw [hR] at HQ
  have HR := Lib.hid hR
  clear hR hN
  go_enter Tryd.func53, Tryd.ntmps53
  go_wp2_with fail
  refine (HQ.out _).mono ?_
  rintro e w1 ⟨rfl, hb⟩
  have k0 := blk_below (blk_new (w := w) (.cells #[.int .u8 l, .int .u8 d, .int .u8 r, .int .u8 s] 28) rfl) hb (by simp)
  have q0 := blk_cell k0 0
  have hb0 := below_box hb
  clear hb k0
  cases R
  · obtain rfl : 0 = N := by rw [← HN.out]; unfold needC; rw [HR.out]; rfl
    go_wp2
    go_ret
    exact ⟨rfl, hb0⟩
  · by_cases hz : l = 0
    · have hzb : (l == 0) = true := by rw [hz]; rfl
      obtain rfl : 0 = N := by rw [← HN.out]; unfold needC; rw [if_neg (fun h => h.2 hz)]
      clear hz
      go_wp2
      go_ret
      exact ⟨rfl, hb0⟩
    · have hzb : (l == 0) = false := beq_eq_false_iff_ne.2 hz
      obtain rfl : l + 6 = N := by rw [← HN.out]; unfold needC; rw [if_pos ⟨HR.out, hz⟩]; omega
      clear hz
      go_wp2
      go_ret
      exact ⟨rfl, hb0⟩

set_option maxHeartbeats 1000000 in
theorem r17result (l d r s t : Int) (hl : 0 ≤ l ∧ l ≤ 255) (hd : 0 ≤ d ∧ d ≤ 255) (hr : 0 ≤ r ∧ r ≤ 255) (hs : 0 ≤ s ∧ s ≤ 255) (w : World) :
    Calls Tryd.prog 44 #[.agg #[.int .u8 l, .int .u8 d, .int .u8 r, .int .u8 s], .int .i64 t] w fun e w' => e = .returned (.bool (resultC l d r s t)) ∧ Below w.heap.size w w' := by
  obtain ⟨N, hN⟩ : ∃ N, resultC l d r s t = N := ⟨_, rfl⟩
  rw [hN]
  have HN := Lib.hid hN
  have HQ := Lib.hid (fun W => r17right l d r s hl hd hr hs W)
  obtain ⟨R, hR⟩ : ∃ R, rightC l d r s = R := ⟨_, rfl⟩
  rw [hR] at HQ
  have HR := Lib.hid (res_of l d r s t R hR)
  clear hR hN
  go_enter Tryd.func44, Tryd.ntmps44
  go_wp2_with fail
  refine (HQ.out _).mono ?_
  rintro e w1 ⟨rfl, hb⟩
  have k0 := blk_below (blk_new (w := w) (.cells #[.int .u8 l, .int .u8 d, .int .u8 r, .int .u8 s] 28) rfl) hb (by simp)
  have q0 := blk_cell k0 0
  have hb0 := below_box hb
  clear hb k0
  cases R
  · obtain rfl : false = N := by rw [← HN.out, HR.out]; rfl
    go_wp2
    go_ret
    exact ⟨rfl, hb0⟩
  · go_wp2
    all_goals go_ret
    all_goals refine ⟨ret_bool ?_, hb0⟩
    all_goals rw [← HN.out, HR.out, Bool.true_and]
    all_goals first | exact (decide_eq_true (by omega)).symm | exact (decide_eq_false (by omega)).symm | (rw [Bool.eq_iff_iff]; simp; omega)

set_option maxHeartbeats 1000000 in
theorem r17vul (vul seat : Int) (hv : 0 ≤ vul ∧ vul ≤ 255) (hs : 0 ≤ seat ∧ seat ≤ 255) (w : World) :
    Calls Tryd.prog 46 #[.int .u8 vul, .int .u8 seat] w fun e w' => e = .returned (.bool (vulB vul seat)) ∧ w = w' := by
  by_cases h1 : vul ≤ 3 ∧ seat ≤ 3
  · have hvv : vul = 0 ∨ vul = 1 ∨ vul = 2 ∨ vul = 3 := by omega
    have hss : seat = 0 ∨ seat = 1 ∨ seat = 2 ∨ seat = 3 := by omega
    clear h1 hv hs
    obtain ⟨N, hN⟩ : ∃ N, vulB vul seat = N := ⟨_, rfl⟩
    rw [hN]
    have HN := Lib.hid hN
    clear hN
    rcases hvv with rfl | rfl | rfl | rfl <;> rcases hss with rfl | rfl | rfl | rfl
    all_goals
      go_enter Tryd.func46, Tryd.ntmps46
      go_wp2
      go_ret
      exact ⟨ret_bool (by rw [← HN.out]; decide), rfl⟩
  · obtain ⟨N, hN⟩ : ∃ N, vulB vul seat = N := ⟨_, rfl⟩
    rw [hN]
    obtain rfl : false = N := by rw [← hN]; unfold vulB; exact (decide_eq_false (by omega)).symm
    clear hN
    go_enter Tryd.func46, Tryd.ntmps46
    by_cases h2 : vul ≤ 3
    · have h3 : ¬ seat ≤ 3 := by omega
      clear h1
      go_wp2
      go_ret
      exact ⟨rfl, rfl⟩
    · clear h1
      go_wp2
      go_ret
      exact ⟨rfl, rfl⟩

set_option maxHeartbeats 400000 in
theorem r17value (d : Int) (w : World) : Calls Tryd.prog 57 #[.int .u8 d] w fun e w' => e = .returned (.int .i64 (valI d)) ∧ w = w' := by
  obtain ⟨N, hN⟩ : ∃ N, valI d = N := ⟨_, rfl⟩
  rw [hN]
  have HN := Lib.hid hN
  clear hN
  by_cases h : d < 2
  · obtain rfl : 20 = N := by rw [← HN.out]; unfold valI; rw [if_pos h]
    go_enter Tryd.func57, Tryd.ntmps57
    go_wp2
    go_ret
    exact ⟨rfl, rfl⟩
  · obtain rfl : 30 = N := by rw [← HN.out]; unfold valI; rw [if_neg h]
    go_enter Tryd.func57, Tryd.ntmps57
    go_wp2
    go_ret
    exact ⟨rfl, rfl⟩

end Go.Proofs.YtilekdjjfdehcaaDoor
