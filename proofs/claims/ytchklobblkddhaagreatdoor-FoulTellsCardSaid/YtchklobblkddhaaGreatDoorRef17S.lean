/- The walks of the reference finesseref17: Right, Need, Result, Vulnerable, value. The reference finesseref17: contract, made, lost, Points, Score. The reference finesseref17: made. The reference finesseref17: Points. The reference finesseref17: Score. The reference finesseref17: Score of any contract, tricks and vulnerability. -/
import Derived.Test.YtchklobblkddhaaGreatDoorScoPtsW
namespace Go.Proofs.YtchklobblkddhaaGreatDoor
open Go.RowKit

/-! ### The walks of the reference finesseref17: Right, Need, Result, Vulnerable, value. -/
set_option maxHeartbeats 1000000 in
theorem r17right (l d r s : Int) (hl : 0 ≤ l ∧ l ≤ 255) (hd : 0 ≤ d ∧ d ≤ 255) (hr : 0 ≤ r ∧ r ≤ 255) (hs : 0 ≤ s ∧ s ≤ 255) (w : World) :
    Calls Tryz.prog 93 #[.agg #[.int .u8 l, .int .u8 d, .int .u8 r, .int .u8 s]] w fun e w' => e = .returned (.bool (rightC l d r s)) ∧ Below w.heap.size w w' := by
  obtain ⟨R, hR⟩ : ∃ R, rightC l d r s = R := ⟨_, rfl⟩
  rw [hR]
  have HR := Lib.hid hR
  clear hR
  go_enter Tryz.func93, Tryz.ntmps93
  go_wp2
  all_goals go_ret
  all_goals refine ⟨ret_bool ?_, (by repeat (first | exact Below.refl _ _ | assumption | refine Below.drew ?_ | refine below_drewN ?_ _ | refine Below.alloc ?_ (by first | omega | (simp; done) | (simp; omega)) _ | refine Below.setCell ?_ (by first | omega | (simp; done) | (simp; omega)) _))⟩
  all_goals rw [← HR.out]
  all_goals unfold rightC
  all_goals first
    | (have hz : l = 0 := beq_iff_eq.1 (by assumption)
       first | exact (decide_eq_false (by omega)).symm | (rw [Bool.eq_iff_iff, beq_iff_eq, decide_eq_true_iff]; omega))
    | (have hz : ¬ l = 0 := beq_eq_false_iff_ne.1 (by assumption)
       first | exact (decide_eq_false (by omega)).symm | exact decide_eq_decide.2 (by omega))

set_option maxHeartbeats 1000000 in
theorem r17need (l d r s : Int) (hl : 0 ≤ l ∧ l ≤ 255) (hd : 0 ≤ d ∧ d ≤ 255) (hr : 0 ≤ r ∧ r ≤ 255) (hs : 0 ≤ s ∧ s ≤ 255) (w : World) :
    Calls Tryz.prog 94 #[.agg #[.int .u8 l, .int .u8 d, .int .u8 r, .int .u8 s]] w fun e w' => e = .returned (.int .i64 (needC l d r s)) ∧ Below w.heap.size w w' := by
  obtain ⟨N, hN⟩ : ∃ N, needC l d r s = N := ⟨_, rfl⟩
  rw [hN]
  have HN := Lib.hid hN
  have HQ := Lib.hid (fun W => r17right l d r s hl hd hr hs W)
  obtain ⟨R, hR⟩ : ∃ R, rightC l d r s = R := ⟨_, rfl⟩
  rw [hR] at HQ
  have HR := Lib.hid hR
  clear hR hN
  go_enter Tryz.func94, Tryz.ntmps94
  go_wp2_with fail
  refine (HQ.out _).mono ?_
  rintro e w1 ⟨rfl, hb⟩
  have k0 := blk_below (blk_new (w := w) (.cells #[.int .u8 l, .int .u8 d, .int .u8 r, .int .u8 s] 45) rfl) hb (by simp)
  have q0 := blk_cell k0 0
  have hb0 := below_box hb
  clear hb k0
  cases R
  · obtain rfl : 0 = N := by rw [← HN.out]; unfold needC; rw [HR.out]; rfl
    go_wp2
    go_ret
    exact ⟨rfl, hb0⟩
  · by_cases hz : l = 0
    · have hzb : (l == 0) = true := by rw [hz]; rfl
      obtain rfl : 0 = N := by rw [← HN.out]; unfold needC; rw [if_neg (fun h => h.2 hz)]
      clear hz
      go_wp2
      go_ret
      exact ⟨rfl, hb0⟩
    · have hzb : (l == 0) = false := beq_eq_false_iff_ne.2 hz
      obtain rfl : l + 6 = N := by rw [← HN.out]; unfold needC; rw [if_pos ⟨HR.out, hz⟩]; omega
      clear hz
      go_wp2
      go_ret
      exact ⟨rfl, hb0⟩

set_option maxHeartbeats 1000000 in
theorem r17result (l d r s t : Int) (hl : 0 ≤ l ∧ l ≤ 255) (hd : 0 ≤ d ∧ d ≤ 255) (hr : 0 ≤ r ∧ r ≤ 255) (hs : 0 ≤ s ∧ s ≤ 255) (w : World) :
    Calls Tryz.prog 73 #[.agg #[.int .u8 l, .int .u8 d, .int .u8 r, .int .u8 s], .int .i64 t] w fun e w' => e = .returned (.bool (resultC l d r s t)) ∧ Below w.heap.size w w' := by
  obtain ⟨N, hN⟩ : ∃ N, resultC l d r s t = N := ⟨_, rfl⟩
  rw [hN]
  have HN := Lib.hid hN
  have HQ := Lib.hid (fun W => r17right l d r s hl hd hr hs W)
  obtain ⟨R, hR⟩ : ∃ R, rightC l d r s = R := ⟨_, rfl⟩
  rw [hR] at HQ
  have HR := Lib.hid (res_of l d r s t R hR)
  clear hR hN
  go_enter Tryz.func73, Tryz.ntmps73
  go_wp2_with fail
  refine (HQ.out _).mono ?_
  rintro e w1 ⟨rfl, hb⟩
  have k0 := blk_below (blk_new (w := w) (.cells #[.int .u8 l, .int .u8 d, .int .u8 r, .int .u8 s] 45) rfl) hb (by simp)
  have q0 := blk_cell k0 0
  have hb0 := below_box hb
  clear hb k0
  cases R
  · obtain rfl : false = N := by rw [← HN.out, HR.out]; rfl
    go_wp2
    go_ret
    exact ⟨rfl, hb0⟩
  · go_wp2
    all_goals go_ret
    all_goals refine ⟨ret_bool ?_, hb0⟩
    all_goals rw [← HN.out, HR.out, Bool.true_and]
    all_goals first | exact (decide_eq_true (by omega)).symm | exact (decide_eq_false (by omega)).symm | (rw [Bool.eq_iff_iff]; simp; omega)

set_option maxHeartbeats 1000000 in
theorem r17vul (vul seat : Int) (hv : 0 ≤ vul ∧ vul ≤ 255) (hs : 0 ≤ seat ∧ seat ≤ 255) (w : World) :
    Calls Tryz.prog 75 #[.int .u8 vul, .int .u8 seat] w fun e w' => e = .returned (.bool (vulB vul seat)) ∧ w = w' := by
  by_cases h1 : vul ≤ 3 ∧ seat ≤ 3
  · have hvv : vul = 0 ∨ vul = 1 ∨ vul = 2 ∨ vul = 3 := by omega
    have hss : seat = 0 ∨ seat = 1 ∨ seat = 2 ∨ seat = 3 := by omega
    clear h1 hv hs
    obtain ⟨N, hN⟩ : ∃ N, vulB vul seat = N := ⟨_, rfl⟩
    rw [hN]
    have HN := Lib.hid hN
    clear hN
    rcases hvv with rfl | rfl | rfl | rfl <;> rcases hss with rfl | rfl | rfl | rfl
    all_goals
      go_enter Tryz.func75, Tryz.ntmps75
      go_wp2
      go_ret
      exact ⟨ret_bool (by rw [← HN.out]; decide), rfl⟩
  · obtain ⟨N, hN⟩ : ∃ N, vulB vul seat = N := ⟨_, rfl⟩
    rw [hN]
    obtain rfl : false = N := by rw [← hN]; unfold vulB; exact (decide_eq_false (by omega)).symm
    clear hN
    go_enter Tryz.func75, Tryz.ntmps75
    by_cases h2 : vul ≤ 3
    · have h3 : ¬ seat ≤ 3 := by omega
      clear h1
      go_wp2
      go_ret
      exact ⟨rfl, rfl⟩
    · clear h1
      go_wp2
      go_ret
      exact ⟨rfl, rfl⟩

set_option maxHeartbeats 400000 in
theorem r17value (d : Int) (w : World) : Calls Tryz.prog 107 #[.int .u8 d] w fun e w' => e = .returned (.int .i64 (valI d)) ∧ w = w' := by
  obtain ⟨N, hN⟩ : ∃ N, valI d = N := ⟨_, rfl⟩
  rw [hN]
  have HN := Lib.hid hN
  clear hN
  by_cases h : d < 2
  · obtain rfl : 20 = N := by rw [← HN.out]; unfold valI; rw [if_pos h]
    go_enter Tryz.func107, Tryz.ntmps107
    go_wp2
    go_ret
    exact ⟨rfl, rfl⟩
  · obtain rfl : 30 = N := by rw [← HN.out]; unfold valI; rw [if_neg h]
    go_enter Tryz.func107, Tryz.ntmps107
    go_wp2
    go_ret
    exact ⟨rfl, rfl⟩

/-! ### The reference finesseref17: contract, made, lost, Points, Score. -/
set_option maxRecDepth 100000 in
set_option maxHeartbeats 1000000 in
theorem r17contract (l d r s : Int) (hl : 1 ≤ l ∧ l ≤ 7) (hr : 0 ≤ r ∧ r ≤ 2) (w : World) :
    Calls Tryz.prog 106 #[.agg #[.int .u8 l, .int .u8 d, .int .u8 r, .int .u8 s]] w fun e w' => e = .returned (.int .i64 (trickV l d r)) ∧ Below w.heap.size w w' := by
  obtain ⟨b, hb⟩ : ∃ b, l * valI d + (if d = 4 then 10 else 0) = b := ⟨_, rfl⟩
  have hbb := base_bd l d hl
  rw [hb] at hbb
  have hT : trickV l d r = b * facI r := by unfold trickV; rw [hb]
  rw [hT]
  have hv := valI_bd d
  have HV := Lib.hid (fun W => r17value d W)
  obtain ⟨v, hvv⟩ : ∃ v, valI d = v := ⟨_, rfl⟩
  rw [hvv] at hv HV hb
  have Hb := Lib.hid hb
  have hlv : IntKind.i64.wrap (l * v) = l * v := by rcases hv with rfl | rfl <;> exact IntWalk.i64_in _ (by omega)
  have hm : 20 ≤ l * v ∧ l * v ≤ 210 := by rcases hv with rfl | rfl <;> omega
  clear hb hvv hT
  obtain ⟨m, hmm⟩ : ∃ m, l * v = m := ⟨_, rfl⟩
  rw [hmm] at hlv hm Hb
  have HM := Lib.hid hmm
  go_enter Tryz.func106, Tryz.ntmps106
  go_upto_region 1 with fail
  obtain ⟨W1, hW1⟩ : ∃ W1, w.alloc (.cells #[.int .u8 l, .int .u8 d, .int .u8 r, .int .u8 s] 45) = W1 := ⟨_, rfl⟩
  obtain ⟨g, hg⟩ : ∃ g, w.heap.size = g := ⟨_, rfl⟩
  have HK := Lib.hid (show W1.heap[g]? = some (.cells #[.int .u8 l, .int .u8 d, .int .u8 r, .int .u8 s] 45) by rw [← hW1]; exact blk_new _ hg.symm)
  have hB1 : Below w.heap.size w W1 := by rw [← hW1]; exact (by repeat (first | exact Below.refl _ _ | assumption | refine Below.drew ?_ | refine below_drewN ?_ _ | refine Below.alloc ?_ (by first | omega | (simp; done) | (simp; omega)) _ | refine Below.setCell ?_ (by first | omega | (simp; done) | (simp; omega)) _))
  rw [hW1, hg]
  clear hW1 hg
  have q0 := blk_cell HK.out 0
  have q1 := blk_cell HK.out 1
  go_region_held3 (fun w' => w'.cell? ⟨g, 0, none⟩ = some (.int .u8 l) ∧ w'.cell? ⟨g, 1, none⟩ = some (.int .u8 d)) ((first | exact ⟨q0, q1⟩)) ((go_at_call 107; first | ((with_reducible refine (HV.out _).mono ?_); rintro ee we ⟨rfl, rfl⟩)))
  have hwl : IntKind.i64.wrap l = l := IntWalk.i64_in _ (by omega)
  have hlv2 : IntKind.i64.wrap (l * v) = m := by rw [HM.out]; exact hlv
  rw [hwl, hlv2]
  obtain ⟨W2, hW2⟩ : ∃ W2, W1.drew = W2 := ⟨_, rfl⟩
  have q1 : W2.cell? ⟨g, 1, none⟩ = some (.int .u8 d) := by rw [← hW2]; exact blk_cell HK.out 1
  have q2 : W2.cell? ⟨g, 2, none⟩ = some (.int .u8 r) := by rw [← hW2]; exact blk_cell HK.out 2
  have hB2 : Below w.heap.size w W2 := by rw [← hW2]; exact hB1.drew
  rw [hW2]
  clear hW2 hwl hlv hlv2 q0 hB1
  have hstep : ∀ k : Nat, (k : Int) < r → b * facI (k : Int) + b * facI (k : Int) = b * facI ((k + 1 : Nat) : Int) ∧ 0 ≤ b * facI (k : Int) ∧ b * facI (k : Int) ≤ 440 := fun k hk => by
    have a : k = 0 ∨ k = 1 := by omega
    rcases a with rfl | rfl
    · show b * 1 + b * 1 = b * 2 ∧ 0 ≤ b * 1 ∧ b * 1 ≤ 440; omega
    · show b * 2 + b * 2 = b * 4 ∧ 0 ≤ b * 2 ∧ b * 2 ≤ 440; omega
  have hz : b * facI ((0 : Nat) : Int) = b := Int.mul_one b
  go_upto_region 2 with fail
  go_upto_if 14 with fail
  go_cut [3] (fun x wz => x = .int .i64 b ∧ wz = W2)
  case first =>
    by_cases h4 : d = 4
    · have h4b : (d == 4) = true := beq_iff_eq.2 h4
      have hmb : IntKind.i64.wrap (m + 10) = b := by rw [← Hb.out, if_pos h4]; exact IntWalk.i64_in _ (by omega)
      clear h4
      go_wp2_with fail
      go_meet
      exact ⟨rfl, rfl⟩
    · have h4b : (d == 4) = false := beq_eq_false_iff_ne.2 h4
      have hmb : m = b := by rw [← Hb.out, if_neg h4]; omega
      clear h4
      go_wp2_with fail
      go_meet
      exact ⟨by rw [hmb], rfl⟩
  case rest =>
  obtain ⟨rfl, rfl⟩ := hcut
  rename World => W2
  go_upto_region 5 with fail
  go_loopw [4, 3] (fun i x wr => ∃ k : Nat, (k : Int) ≤ r ∧ i = .int .u8 (k : Int) ∧ x = .int .i64 (b * facI (k : Int)) ∧ wr = W2) (fun i _ _ => 3 - (intOf i).toNat)
  case atStart => exact ⟨0, by omega, rfl, by rw [hz], rfl⟩
  case round =>
    obtain ⟨k, hk, rfl, rfl, rfl⟩ := hrel
    by_cases hlt : (k : Int) < r
    · obtain ⟨h1, h2, h3⟩ := hstep k hlt
      obtain ⟨y, hy⟩ : ∃ y, b * facI ((k + 1 : Nat) : Int) = y := ⟨_, rfl⟩
      rw [hy] at h1
      have Hy := Lib.hid hy
      clear hy
      generalize hX : b * facI (k : Int) = x at *
      have hw : IntKind.i64.wrap (x + x) = y := (IntWalk.i64_in _ (by omega)).trans h1
      go_wp2
      go_roundw
      case rel => exact ⟨k + 1, by omega, by go_num, by rw [Hy.out], by first | rfl | trivial⟩
      case measure => simp [intOf]; omega
    · have hkr : (k : Int) = r := by omega
      rw [hkr] at *
      go_wp2
      go_ret
      exact ⟨rfl, hB2⟩

/-- The points of one missing trick, doubled twice where redoubled. -/
def lostI (r k : Int) (v : Bool) : Int := if r = 2 then trickI r (k - 1) v + trickI r (k - 1) v else trickI r (k - 1) v
set_option maxHeartbeats 1000000 in
theorem r17lost (r k : Int) (v : Bool) (hr : 0 ≤ r ∧ r ≤ 2) (hk : 1 ≤ k) (w : World) :
    Calls Tryz.prog 96 #[.int .u8 r, .int .i64 k, .bool v] w fun e w' => e = .returned (.int .i64 (lostI r k v)) ∧ w = w' := by
  obtain ⟨N, hN⟩ : ∃ N, lostI r k v = N := ⟨_, rfl⟩
  rw [hN]
  have HN := Lib.hid hN
  clear hN
  have hrr : r = 0 ∨ r = 1 ∨ r = 2 := by omega
  have hkk : k = 1 ∨ k = 2 ∨ k = 3 ∨ (¬ k = 1 ∧ ¬ k = 2 ∧ ¬ k = 3) := by omega
  rcases hrr with rfl | rfl | rfl <;> rcases hkk with rfl | rfl | rfl | ⟨h1, h2, h3⟩ <;> cases v
  all_goals try have b1 : (k == 1) = false := beq_eq_false_iff_ne.2 h1
  all_goals try have b2 : (k == 2) = false := beq_eq_false_iff_ne.2 h2
  all_goals try have b3 : (k == 3) = false := beq_eq_false_iff_ne.2 h3
  all_goals
    go_enter Tryz.func96, Tryz.ntmps96
    go_wp2
    go_ret
    refine ⟨?_, rfl⟩
    rw [← HN.out]
    first
      | rfl
      | (refine congrArg (fun n => Ending.returned (Value.int IntKind.i64 n)) ?_
         unfold lostI trickI
         (repeat' split) <;> first | rfl | omega)

/-! ### The reference finesseref17: made. -/
theorem need_six (l d r s : Int) (hl : 1 ≤ l ∧ l ≤ 7) (hd : 0 ≤ d ∧ d ≤ 4) (hr : 0 ≤ r ∧ r ≤ 2) (hs : 0 ≤ s ∧ s ≤ 3) : needC l d r s = 6 + l := by
  unfold needC
  rw [if_pos ⟨by unfold rightC; exact decide_eq_true (.inr (by omega)), by omega⟩]

set_option maxRecDepth 100000 in
set_option maxHeartbeats 2000000 in
theorem r17made (l d r s t : Int) (v : Bool) (hl : 1 ≤ l ∧ l ≤ 7) (hd : 0 ≤ d ∧ d ≤ 4) (hr : 0 ≤ r ∧ r ≤ 2) (hs : 0 ≤ s ∧ s ≤ 3) (ht : 6 + l ≤ t ∧ t ≤ 13) (w : World) :
    Calls Tryz.prog 95 #[.agg #[.int .u8 l, .int .u8 d, .int .u8 r, .int .u8 s], .int .i64 t, .bool v] w fun e w' => e = .returned (.int .i64 (madeI l d r (t - (6 + l)) v)) ∧ Below w.heap.size w w' := by
  have HC := Lib.hid (fun W => r17contract l d r s hl hr W)
  have HN := Lib.hid (fun W => r17need l d r s (by omega) (by omega) (by omega) (by omega) W)
  rw [need_six l d r s hl hd hr hs] at HN
  have HV := Lib.hid (fun W => r17value d W)
  have hcb := trickV_bd l d r hl
  have HM := Lib.hid (show ∀ o, madeI l d r o v = trickV l d r + bonusI (trickV l d r) l v + insI r + o * eachI d r v from fun _ => rfl)
  have hbb := bonusI_bd (trickV l d r) l v
  have hee := eachI_bd d r v hr
  have hvd := valI_bd d
  obtain ⟨c, hc⟩ : ∃ c, trickV l d r = c := ⟨_, rfl⟩
  rw [hc] at HC hcb HM hbb
  clear hc
  have HB := Lib.hid (show bonusI c l v = (if 100 ≤ c then (if v = true then 500 else 300) else 50) + (if l = 6 then (if v = true then 750 else 500) else if l = 7 then (if v = true then 1500 else 1000) else 0) from rfl)
  go_enter Tryz.func95, Tryz.ntmps95
  go_wp2_with fail
  refine (HC.out _).mono ?_
  rintro ee w1 ⟨rfl, hb1⟩
  have k0 := blk_below (blk_new (w := w) (.cells #[.int .u8 l, .int .u8 d, .int .u8 r, .int .u8 s] 45) rfl) hb1 (by simp)
  have hb0 := below_box hb1
  obtain ⟨g, hg⟩ : ∃ g, w.heap.size = g := ⟨_, rfl⟩
  rw [hg] at k0
  have HK := Lib.hid k0
  clear hb1 k0
  rw [hg]
  have HG := Lib.hid hg
  clear hg
  obtain ⟨c1, hc1⟩ : ∃ c1, c + (if 100 ≤ c then (if v = true then 500 else 300) else 50) = c1 := ⟨_, rfl⟩
  obtain ⟨b2, hb2⟩ : ∃ b2 : Int, (if l = 6 then (if v = true then 750 else 500) else if l = 7 then (if v = true then 1500 else 1000) else 0) = b2 := ⟨_, rfl⟩
  have hB : c + bonusI c l v = c1 + b2 := by rw [HB.out, ← hc1, ← hb2]; omega
  have HC1 := Lib.hid hc1
  have HB2 := Lib.hid hb2
  have hc1b : 70 ≤ c1 ∧ c1 ≤ 1380 := by rw [← hc1]; split <;> (try split) <;> omega
  have hb2b : 0 ≤ b2 ∧ b2 ≤ 1500 := by rw [← hb2]; (repeat' split) <;> omega
  rw [hB] at HM
  clear hc1 hb2 hB HB
  go_upto_if 13 with fail
  go_cut [7] (fun x wz => x = .int .i64 c1 ∧ wz = w1)
  case first =>
    by_cases h1 : c < 100
    · have e := HC1.out
      rw [if_neg (by omega)] at e
      have hw : IntKind.i64.wrap (c + 50) = c1 := (IntWalk.i64_in _ (by omega)).trans e
      clear e
      go_wp2_with fail
      go_meet
      exact ⟨rfl, rfl⟩
    · have e := HC1.out
      rw [if_pos (by omega)] at e
      cases v
      · have hw : IntKind.i64.wrap (c + 300) = c1 := (IntWalk.i64_in _ (by omega)).trans e
        clear e
        go_wp2_with fail
        go_meet
        exact ⟨rfl, rfl⟩
      · have hw : IntKind.i64.wrap (c + 500) = c1 := (IntWalk.i64_in _ (by omega)).trans e
        clear e
        go_wp2_with fail
        go_meet
        exact ⟨rfl, rfl⟩
  case rest =>
  obtain ⟨rfl, rfl⟩ := hcut
  rename World => w1
  have q0 := blk_cell HK.out 0
  have q1 := blk_cell HK.out 1
  have q2 := blk_cell HK.out 2
  have q3 := blk_cell HK.out 3
  have hlt : l = 6 ∨ l = 7 ∨ (¬ l = 6 ∧ ¬ l = 7) := by omega
  have hrr : r = 0 ∨ r = 1 ∨ r = 2 := by omega
  have hN0 : 0 ≤ t - (6 + l) := by omega
  rcases hlt with h6 | h6 | ⟨h6, h7⟩ <;> cases v <;> rcases hrr with rfl | rfl | rfl
  · have bl6 : (l == 6) = true := beq_iff_eq.2 h6
    have bl7 : (l == 7) = false := beq_eq_false_iff_ne.2 (by omega)
    obtain rfl : 500 = b2 := by rw [← HB2.out, if_pos h6]; rfl
    clear h6
    have hE : eachI d 0 false = valI d := rfl
    rw [hE] at HM
    generalize valI d = x at HM HV hvd
    obtain ⟨Z, hZ⟩ : ∃ Z, c1 + 500 + 0 = Z := ⟨_, rfl⟩
    have hMZ : ∀ k : Nat, (k : Int) = t - (6 + l) → madeI l d 0 (t - (6 + l)) false = Z + (k : Int) * x := fun k hk => by rw [HM.out, hk, ← hZ]; rfl
    have HMZ := Lib.hid hMZ
    clear hMZ hE
    have hst : ∀ k : Nat, (k : Int) ≤ 7 → Z + (k : Int) * x + x = Z + ((k + 1 : Nat) : Int) * x ∧ 0 ≤ Z + (k : Int) * x ∧ Z + (k : Int) * x ≤ 8000 := fun k hk => by
      rcases hvd with rfl | rfl <;> (push_cast; omega)
    go_wp2_with fail
    refine (HN.out _).mono ?_
    rintro ee w2 ⟨rfl, hb2⟩
    have HK2 := Lib.hid (blk_below HK.out hb2 (blk_lt HK.out))
    have hB2 := below_via hb0 hb2
    clear q0 q1 q2 q3 hb2
    have q1 := blk_cell HK2.out 1
    have q2 := blk_cell HK2.out 2
    go_upto_region 20 with fail
    go_loopw [8, 7] (fun i y wr => ∃ k : Nat, 6 + l + (k : Int) ≤ t ∧ i = .int .i64 (6 + l + (k : Int)) ∧ y = .int .i64 (Z + (k : Int) * x) ∧ wr = w2) (fun i _ _ => 20 - (intOf i).toNat)
    case atStart => exact ⟨0, by omega, congrArg (Value.int .i64) (by omega), congrArg (Value.int .i64) (by rw [← hZ]; simp), rfl⟩
    case round =>
      obtain ⟨k, hk, rfl, rfl, rfl⟩ := hrel
      obtain ⟨h1, h2, h3⟩ := hst k (by omega)
      by_cases hkt : 6 + l + (k : Int) < t
      · obtain ⟨y2, hy2⟩ : ∃ y2, Z + ((k + 1 : Nat) : Int) * x = y2 := ⟨_, rfl⟩
        have Hy2 := Lib.hid hy2
        rw [hy2] at h1
        clear hy2
        generalize Z + (k : Int) * x = y at *
        go_wp2_with fail
        refine (HV.out _).mono ?_
        rintro ee wv ⟨rfl, rfl⟩
        go_wp2
        go_roundw
        case rel => exact ⟨k + 1, by omega, by go_num, by rw [Hy2.out, ← h1], by first | rfl | trivial⟩
        case measure => simp [intOf]; omega
      · have hkk : (k : Int) = t - (6 + l) := by omega
        have hM := HMZ.out k hkk
        have HMr := Lib.hid hM
        generalize Z + (k : Int) * x = y at *
        go_wp2
        go_ret
        first | exact ⟨rfl, hB2⟩ | exact ⟨(congrArg (fun n => Ending.returned (Value.int IntKind.i64 n)) hM).symm, hB2⟩
  · have bl6 : (l == 6) = true := beq_iff_eq.2 h6
    have bl7 : (l == 7) = false := beq_eq_false_iff_ne.2 (by omega)
    obtain rfl : 500 = b2 := by rw [← HB2.out, if_pos h6]; rfl
    clear h6
    have hE : eachI d 1 false = 100 := rfl
    rw [hE] at HM
    obtain ⟨Z, hZ⟩ : ∃ Z, c1 + 500 + 50 = Z := ⟨_, rfl⟩
    have hMZ : ∀ k : Nat, (k : Int) = t - (6 + l) → madeI l d 1 (t - (6 + l)) false = Z + (k : Int) * 100 := fun k hk => by rw [HM.out, hk, ← hZ]; rfl
    have HMZ := Lib.hid hMZ
    clear hMZ hE
    have hst : ∀ k : Nat, (k : Int) ≤ 7 → Z + (k : Int) * 100 + 100 = Z + ((k + 1 : Nat) : Int) * 100 ∧ 0 ≤ Z + (k : Int) * 100 ∧ Z + (k : Int) * 100 ≤ 8000 := fun k hk => by
      push_cast; omega
    go_wp2_with fail
    refine (HN.out _).mono ?_
    rintro ee w2 ⟨rfl, hb2⟩
    have HK2 := Lib.hid (blk_below HK.out hb2 (blk_lt HK.out))
    have hB2 := below_via hb0 hb2
    clear q0 q1 q2 q3 hb2
    have q1 := blk_cell HK2.out 1
    have q2 := blk_cell HK2.out 2
    go_upto_region 20 with fail
    go_loopw [8, 7] (fun i y wr => ∃ k : Nat, 6 + l + (k : Int) ≤ t ∧ i = .int .i64 (6 + l + (k : Int)) ∧ y = .int .i64 (Z + (k : Int) * 100) ∧ wr = w2) (fun i _ _ => 20 - (intOf i).toNat)
    case atStart => exact ⟨0, by omega, congrArg (Value.int .i64) (by omega), congrArg (Value.int .i64) (by rw [← hZ]; simp), rfl⟩
    case round =>
      obtain ⟨k, hk, rfl, rfl, rfl⟩ := hrel
      obtain ⟨h1, h2, h3⟩ := hst k (by omega)
      by_cases hkt : 6 + l + (k : Int) < t
      · obtain ⟨y2, hy2⟩ : ∃ y2, Z + ((k + 1 : Nat) : Int) * 100 = y2 := ⟨_, rfl⟩
        have Hy2 := Lib.hid hy2
        rw [hy2] at h1
        clear hy2
        generalize Z + (k : Int) * 100 = y at *
        go_wp2
        go_roundw
        case rel => exact ⟨k + 1, by omega, by go_num, by rw [Hy2.out, ← h1], by first | rfl | trivial⟩
        case measure => simp [intOf]; omega
      · have hkk : (k : Int) = t - (6 + l) := by omega
        have hM := HMZ.out k hkk
        have HMr := Lib.hid hM
        generalize Z + (k : Int) * 100 = y at *
        go_wp2
        go_ret
        first | exact ⟨rfl, hB2⟩ | exact ⟨(congrArg (fun n => Ending.returned (Value.int IntKind.i64 n)) hM).symm, hB2⟩
  · have bl6 : (l == 6) = true := beq_iff_eq.2 h6
    have bl7 : (l == 7) = false := beq_eq_false_iff_ne.2 (by omega)
    obtain rfl : 500 = b2 := by rw [← HB2.out, if_pos h6]; rfl
    clear h6
    have hE : eachI d 2 false = 200 := rfl
    rw [hE] at HM
    obtain ⟨Z, hZ⟩ : ∃ Z, c1 + 500 + 100 = Z := ⟨_, rfl⟩
    have hMZ : ∀ k : Nat, (k : Int) = t - (6 + l) → madeI l d 2 (t - (6 + l)) false = Z + (k : Int) * 200 := fun k hk => by rw [HM.out, hk, ← hZ]; rfl
    have HMZ := Lib.hid hMZ
    clear hMZ hE
    have hst : ∀ k : Nat, (k : Int) ≤ 7 → Z + (k : Int) * 200 + 200 = Z + ((k + 1 : Nat) : Int) * 200 ∧ 0 ≤ Z + (k : Int) * 200 ∧ Z + (k : Int) * 200 ≤ 8000 := fun k hk => by
      push_cast; omega
    go_wp2_with fail
    refine (HN.out _).mono ?_
    rintro ee w2 ⟨rfl, hb2⟩
    have HK2 := Lib.hid (blk_below HK.out hb2 (blk_lt HK.out))
    have hB2 := below_via hb0 hb2
    clear q0 q1 q2 q3 hb2
    have q1 := blk_cell HK2.out 1
    have q2 := blk_cell HK2.out 2
    go_upto_region 20 with fail
    go_loopw [8, 7] (fun i y wr => ∃ k : Nat, 6 + l + (k : Int) ≤ t ∧ i = .int .i64 (6 + l + (k : Int)) ∧ y = .int .i64 (Z + (k : Int) * 200) ∧ wr = w2) (fun i _ _ => 20 - (intOf i).toNat)
    case atStart => exact ⟨0, by omega, congrArg (Value.int .i64) (by omega), congrArg (Value.int .i64) (by rw [← hZ]; simp), rfl⟩
    case round =>
      obtain ⟨k, hk, rfl, rfl, rfl⟩ := hrel
      obtain ⟨h1, h2, h3⟩ := hst k (by omega)
      by_cases hkt : 6 + l + (k : Int) < t
      · obtain ⟨y2, hy2⟩ : ∃ y2, Z + ((k + 1 : Nat) : Int) * 200 = y2 := ⟨_, rfl⟩
        have Hy2 := Lib.hid hy2
        rw [hy2] at h1
        clear hy2
        generalize Z + (k : Int) * 200 = y at *
        go_wp2
        go_roundw
        case rel => exact ⟨k + 1, by omega, by go_num, by rw [Hy2.out, ← h1], by first | rfl | trivial⟩
        case measure => simp [intOf]; omega
      · have hkk : (k : Int) = t - (6 + l) := by omega
        have hM := HMZ.out k hkk
        have HMr := Lib.hid hM
        generalize Z + (k : Int) * 200 = y at *
        go_wp2
        go_ret
        first | exact ⟨rfl, hB2⟩ | exact ⟨(congrArg (fun n => Ending.returned (Value.int IntKind.i64 n)) hM).symm, hB2⟩
  · have bl6 : (l == 6) = true := beq_iff_eq.2 h6
    have bl7 : (l == 7) = false := beq_eq_false_iff_ne.2 (by omega)
    obtain rfl : 750 = b2 := by rw [← HB2.out, if_pos h6]; rfl
    clear h6
    have hE : eachI d 0 true = valI d := rfl
    rw [hE] at HM
    generalize valI d = x at HM HV hvd
    obtain ⟨Z, hZ⟩ : ∃ Z, c1 + 750 + 0 = Z := ⟨_, rfl⟩
    have hMZ : ∀ k : Nat, (k : Int) = t - (6 + l) → madeI l d 0 (t - (6 + l)) true = Z + (k : Int) * x := fun k hk => by rw [HM.out, hk, ← hZ]; rfl
    have HMZ := Lib.hid hMZ
    clear hMZ hE
    have hst : ∀ k : Nat, (k : Int) ≤ 7 → Z + (k : Int) * x + x = Z + ((k + 1 : Nat) : Int) * x ∧ 0 ≤ Z + (k : Int) * x ∧ Z + (k : Int) * x ≤ 8000 := fun k hk => by
      rcases hvd with rfl | rfl <;> (push_cast; omega)
    go_wp2_with fail
    refine (HN.out _).mono ?_
    rintro ee w2 ⟨rfl, hb2⟩
    have HK2 := Lib.hid (blk_below HK.out hb2 (blk_lt HK.out))
    have hB2 := below_via hb0 hb2
    clear q0 q1 q2 q3 hb2
    have q1 := blk_cell HK2.out 1
    have q2 := blk_cell HK2.out 2
    go_upto_region 20 with fail
    go_loopw [8, 7] (fun i y wr => ∃ k : Nat, 6 + l + (k : Int) ≤ t ∧ i = .int .i64 (6 + l + (k : Int)) ∧ y = .int .i64 (Z + (k : Int) * x) ∧ wr = w2) (fun i _ _ => 20 - (intOf i).toNat)
    case atStart => exact ⟨0, by omega, congrArg (Value.int .i64) (by omega), congrArg (Value.int .i64) (by rw [← hZ]; simp), rfl⟩
    case round =>
      obtain ⟨k, hk, rfl, rfl, rfl⟩ := hrel
      obtain ⟨h1, h2, h3⟩ := hst k (by omega)
      by_cases hkt : 6 + l + (k : Int) < t
      · obtain ⟨y2, hy2⟩ : ∃ y2, Z + ((k + 1 : Nat) : Int) * x = y2 := ⟨_, rfl⟩
        have Hy2 := Lib.hid hy2
        rw [hy2] at h1
        clear hy2
        generalize Z + (k : Int) * x = y at *
        go_wp2_with fail
        refine (HV.out _).mono ?_
        rintro ee wv ⟨rfl, rfl⟩
        go_wp2
        go_roundw
        case rel => exact ⟨k + 1, by omega, by go_num, by rw [Hy2.out, ← h1], by first | rfl | trivial⟩
        case measure => simp [intOf]; omega
      · have hkk : (k : Int) = t - (6 + l) := by omega
        have hM := HMZ.out k hkk
        have HMr := Lib.hid hM
        generalize Z + (k : Int) * x = y at *
        go_wp2
        go_ret
        first | exact ⟨rfl, hB2⟩ | exact ⟨(congrArg (fun n => Ending.returned (Value.int IntKind.i64 n)) hM).symm, hB2⟩
  · have bl6 : (l == 6) = true := beq_iff_eq.2 h6
    have bl7 : (l == 7) = false := beq_eq_false_iff_ne.2 (by omega)
    obtain rfl : 750 = b2 := by rw [← HB2.out, if_pos h6]; rfl
    clear h6
    have hE : eachI d 1 true = 200 := rfl
    rw [hE] at HM
    obtain ⟨Z, hZ⟩ : ∃ Z, c1 + 750 + 50 = Z := ⟨_, rfl⟩
    have hMZ : ∀ k : Nat, (k : Int) = t - (6 + l) → madeI l d 1 (t - (6 + l)) true = Z + (k : Int) * 200 := fun k hk => by rw [HM.out, hk, ← hZ]; rfl
    have HMZ := Lib.hid hMZ
    clear hMZ hE
    have hst : ∀ k : Nat, (k : Int) ≤ 7 → Z + (k : Int) * 200 + 200 = Z + ((k + 1 : Nat) : Int) * 200 ∧ 0 ≤ Z + (k : Int) * 200 ∧ Z + (k : Int) * 200 ≤ 8000 := fun k hk => by
      push_cast; omega
    go_wp2_with fail
    refine (HN.out _).mono ?_
    rintro ee w2 ⟨rfl, hb2⟩
    have HK2 := Lib.hid (blk_below HK.out hb2 (blk_lt HK.out))
    have hB2 := below_via hb0 hb2
    clear q0 q1 q2 q3 hb2
    have q1 := blk_cell HK2.out 1
    have q2 := blk_cell HK2.out 2
    go_upto_region 20 with fail
    go_loopw [8, 7] (fun i y wr => ∃ k : Nat, 6 + l + (k : Int) ≤ t ∧ i = .int .i64 (6 + l + (k : Int)) ∧ y = .int .i64 (Z + (k : Int) * 200) ∧ wr = w2) (fun i _ _ => 20 - (intOf i).toNat)
    case atStart => exact ⟨0, by omega, congrArg (Value.int .i64) (by omega), congrArg (Value.int .i64) (by rw [← hZ]; simp), rfl⟩
    case round =>
      obtain ⟨k, hk, rfl, rfl, rfl⟩ := hrel
      obtain ⟨h1, h2, h3⟩ := hst k (by omega)
      by_cases hkt : 6 + l + (k : Int) < t
      · obtain ⟨y2, hy2⟩ : ∃ y2, Z + ((k + 1 : Nat) : Int) * 200 = y2 := ⟨_, rfl⟩
        have Hy2 := Lib.hid hy2
        rw [hy2] at h1
        clear hy2
        generalize Z + (k : Int) * 200 = y at *
        go_wp2
        go_roundw
        case rel => exact ⟨k + 1, by omega, by go_num, by rw [Hy2.out, ← h1], by first | rfl | trivial⟩
        case measure => simp [intOf]; omega
      · have hkk : (k : Int) = t - (6 + l) := by omega
        have hM := HMZ.out k hkk
        have HMr := Lib.hid hM
        generalize Z + (k : Int) * 200 = y at *
        go_wp2
        go_ret
        first | exact ⟨rfl, hB2⟩ | exact ⟨(congrArg (fun n => Ending.returned (Value.int IntKind.i64 n)) hM).symm, hB2⟩
  · have bl6 : (l == 6) = true := beq_iff_eq.2 h6
    have bl7 : (l == 7) = false := beq_eq_false_iff_ne.2 (by omega)
    obtain rfl : 750 = b2 := by rw [← HB2.out, if_pos h6]; rfl
    clear h6
    have hE : eachI d 2 true = 400 := rfl
    rw [hE] at HM
    obtain ⟨Z, hZ⟩ : ∃ Z, c1 + 750 + 100 = Z := ⟨_, rfl⟩
    have hMZ : ∀ k : Nat, (k : Int) = t - (6 + l) → madeI l d 2 (t - (6 + l)) true = Z + (k : Int) * 400 := fun k hk => by rw [HM.out, hk, ← hZ]; rfl
    have HMZ := Lib.hid hMZ
    clear hMZ hE
    have hst : ∀ k : Nat, (k : Int) ≤ 7 → Z + (k : Int) * 400 + 400 = Z + ((k + 1 : Nat) : Int) * 400 ∧ 0 ≤ Z + (k : Int) * 400 ∧ Z + (k : Int) * 400 ≤ 8000 := fun k hk => by
      push_cast; omega
    go_wp2_with fail
    refine (HN.out _).mono ?_
    rintro ee w2 ⟨rfl, hb2⟩
    have HK2 := Lib.hid (blk_below HK.out hb2 (blk_lt HK.out))
    have hB2 := below_via hb0 hb2
    clear q0 q1 q2 q3 hb2
    have q1 := blk_cell HK2.out 1
    have q2 := blk_cell HK2.out 2
    go_upto_region 20 with fail
    go_loopw [8, 7] (fun i y wr => ∃ k : Nat, 6 + l + (k : Int) ≤ t ∧ i = .int .i64 (6 + l + (k : Int)) ∧ y = .int .i64 (Z + (k : Int) * 400) ∧ wr = w2) (fun i _ _ => 20 - (intOf i).toNat)
    case atStart => exact ⟨0, by omega, congrArg (Value.int .i64) (by omega), congrArg (Value.int .i64) (by rw [← hZ]; simp), rfl⟩
    case round =>
      obtain ⟨k, hk, rfl, rfl, rfl⟩ := hrel
      obtain ⟨h1, h2, h3⟩ := hst k (by omega)
      by_cases hkt : 6 + l + (k : Int) < t
      · obtain ⟨y2, hy2⟩ : ∃ y2, Z + ((k + 1 : Nat) : Int) * 400 = y2 := ⟨_, rfl⟩
        have Hy2 := Lib.hid hy2
        rw [hy2] at h1
        clear hy2
        generalize Z + (k : Int) * 400 = y at *
        go_wp2
        go_roundw
        case rel => exact ⟨k + 1, by omega, by go_num, by rw [Hy2.out, ← h1], by first | rfl | trivial⟩
        case measure => simp [intOf]; omega
      · have hkk : (k : Int) = t - (6 + l) := by omega
        have hM := HMZ.out k hkk
        have HMr := Lib.hid hM
        generalize Z + (k : Int) * 400 = y at *
        go_wp2
        go_ret
        first | exact ⟨rfl, hB2⟩ | exact ⟨(congrArg (fun n => Ending.returned (Value.int IntKind.i64 n)) hM).symm, hB2⟩
  · have bl6 : (l == 6) = false := beq_eq_false_iff_ne.2 (by omega)
    have bl7 : (l == 7) = true := beq_iff_eq.2 h6
    obtain rfl : 1000 = b2 := by rw [← HB2.out, if_neg (by omega), if_pos h6]; rfl
    clear h6
    have hE : eachI d 0 false = valI d := rfl
    rw [hE] at HM
    generalize valI d = x at HM HV hvd
    obtain ⟨Z, hZ⟩ : ∃ Z, c1 + 1000 + 0 = Z := ⟨_, rfl⟩
    have hMZ : ∀ k : Nat, (k : Int) = t - (6 + l) → madeI l d 0 (t - (6 + l)) false = Z + (k : Int) * x := fun k hk => by rw [HM.out, hk, ← hZ]; rfl
    have HMZ := Lib.hid hMZ
    clear hMZ hE
    have hst : ∀ k : Nat, (k : Int) ≤ 7 → Z + (k : Int) * x + x = Z + ((k + 1 : Nat) : Int) * x ∧ 0 ≤ Z + (k : Int) * x ∧ Z + (k : Int) * x ≤ 8000 := fun k hk => by
      rcases hvd with rfl | rfl <;> (push_cast; omega)
    go_wp2_with fail
    refine (HN.out _).mono ?_
    rintro ee w2 ⟨rfl, hb2⟩
    have HK2 := Lib.hid (blk_below HK.out hb2 (blk_lt HK.out))
    have hB2 := below_via hb0 hb2
    clear q0 q1 q2 q3 hb2
    have q1 := blk_cell HK2.out 1
    have q2 := blk_cell HK2.out 2
    go_upto_region 20 with fail
    go_loopw [8, 7] (fun i y wr => ∃ k : Nat, 6 + l + (k : Int) ≤ t ∧ i = .int .i64 (6 + l + (k : Int)) ∧ y = .int .i64 (Z + (k : Int) * x) ∧ wr = w2) (fun i _ _ => 20 - (intOf i).toNat)
    case atStart => exact ⟨0, by omega, congrArg (Value.int .i64) (by omega), congrArg (Value.int .i64) (by rw [← hZ]; simp), rfl⟩
    case round =>
      obtain ⟨k, hk, rfl, rfl, rfl⟩ := hrel
      obtain ⟨h1, h2, h3⟩ := hst k (by omega)
      by_cases hkt : 6 + l + (k : Int) < t
      · obtain ⟨y2, hy2⟩ : ∃ y2, Z + ((k + 1 : Nat) : Int) * x = y2 := ⟨_, rfl⟩
        have Hy2 := Lib.hid hy2
        rw [hy2] at h1
        clear hy2
        generalize Z + (k : Int) * x = y at *
        go_wp2_with fail
        refine (HV.out _).mono ?_
        rintro ee wv ⟨rfl, rfl⟩
        go_wp2
        go_roundw
        case rel => exact ⟨k + 1, by omega, by go_num, by rw [Hy2.out, ← h1], by first | rfl | trivial⟩
        case measure => simp [intOf]; omega
      · have hkk : (k : Int) = t - (6 + l) := by omega
        have hM := HMZ.out k hkk
        have HMr := Lib.hid hM
        generalize Z + (k : Int) * x = y at *
        go_wp2
        go_ret
        first | exact ⟨rfl, hB2⟩ | exact ⟨(congrArg (fun n => Ending.returned (Value.int IntKind.i64 n)) hM).symm, hB2⟩
  · have bl6 : (l == 6) = false := beq_eq_false_iff_ne.2 (by omega)
    have bl7 : (l == 7) = true := beq_iff_eq.2 h6
    obtain rfl : 1000 = b2 := by rw [← HB2.out, if_neg (by omega), if_pos h6]; rfl
    clear h6
    have hE : eachI d 1 false = 100 := rfl
    rw [hE] at HM
    obtain ⟨Z, hZ⟩ : ∃ Z, c1 + 1000 + 50 = Z := ⟨_, rfl⟩
    have hMZ : ∀ k : Nat, (k : Int) = t - (6 + l) → madeI l d 1 (t - (6 + l)) false = Z + (k : Int) * 100 := fun k hk => by rw [HM.out, hk, ← hZ]; rfl
    have HMZ := Lib.hid hMZ
    clear hMZ hE
    have hst : ∀ k : Nat, (k : Int) ≤ 7 → Z + (k : Int) * 100 + 100 = Z + ((k + 1 : Nat) : Int) * 100 ∧ 0 ≤ Z + (k : Int) * 100 ∧ Z + (k : Int) * 100 ≤ 8000 := fun k hk => by
      push_cast; omega
    go_wp2_with fail
    refine (HN.out _).mono ?_
    rintro ee w2 ⟨rfl, hb2⟩
    have HK2 := Lib.hid (blk_below HK.out hb2 (blk_lt HK.out))
    have hB2 := below_via hb0 hb2
    clear q0 q1 q2 q3 hb2
    have q1 := blk_cell HK2.out 1
    have q2 := blk_cell HK2.out 2
    go_upto_region 20 with fail
    go_loopw [8, 7] (fun i y wr => ∃ k : Nat, 6 + l + (k : Int) ≤ t ∧ i = .int .i64 (6 + l + (k : Int)) ∧ y = .int .i64 (Z + (k : Int) * 100) ∧ wr = w2) (fun i _ _ => 20 - (intOf i).toNat)
    case atStart => exact ⟨0, by omega, congrArg (Value.int .i64) (by omega), congrArg (Value.int .i64) (by rw [← hZ]; simp), rfl⟩
    case round =>
      obtain ⟨k, hk, rfl, rfl, rfl⟩ := hrel
      obtain ⟨h1, h2, h3⟩ := hst k (by omega)
      by_cases hkt : 6 + l + (k : Int) < t
      · obtain ⟨y2, hy2⟩ : ∃ y2, Z + ((k + 1 : Nat) : Int) * 100 = y2 := ⟨_, rfl⟩
        have Hy2 := Lib.hid hy2
        rw [hy2] at h1
        clear hy2
        generalize Z + (k : Int) * 100 = y at *
        go_wp2
        go_roundw
        case rel => exact ⟨k + 1, by omega, by go_num, by rw [Hy2.out, ← h1], by first | rfl | trivial⟩
        case measure => simp [intOf]; omega
      · have hkk : (k : Int) = t - (6 + l) := by omega
        have hM := HMZ.out k hkk
        have HMr := Lib.hid hM
        generalize Z + (k : Int) * 100 = y at *
        go_wp2
        go_ret
        first | exact ⟨rfl, hB2⟩ | exact ⟨(congrArg (fun n => Ending.returned (Value.int IntKind.i64 n)) hM).symm, hB2⟩
  · have bl6 : (l == 6) = false := beq_eq_false_iff_ne.2 (by omega)
    have bl7 : (l == 7) = true := beq_iff_eq.2 h6
    obtain rfl : 1000 = b2 := by rw [← HB2.out, if_neg (by omega), if_pos h6]; rfl
    clear h6
    have hE : eachI d 2 false = 200 := rfl
    rw [hE] at HM
    obtain ⟨Z, hZ⟩ : ∃ Z, c1 + 1000 + 100 = Z := ⟨_, rfl⟩
    have hMZ : ∀ k : Nat, (k : Int) = t - (6 + l) → madeI l d 2 (t - (6 + l)) false = Z + (k : Int) * 200 := fun k hk => by rw [HM.out, hk, ← hZ]; rfl
    have HMZ := Lib.hid hMZ
    clear hMZ hE
    have hst : ∀ k : Nat, (k : Int) ≤ 7 → Z + (k : Int) * 200 + 200 = Z + ((k + 1 : Nat) : Int) * 200 ∧ 0 ≤ Z + (k : Int) * 200 ∧ Z + (k : Int) * 200 ≤ 8000 := fun k hk => by
      push_cast; omega
    go_wp2_with fail
    refine (HN.out _).mono ?_
    rintro ee w2 ⟨rfl, hb2⟩
    have HK2 := Lib.hid (blk_below HK.out hb2 (blk_lt HK.out))
    have hB2 := below_via hb0 hb2
    clear q0 q1 q2 q3 hb2
    have q1 := blk_cell HK2.out 1
    have q2 := blk_cell HK2.out 2
    go_upto_region 20 with fail
    go_loopw [8, 7] (fun i y wr => ∃ k : Nat, 6 + l + (k : Int) ≤ t ∧ i = .int .i64 (6 + l + (k : Int)) ∧ y = .int .i64 (Z + (k : Int) * 200) ∧ wr = w2) (fun i _ _ => 20 - (intOf i).toNat)
    case atStart => exact ⟨0, by omega, congrArg (Value.int .i64) (by omega), congrArg (Value.int .i64) (by rw [← hZ]; simp), rfl⟩
    case round =>
      obtain ⟨k, hk, rfl, rfl, rfl⟩ := hrel
      obtain ⟨h1, h2, h3⟩ := hst k (by omega)
      by_cases hkt : 6 + l + (k : Int) < t
      · obtain ⟨y2, hy2⟩ : ∃ y2, Z + ((k + 1 : Nat) : Int) * 200 = y2 := ⟨_, rfl⟩
        have Hy2 := Lib.hid hy2
        rw [hy2] at h1
        clear hy2
        generalize Z + (k : Int) * 200 = y at *
        go_wp2
        go_roundw
        case rel => exact ⟨k + 1, by omega, by go_num, by rw [Hy2.out, ← h1], by first | rfl | trivial⟩
        case measure => simp [intOf]; omega
      · have hkk : (k : Int) = t - (6 + l) := by omega
        have hM := HMZ.out k hkk
        have HMr := Lib.hid hM
        generalize Z + (k : Int) * 200 = y at *
        go_wp2
        go_ret
        first | exact ⟨rfl, hB2⟩ | exact ⟨(congrArg (fun n => Ending.returned (Value.int IntKind.i64 n)) hM).symm, hB2⟩
  · have bl6 : (l == 6) = false := beq_eq_false_iff_ne.2 (by omega)
    have bl7 : (l == 7) = true := beq_iff_eq.2 h6
    obtain rfl : 1500 = b2 := by rw [← HB2.out, if_neg (by omega), if_pos h6]; rfl
    clear h6
    have hE : eachI d 0 true = valI d := rfl
    rw [hE] at HM
    generalize valI d = x at HM HV hvd
    obtain ⟨Z, hZ⟩ : ∃ Z, c1 + 1500 + 0 = Z := ⟨_, rfl⟩
    have hMZ : ∀ k : Nat, (k : Int) = t - (6 + l) → madeI l d 0 (t - (6 + l)) true = Z + (k : Int) * x := fun k hk => by rw [HM.out, hk, ← hZ]; rfl
    have HMZ := Lib.hid hMZ
    clear hMZ hE
    have hst : ∀ k : Nat, (k : Int) ≤ 7 → Z + (k : Int) * x + x = Z + ((k + 1 : Nat) : Int) * x ∧ 0 ≤ Z + (k : Int) * x ∧ Z + (k : Int) * x ≤ 8000 := fun k hk => by
      rcases hvd with rfl | rfl <;> (push_cast; omega)
    go_wp2_with fail
    refine (HN.out _).mono ?_
    rintro ee w2 ⟨rfl, hb2⟩
    have HK2 := Lib.hid (blk_below HK.out hb2 (blk_lt HK.out))
    have hB2 := below_via hb0 hb2
    clear q0 q1 q2 q3 hb2
    have q1 := blk_cell HK2.out 1
    have q2 := blk_cell HK2.out 2
    go_upto_region 20 with fail
    go_loopw [8, 7] (fun i y wr => ∃ k : Nat, 6 + l + (k : Int) ≤ t ∧ i = .int .i64 (6 + l + (k : Int)) ∧ y = .int .i64 (Z + (k : Int) * x) ∧ wr = w2) (fun i _ _ => 20 - (intOf i).toNat)
    case atStart => exact ⟨0, by omega, congrArg (Value.int .i64) (by omega), congrArg (Value.int .i64) (by rw [← hZ]; simp), rfl⟩
    case round =>
      obtain ⟨k, hk, rfl, rfl, rfl⟩ := hrel
      obtain ⟨h1, h2, h3⟩ := hst k (by omega)
      by_cases hkt : 6 + l + (k : Int) < t
      · obtain ⟨y2, hy2⟩ : ∃ y2, Z + ((k + 1 : Nat) : Int) * x = y2 := ⟨_, rfl⟩
        have Hy2 := Lib.hid hy2
        rw [hy2] at h1
        clear hy2
        generalize Z + (k : Int) * x = y at *
        go_wp2_with fail
        refine (HV.out _).mono ?_
        rintro ee wv ⟨rfl, rfl⟩
        go_wp2
        go_roundw
        case rel => exact ⟨k + 1, by omega, by go_num, by rw [Hy2.out, ← h1], by first | rfl | trivial⟩
        case measure => simp [intOf]; omega
      · have hkk : (k : Int) = t - (6 + l) := by omega
        have hM := HMZ.out k hkk
        have HMr := Lib.hid hM
        generalize Z + (k : Int) * x = y at *
        go_wp2
        go_ret
        first | exact ⟨rfl, hB2⟩ | exact ⟨(congrArg (fun n => Ending.returned (Value.int IntKind.i64 n)) hM).symm, hB2⟩
  · have bl6 : (l == 6) = false := beq_eq_false_iff_ne.2 (by omega)
    have bl7 : (l == 7) = true := beq_iff_eq.2 h6
    obtain rfl : 1500 = b2 := by rw [← HB2.out, if_neg (by omega), if_pos h6]; rfl
    clear h6
    have hE : eachI d 1 true = 200 := rfl
    rw [hE] at HM
    obtain ⟨Z, hZ⟩ : ∃ Z, c1 + 1500 + 50 = Z := ⟨_, rfl⟩
    have hMZ : ∀ k : Nat, (k : Int) = t - (6 + l) → madeI l d 1 (t - (6 + l)) true = Z + (k : Int) * 200 := fun k hk => by rw [HM.out, hk, ← hZ]; rfl
    have HMZ := Lib.hid hMZ
    clear hMZ hE
    have hst : ∀ k : Nat, (k : Int) ≤ 7 → Z + (k : Int) * 200 + 200 = Z + ((k + 1 : Nat) : Int) * 200 ∧ 0 ≤ Z + (k : Int) * 200 ∧ Z + (k : Int) * 200 ≤ 8000 := fun k hk => by
      push_cast; omega
    go_wp2_with fail
    refine (HN.out _).mono ?_
    rintro ee w2 ⟨rfl, hb2⟩
    have HK2 := Lib.hid (blk_below HK.out hb2 (blk_lt HK.out))
    have hB2 := below_via hb0 hb2
    clear q0 q1 q2 q3 hb2
    have q1 := blk_cell HK2.out 1
    have q2 := blk_cell HK2.out 2
    go_upto_region 20 with fail
    go_loopw [8, 7] (fun i y wr => ∃ k : Nat, 6 + l + (k : Int) ≤ t ∧ i = .int .i64 (6 + l + (k : Int)) ∧ y = .int .i64 (Z + (k : Int) * 200) ∧ wr = w2) (fun i _ _ => 20 - (intOf i).toNat)
    case atStart => exact ⟨0, by omega, congrArg (Value.int .i64) (by omega), congrArg (Value.int .i64) (by rw [← hZ]; simp), rfl⟩
    case round =>
      obtain ⟨k, hk, rfl, rfl, rfl⟩ := hrel
      obtain ⟨h1, h2, h3⟩ := hst k (by omega)
      by_cases hkt : 6 + l + (k : Int) < t
      · obtain ⟨y2, hy2⟩ : ∃ y2, Z + ((k + 1 : Nat) : Int) * 200 = y2 := ⟨_, rfl⟩
        have Hy2 := Lib.hid hy2
        rw [hy2] at h1
        clear hy2
        generalize Z + (k : Int) * 200 = y at *
        go_wp2
        go_roundw
        case rel => exact ⟨k + 1, by omega, by go_num, by rw [Hy2.out, ← h1], by first | rfl | trivial⟩
        case measure => simp [intOf]; omega
      · have hkk : (k : Int) = t - (6 + l) := by omega
        have hM := HMZ.out k hkk
        have HMr := Lib.hid hM
        generalize Z + (k : Int) * 200 = y at *
        go_wp2
        go_ret
        first | exact ⟨rfl, hB2⟩ | exact ⟨(congrArg (fun n => Ending.returned (Value.int IntKind.i64 n)) hM).symm, hB2⟩
  · have bl6 : (l == 6) = false := beq_eq_false_iff_ne.2 (by omega)
    have bl7 : (l == 7) = true := beq_iff_eq.2 h6
    obtain rfl : 1500 = b2 := by rw [← HB2.out, if_neg (by omega), if_pos h6]; rfl
    clear h6
    have hE : eachI d 2 true = 400 := rfl
    rw [hE] at HM
    obtain ⟨Z, hZ⟩ : ∃ Z, c1 + 1500 + 100 = Z := ⟨_, rfl⟩
    have hMZ : ∀ k : Nat, (k : Int) = t - (6 + l) → madeI l d 2 (t - (6 + l)) true = Z + (k : Int) * 400 := fun k hk => by rw [HM.out, hk, ← hZ]; rfl
    have HMZ := Lib.hid hMZ
    clear hMZ hE
    have hst : ∀ k : Nat, (k : Int) ≤ 7 → Z + (k : Int) * 400 + 400 = Z + ((k + 1 : Nat) : Int) * 400 ∧ 0 ≤ Z + (k : Int) * 400 ∧ Z + (k : Int) * 400 ≤ 8000 := fun k hk => by
      push_cast; omega
    go_wp2_with fail
    refine (HN.out _).mono ?_
    rintro ee w2 ⟨rfl, hb2⟩
    have HK2 := Lib.hid (blk_below HK.out hb2 (blk_lt HK.out))
    have hB2 := below_via hb0 hb2
    clear q0 q1 q2 q3 hb2
    have q1 := blk_cell HK2.out 1
    have q2 := blk_cell HK2.out 2
    go_upto_region 20 with fail
    go_loopw [8, 7] (fun i y wr => ∃ k : Nat, 6 + l + (k : Int) ≤ t ∧ i = .int .i64 (6 + l + (k : Int)) ∧ y = .int .i64 (Z + (k : Int) * 400) ∧ wr = w2) (fun i _ _ => 20 - (intOf i).toNat)
    case atStart => exact ⟨0, by omega, congrArg (Value.int .i64) (by omega), congrArg (Value.int .i64) (by rw [← hZ]; simp), rfl⟩
    case round =>
      obtain ⟨k, hk, rfl, rfl, rfl⟩ := hrel
      obtain ⟨h1, h2, h3⟩ := hst k (by omega)
      by_cases hkt : 6 + l + (k : Int) < t
      · obtain ⟨y2, hy2⟩ : ∃ y2, Z + ((k + 1 : Nat) : Int) * 400 = y2 := ⟨_, rfl⟩
        have Hy2 := Lib.hid hy2
        rw [hy2] at h1
        clear hy2
        generalize Z + (k : Int) * 400 = y at *
        go_wp2
        go_roundw
        case rel => exact ⟨k + 1, by omega, by go_num, by rw [Hy2.out, ← h1], by first | rfl | trivial⟩
        case measure => simp [intOf]; omega
      · have hkk : (k : Int) = t - (6 + l) := by omega
        have hM := HMZ.out k hkk
        have HMr := Lib.hid hM
        generalize Z + (k : Int) * 400 = y at *
        go_wp2
        go_ret
        first | exact ⟨rfl, hB2⟩ | exact ⟨(congrArg (fun n => Ending.returned (Value.int IntKind.i64 n)) hM).symm, hB2⟩
  · have bl6 : (l == 6) = false := beq_eq_false_iff_ne.2 h6
    have bl7 : (l == 7) = false := beq_eq_false_iff_ne.2 h7
    obtain rfl : (0 : Int) = b2 := by rw [← HB2.out, if_neg h6, if_neg h7]
    clear h6 h7
    have hE : eachI d 0 false = valI d := rfl
    rw [hE] at HM
    generalize valI d = x at HM HV hvd
    obtain ⟨Z, hZ⟩ : ∃ Z, c1 + 0 + 0 = Z := ⟨_, rfl⟩
    have hMZ : ∀ k : Nat, (k : Int) = t - (6 + l) → madeI l d 0 (t - (6 + l)) false = Z + (k : Int) * x := fun k hk => by rw [HM.out, hk, ← hZ]; rfl
    have HMZ := Lib.hid hMZ
    clear hMZ hE
    have hst : ∀ k : Nat, (k : Int) ≤ 7 → Z + (k : Int) * x + x = Z + ((k + 1 : Nat) : Int) * x ∧ 0 ≤ Z + (k : Int) * x ∧ Z + (k : Int) * x ≤ 8000 := fun k hk => by
      rcases hvd with rfl | rfl <;> (push_cast; omega)
    go_wp2_with fail
    refine (HN.out _).mono ?_
    rintro ee w2 ⟨rfl, hb2⟩
    have HK2 := Lib.hid (blk_below HK.out hb2 (blk_lt HK.out))
    have hB2 := below_via hb0 hb2
    clear q0 q1 q2 q3 hb2
    have q1 := blk_cell HK2.out 1
    have q2 := blk_cell HK2.out 2
    go_upto_region 20 with fail
    go_loopw [8, 7] (fun i y wr => ∃ k : Nat, 6 + l + (k : Int) ≤ t ∧ i = .int .i64 (6 + l + (k : Int)) ∧ y = .int .i64 (Z + (k : Int) * x) ∧ wr = w2) (fun i _ _ => 20 - (intOf i).toNat)
    case atStart => exact ⟨0, by omega, congrArg (Value.int .i64) (by omega), congrArg (Value.int .i64) (by rw [← hZ]; simp), rfl⟩
    case round =>
      obtain ⟨k, hk, rfl, rfl, rfl⟩ := hrel
      obtain ⟨h1, h2, h3⟩ := hst k (by omega)
      by_cases hkt : 6 + l + (k : Int) < t
      · obtain ⟨y2, hy2⟩ : ∃ y2, Z + ((k + 1 : Nat) : Int) * x = y2 := ⟨_, rfl⟩
        have Hy2 := Lib.hid hy2
        rw [hy2] at h1
        clear hy2
        generalize Z + (k : Int) * x = y at *
        go_wp2_with fail
        refine (HV.out _).mono ?_
        rintro ee wv ⟨rfl, rfl⟩
        go_wp2
        go_roundw
        case rel => exact ⟨k + 1, by omega, by go_num, by rw [Hy2.out, ← h1], by first | rfl | trivial⟩
        case measure => simp [intOf]; omega
      · have hkk : (k : Int) = t - (6 + l) := by omega
        have hM := HMZ.out k hkk
        have HMr := Lib.hid hM
        generalize Z + (k : Int) * x = y at *
        go_wp2
        go_ret
        first | exact ⟨rfl, hB2⟩ | exact ⟨(congrArg (fun n => Ending.returned (Value.int IntKind.i64 n)) hM).symm, hB2⟩
  · have bl6 : (l == 6) = false := beq_eq_false_iff_ne.2 h6
    have bl7 : (l == 7) = false := beq_eq_false_iff_ne.2 h7
    obtain rfl : (0 : Int) = b2 := by rw [← HB2.out, if_neg h6, if_neg h7]
    clear h6 h7
    have hE : eachI d 1 false = 100 := rfl
    rw [hE] at HM
    obtain ⟨Z, hZ⟩ : ∃ Z, c1 + 0 + 50 = Z := ⟨_, rfl⟩
    have hMZ : ∀ k : Nat, (k : Int) = t - (6 + l) → madeI l d 1 (t - (6 + l)) false = Z + (k : Int) * 100 := fun k hk => by rw [HM.out, hk, ← hZ]; rfl
    have HMZ := Lib.hid hMZ
    clear hMZ hE
    have hst : ∀ k : Nat, (k : Int) ≤ 7 → Z + (k : Int) * 100 + 100 = Z + ((k + 1 : Nat) : Int) * 100 ∧ 0 ≤ Z + (k : Int) * 100 ∧ Z + (k : Int) * 100 ≤ 8000 := fun k hk => by
      push_cast; omega
    go_wp2_with fail
    refine (HN.out _).mono ?_
    rintro ee w2 ⟨rfl, hb2⟩
    have HK2 := Lib.hid (blk_below HK.out hb2 (blk_lt HK.out))
    have hB2 := below_via hb0 hb2
    clear q0 q1 q2 q3 hb2
    have q1 := blk_cell HK2.out 1
    have q2 := blk_cell HK2.out 2
    go_upto_region 20 with fail
    go_loopw [8, 7] (fun i y wr => ∃ k : Nat, 6 + l + (k : Int) ≤ t ∧ i = .int .i64 (6 + l + (k : Int)) ∧ y = .int .i64 (Z + (k : Int) * 100) ∧ wr = w2) (fun i _ _ => 20 - (intOf i).toNat)
    case atStart => exact ⟨0, by omega, congrArg (Value.int .i64) (by omega), congrArg (Value.int .i64) (by rw [← hZ]; simp), rfl⟩
    case round =>
      obtain ⟨k, hk, rfl, rfl, rfl⟩ := hrel
      obtain ⟨h1, h2, h3⟩ := hst k (by omega)
      by_cases hkt : 6 + l + (k : Int) < t
      · obtain ⟨y2, hy2⟩ : ∃ y2, Z + ((k + 1 : Nat) : Int) * 100 = y2 := ⟨_, rfl⟩
        have Hy2 := Lib.hid hy2
        rw [hy2] at h1
        clear hy2
        generalize Z + (k : Int) * 100 = y at *
        go_wp2
        go_roundw
        case rel => exact ⟨k + 1, by omega, by go_num, by rw [Hy2.out, ← h1], by first | rfl | trivial⟩
        case measure => simp [intOf]; omega
      · have hkk : (k : Int) = t - (6 + l) := by omega
        have hM := HMZ.out k hkk
        have HMr := Lib.hid hM
        generalize Z + (k : Int) * 100 = y at *
        go_wp2
        go_ret
        first | exact ⟨rfl, hB2⟩ | exact ⟨(congrArg (fun n => Ending.returned (Value.int IntKind.i64 n)) hM).symm, hB2⟩
  · have bl6 : (l == 6) = false := beq_eq_false_iff_ne.2 h6
    have bl7 : (l == 7) = false := beq_eq_false_iff_ne.2 h7
    obtain rfl : (0 : Int) = b2 := by rw [← HB2.out, if_neg h6, if_neg h7]
    clear h6 h7
    have hE : eachI d 2 false = 200 := rfl
    rw [hE] at HM
    obtain ⟨Z, hZ⟩ : ∃ Z, c1 + 0 + 100 = Z := ⟨_, rfl⟩
    have hMZ : ∀ k : Nat, (k : Int) = t - (6 + l) → madeI l d 2 (t - (6 + l)) false = Z + (k : Int) * 200 := fun k hk => by rw [HM.out, hk, ← hZ]; rfl
    have HMZ := Lib.hid hMZ
    clear hMZ hE
    have hst : ∀ k : Nat, (k : Int) ≤ 7 → Z + (k : Int) * 200 + 200 = Z + ((k + 1 : Nat) : Int) * 200 ∧ 0 ≤ Z + (k : Int) * 200 ∧ Z + (k : Int) * 200 ≤ 8000 := fun k hk => by
      push_cast; omega
    go_wp2_with fail
    refine (HN.out _).mono ?_
    rintro ee w2 ⟨rfl, hb2⟩
    have HK2 := Lib.hid (blk_below HK.out hb2 (blk_lt HK.out))
    have hB2 := below_via hb0 hb2
    clear q0 q1 q2 q3 hb2
    have q1 := blk_cell HK2.out 1
    have q2 := blk_cell HK2.out 2
    go_upto_region 20 with fail
    go_loopw [8, 7] (fun i y wr => ∃ k : Nat, 6 + l + (k : Int) ≤ t ∧ i = .int .i64 (6 + l + (k : Int)) ∧ y = .int .i64 (Z + (k : Int) * 200) ∧ wr = w2) (fun i _ _ => 20 - (intOf i).toNat)
    case atStart => exact ⟨0, by omega, congrArg (Value.int .i64) (by omega), congrArg (Value.int .i64) (by rw [← hZ]; simp), rfl⟩
    case round =>
      obtain ⟨k, hk, rfl, rfl, rfl⟩ := hrel
      obtain ⟨h1, h2, h3⟩ := hst k (by omega)
      by_cases hkt : 6 + l + (k : Int) < t
      · obtain ⟨y2, hy2⟩ : ∃ y2, Z + ((k + 1 : Nat) : Int) * 200 = y2 := ⟨_, rfl⟩
        have Hy2 := Lib.hid hy2
        rw [hy2] at h1
        clear hy2
        generalize Z + (k : Int) * 200 = y at *
        go_wp2
        go_roundw
        case rel => exact ⟨k + 1, by omega, by go_num, by rw [Hy2.out, ← h1], by first | rfl | trivial⟩
        case measure => simp [intOf]; omega
      · have hkk : (k : Int) = t - (6 + l) := by omega
        have hM := HMZ.out k hkk
        have HMr := Lib.hid hM
        generalize Z + (k : Int) * 200 = y at *
        go_wp2
        go_ret
        first | exact ⟨rfl, hB2⟩ | exact ⟨(congrArg (fun n => Ending.returned (Value.int IntKind.i64 n)) hM).symm, hB2⟩
  · have bl6 : (l == 6) = false := beq_eq_false_iff_ne.2 h6
    have bl7 : (l == 7) = false := beq_eq_false_iff_ne.2 h7
    obtain rfl : (0 : Int) = b2 := by rw [← HB2.out, if_neg h6, if_neg h7]
    clear h6 h7
    have hE : eachI d 0 true = valI d := rfl
    rw [hE] at HM
    generalize valI d = x at HM HV hvd
    obtain ⟨Z, hZ⟩ : ∃ Z, c1 + 0 + 0 = Z := ⟨_, rfl⟩
    have hMZ : ∀ k : Nat, (k : Int) = t - (6 + l) → madeI l d 0 (t - (6 + l)) true = Z + (k : Int) * x := fun k hk => by rw [HM.out, hk, ← hZ]; rfl
    have HMZ := Lib.hid hMZ
    clear hMZ hE
    have hst : ∀ k : Nat, (k : Int) ≤ 7 → Z + (k : Int) * x + x = Z + ((k + 1 : Nat) : Int) * x ∧ 0 ≤ Z + (k : Int) * x ∧ Z + (k : Int) * x ≤ 8000 := fun k hk => by
      rcases hvd with rfl | rfl <;> (push_cast; omega)
    go_wp2_with fail
    refine (HN.out _).mono ?_
    rintro ee w2 ⟨rfl, hb2⟩
    have HK2 := Lib.hid (blk_below HK.out hb2 (blk_lt HK.out))
    have hB2 := below_via hb0 hb2
    clear q0 q1 q2 q3 hb2
    have q1 := blk_cell HK2.out 1
    have q2 := blk_cell HK2.out 2
    go_upto_region 20 with fail
    go_loopw [8, 7] (fun i y wr => ∃ k : Nat, 6 + l + (k : Int) ≤ t ∧ i = .int .i64 (6 + l + (k : Int)) ∧ y = .int .i64 (Z + (k : Int) * x) ∧ wr = w2) (fun i _ _ => 20 - (intOf i).toNat)
    case atStart => exact ⟨0, by omega, congrArg (Value.int .i64) (by omega), congrArg (Value.int .i64) (by rw [← hZ]; simp), rfl⟩
    case round =>
      obtain ⟨k, hk, rfl, rfl, rfl⟩ := hrel
      obtain ⟨h1, h2, h3⟩ := hst k (by omega)
      by_cases hkt : 6 + l + (k : Int) < t
      · obtain ⟨y2, hy2⟩ : ∃ y2, Z + ((k + 1 : Nat) : Int) * x = y2 := ⟨_, rfl⟩
        have Hy2 := Lib.hid hy2
        rw [hy2] at h1
        clear hy2
        generalize Z + (k : Int) * x = y at *
        go_wp2_with fail
        refine (HV.out _).mono ?_
        rintro ee wv ⟨rfl, rfl⟩
        go_wp2
        go_roundw
        case rel => exact ⟨k + 1, by omega, by go_num, by rw [Hy2.out, ← h1], by first | rfl | trivial⟩
        case measure => simp [intOf]; omega
      · have hkk : (k : Int) = t - (6 + l) := by omega
        have hM := HMZ.out k hkk
        have HMr := Lib.hid hM
        generalize Z + (k : Int) * x = y at *
        go_wp2
        go_ret
        first | exact ⟨rfl, hB2⟩ | exact ⟨(congrArg (fun n => Ending.returned (Value.int IntKind.i64 n)) hM).symm, hB2⟩
  · have bl6 : (l == 6) = false := beq_eq_false_iff_ne.2 h6
    have bl7 : (l == 7) = false := beq_eq_false_iff_ne.2 h7
    obtain rfl : (0 : Int) = b2 := by rw [← HB2.out, if_neg h6, if_neg h7]
    clear h6 h7
    have hE : eachI d 1 true = 200 := rfl
    rw [hE] at HM
    obtain ⟨Z, hZ⟩ : ∃ Z, c1 + 0 + 50 = Z := ⟨_, rfl⟩
    have hMZ : ∀ k : Nat, (k : Int) = t - (6 + l) → madeI l d 1 (t - (6 + l)) true = Z + (k : Int) * 200 := fun k hk => by rw [HM.out, hk, ← hZ]; rfl
    have HMZ := Lib.hid hMZ
    clear hMZ hE
    have hst : ∀ k : Nat, (k : Int) ≤ 7 → Z + (k : Int) * 200 + 200 = Z + ((k + 1 : Nat) : Int) * 200 ∧ 0 ≤ Z + (k : Int) * 200 ∧ Z + (k : Int) * 200 ≤ 8000 := fun k hk => by
      push_cast; omega
    go_wp2_with fail
    refine (HN.out _).mono ?_
    rintro ee w2 ⟨rfl, hb2⟩
    have HK2 := Lib.hid (blk_below HK.out hb2 (blk_lt HK.out))
    have hB2 := below_via hb0 hb2
    clear q0 q1 q2 q3 hb2
    have q1 := blk_cell HK2.out 1
    have q2 := blk_cell HK2.out 2
    go_upto_region 20 with fail
    go_loopw [8, 7] (fun i y wr => ∃ k : Nat, 6 + l + (k : Int) ≤ t ∧ i = .int .i64 (6 + l + (k : Int)) ∧ y = .int .i64 (Z + (k : Int) * 200) ∧ wr = w2) (fun i _ _ => 20 - (intOf i).toNat)
    case atStart => exact ⟨0, by omega, congrArg (Value.int .i64) (by omega), congrArg (Value.int .i64) (by rw [← hZ]; simp), rfl⟩
    case round =>
      obtain ⟨k, hk, rfl, rfl, rfl⟩ := hrel
      obtain ⟨h1, h2, h3⟩ := hst k (by omega)
      by_cases hkt : 6 + l + (k : Int) < t
      · obtain ⟨y2, hy2⟩ : ∃ y2, Z + ((k + 1 : Nat) : Int) * 200 = y2 := ⟨_, rfl⟩
        have Hy2 := Lib.hid hy2
        rw [hy2] at h1
        clear hy2
        generalize Z + (k : Int) * 200 = y at *
        go_wp2
        go_roundw
        case rel => exact ⟨k + 1, by omega, by go_num, by rw [Hy2.out, ← h1], by first | rfl | trivial⟩
        case measure => simp [intOf]; omega
      · have hkk : (k : Int) = t - (6 + l) := by omega
        have hM := HMZ.out k hkk
        have HMr := Lib.hid hM
        generalize Z + (k : Int) * 200 = y at *
        go_wp2
        go_ret
        first | exact ⟨rfl, hB2⟩ | exact ⟨(congrArg (fun n => Ending.returned (Value.int IntKind.i64 n)) hM).symm, hB2⟩
  · have bl6 : (l == 6) = false := beq_eq_false_iff_ne.2 h6
    have bl7 : (l == 7) = false := beq_eq_false_iff_ne.2 h7
    obtain rfl : (0 : Int) = b2 := by rw [← HB2.out, if_neg h6, if_neg h7]
    clear h6 h7
    have hE : eachI d 2 true = 400 := rfl
    rw [hE] at HM
    obtain ⟨Z, hZ⟩ : ∃ Z, c1 + 0 + 100 = Z := ⟨_, rfl⟩
    have hMZ : ∀ k : Nat, (k : Int) = t - (6 + l) → madeI l d 2 (t - (6 + l)) true = Z + (k : Int) * 400 := fun k hk => by rw [HM.out, hk, ← hZ]; rfl
    have HMZ := Lib.hid hMZ
    clear hMZ hE
    have hst : ∀ k : Nat, (k : Int) ≤ 7 → Z + (k : Int) * 400 + 400 = Z + ((k + 1 : Nat) : Int) * 400 ∧ 0 ≤ Z + (k : Int) * 400 ∧ Z + (k : Int) * 400 ≤ 8000 := fun k hk => by
      push_cast; omega
    go_wp2_with fail
    refine (HN.out _).mono ?_
    rintro ee w2 ⟨rfl, hb2⟩
    have HK2 := Lib.hid (blk_below HK.out hb2 (blk_lt HK.out))
    have hB2 := below_via hb0 hb2
    clear q0 q1 q2 q3 hb2
    have q1 := blk_cell HK2.out 1
    have q2 := blk_cell HK2.out 2
    go_upto_region 20 with fail
    go_loopw [8, 7] (fun i y wr => ∃ k : Nat, 6 + l + (k : Int) ≤ t ∧ i = .int .i64 (6 + l + (k : Int)) ∧ y = .int .i64 (Z + (k : Int) * 400) ∧ wr = w2) (fun i _ _ => 20 - (intOf i).toNat)
    case atStart => exact ⟨0, by omega, congrArg (Value.int .i64) (by omega), congrArg (Value.int .i64) (by rw [← hZ]; simp), rfl⟩
    case round =>
      obtain ⟨k, hk, rfl, rfl, rfl⟩ := hrel
      obtain ⟨h1, h2, h3⟩ := hst k (by omega)
      by_cases hkt : 6 + l + (k : Int) < t
      · obtain ⟨y2, hy2⟩ : ∃ y2, Z + ((k + 1 : Nat) : Int) * 400 = y2 := ⟨_, rfl⟩
        have Hy2 := Lib.hid hy2
        rw [hy2] at h1
        clear hy2
        generalize Z + (k : Int) * 400 = y at *
        go_wp2
        go_roundw
        case rel => exact ⟨k + 1, by omega, by go_num, by rw [Hy2.out, ← h1], by first | rfl | trivial⟩
        case measure => simp [intOf]; omega
      · have hkk : (k : Int) = t - (6 + l) := by omega
        have hM := HMZ.out k hkk
        have HMr := Lib.hid hM
        generalize Z + (k : Int) * 400 = y at *
        go_wp2
        go_ret
        first | exact ⟨rfl, hB2⟩ | exact ⟨(congrArg (fun n => Ending.returned (Value.int IntKind.i64 n)) hM).symm, hB2⟩

/-! ### The reference finesseref17: Points. -/
theorem missI_succ (r : Int) (v : Bool) (k : Nat) : missI r (k + 1) v = missI r k v + lostI r ((k : Int) + 1) v := by
  unfold missI lostI
  have e : (k : Int) + 1 - 1 = k := by omega
  rw [e]
  show (if r = 2 then (sumT r v k + trickI r k v) * 2 else sumT r v k + trickI r k v) = _
  split <;> omega

theorem res_true (l d r s t : Int) (hl : 1 ≤ l ∧ l ≤ 7) (hd : 0 ≤ d ∧ d ≤ 4) (hr : 0 ≤ r ∧ r ≤ 2) (hs : 0 ≤ s ∧ s ≤ 3) (ht : 0 ≤ t ∧ t ≤ 13) : resultC l d r s t = true := by
  unfold resultC
  refine decide_eq_true ⟨by unfold rightC; exact decide_eq_true (.inr (by omega)), by omega, by omega, .inl (by omega)⟩

set_option maxRecDepth 100000 in
set_option maxHeartbeats 2000000 in
theorem r17points (l d r s t : Int) (v : Bool) (hl : 1 ≤ l ∧ l ≤ 7) (hd : 0 ≤ d ∧ d ≤ 4) (hr : 0 ≤ r ∧ r ≤ 2) (hs : 0 ≤ s ∧ s ≤ 3) (ht : 0 ≤ t ∧ t ≤ 13) (w : World) :
    Calls Tryz.prog 74 #[.agg #[.int .u8 l, .int .u8 d, .int .u8 r, .int .u8 s], .int .i64 t, .bool v] w fun e w' => e = .returned (.tuple #[.int .i64 (ptsI l d r t v), .int .i64 0]) ∧ Below w.heap.size w w' := by
  obtain ⟨N, hN⟩ : ∃ N, ptsI l d r t v = N := ⟨_, rfl⟩
  rw [hN]
  have HP := Lib.hid hN
  clear hN
  have HQ := Lib.hid (fun W => r17result l d r s t (by omega) (by omega) (by omega) (by omega) W)
  rw [res_true l d r s t hl hd hr hs ht] at HQ
  have HN := Lib.hid (fun W => r17need l d r s (by omega) (by omega) (by omega) (by omega) W)
  rw [need_six l d r s hl hd hr hs] at HN
  have hl0 : (l == 0) = false := beq_eq_false_iff_ne.2 (by omega)
  go_enter Tryz.func74, Tryz.ntmps74
  go_wp2_with fail
  refine (HQ.out _).mono ?_
  rintro ee w1 ⟨rfl, hb1⟩
  have k0 := blk_below (blk_new (w := w) (.cells #[.int .u8 l, .int .u8 d, .int .u8 r, .int .u8 s] 45) rfl) hb1 (by simp)
  have hb0 := below_box hb1
  obtain ⟨g, hg⟩ : ∃ g, w.heap.size = g := ⟨_, rfl⟩
  rw [hg] at k0
  have HK := Lib.hid k0
  clear hb1 k0
  rw [hg]
  have HG := Lib.hid hg
  clear hg
  have q0 := blk_cell HK.out 0
  have q1 := blk_cell HK.out 1
  have q2 := blk_cell HK.out 2
  have q3 := blk_cell HK.out 3
  go_wp2_with fail
  refine (HN.out _).mono ?_
  rintro ee w2 ⟨rfl, hb2⟩
  have HK2 := Lib.hid (blk_below HK.out hb2 (blk_lt HK.out))
  have hB2 := below_via hb0 hb2
  clear q0 q1 q2 q3 hb2
  have q0 := blk_cell HK2.out 0
  have q1 := blk_cell HK2.out 1
  have q2 := blk_cell HK2.out 2
  have q3 := blk_cell HK2.out 3
  by_cases hm : 6 + l ≤ t
  · have HM := Lib.hid (fun W => r17made l d r s t v hl hd hr hs (by omega) W)
    have e : madeI l d r (t - (6 + l)) v = N := by rw [← HP.out]; unfold ptsI; rw [if_neg (by omega), if_neg (by omega)]
    rw [e] at HM
    clear e
    go_wp2_with fail
    refine (HM.out _).mono ?_
    rintro ee w3 ⟨rfl, hb3⟩
    have hB3 := Lib.hid (below_via hB2 hb3)
    go_wp2
    go_ret2
    exact ⟨rfl, hB3.out⟩
  · have hPN : ∀ j : Nat, (j : Int) = 6 + l - t → - missI r j v = N := fun j hj => by
      rw [← HP.out]; unfold ptsI; rw [if_neg (by omega), if_pos (by omega), show (6 + l - t).toNat = j by omega]
    have HPN := Lib.hid hPN
    clear hPN
    have hz : missI r 0 v = 0 := by unfold missI; split <;> rfl
    go_upto_region 9 with fail
    go_loopw [9, 8] (fun i y wr => ∃ j : Nat, (j : Int) ≤ 6 + l - t ∧ i = .int .i64 ((j : Int) + 1) ∧ y = .int .i64 (- missI r j v) ∧ Below w2.heap.size w2 wr) (fun i _ _ => 40 - (intOf i).toNat)
    case atStart => exact ⟨0, by omega, rfl, by rw [hz]; rfl, Below.refl _ _⟩
    case round =>
      obtain ⟨j, hj, rfl, rfl, hb⟩ := hrel
      rename World => wx
      have HKx := Lib.hid (blk_below HK2.out hb (blk_lt HK2.out))
      clear q0 q1 q2 q3
      have q0 := blk_cell HKx.out 0
      have q1 := blk_cell HKx.out 1
      have q2 := blk_cell HKx.out 2
      have q3 := blk_cell HKx.out 3
      have hmj := missI_bd r v j
      have hms := missI_succ r v j
      go_wp2_with fail
      refine (HN.out _).mono ?_
      rintro ee wy ⟨rfl, hby⟩
      have HKy := Lib.hid (blk_below HKx.out hby (blk_lt HKx.out))
      have hby2 := hb.trans (hby.mono hb.size)
      clear q0 q1 q2 q3 hby
      have q2 := blk_cell HKy.out 2
      by_cases hlt : (j : Int) + 1 ≤ 6 + l - t
      · have HLo := Lib.hid (fun W => r17lost r ((j : Int) + 1) v hr (by omega) W)
        have hm2 := missI_bd r v (j + 1)
        generalize lostI r ((j : Int) + 1) v = z at HLo hms
        obtain ⟨y2, he⟩ : ∃ y2, missI r (j + 1) v = y2 := ⟨_, rfl⟩
        rw [he] at hms hm2
        have He := Lib.hid he
        clear he
        have hy2 : - missI r j v - z = - y2 := by omega
        go_wp2_with fail
        refine (HLo.out _).mono ?_
        rintro ee wz ⟨rfl, rfl⟩
        go_wp2
        go_roundw
        case rel => exact ⟨j + 1, by omega, by go_num, by rw [He.out]; first | rfl | rw [hy2] | exact congrArg (Value.int .i64) (by omega), hby2⟩
        case measure => simp [intOf]; omega
      · have hP := HPN.out j (by omega)
        have hBz := Lib.hid (below_via hB2 hby2)
        go_wp2
        go_ret2
        exact ⟨by first | rfl | rw [hP], hBz.out⟩

/-! ### The reference finesseref17: Score. -/
set_option maxRecDepth 100000 in
set_option maxHeartbeats 2000000 in
theorem r17score (l d r s t vul : Int) (hl : 1 ≤ l ∧ l ≤ 7) (hd : 0 ≤ d ∧ d ≤ 4) (hr : 0 ≤ r ∧ r ≤ 2) (hs : 0 ≤ s ∧ s ≤ 3) (ht : 0 ≤ t ∧ t ≤ 13) (hv : 0 ≤ vul ∧ vul ≤ 3) (w : World) :
    Calls Tryz.prog 56 #[.agg #[.int .u8 l, .int .u8 d, .int .u8 r, .int .u8 s], .int .i64 t, .int .u8 vul] w fun e w' => e = .returned (.tuple #[.int .i64 (scoreI l d r s t vul), .int .i64 0]) ∧ Below w.heap.size w w' := by
  obtain ⟨N, hN⟩ : ∃ N, scoreI l d r s t vul = N := ⟨_, rfl⟩
  rw [hN]
  have HS := Lib.hid hN
  clear hN
  have HQ := Lib.hid (fun W => r17result l d r s t (by omega) (by omega) (by omega) (by omega) W)
  rw [res_true l d r s t hl hd hr hs ht] at HQ
  have HV := Lib.hid (fun W => r17vul vul s (by omega) (by omega) W)
  have HP := Lib.hid (fun W => r17points l d r s t (vulB vul s) hl hd hr hs ht W)
  have hsc : scoreI l d r s t vul = if s % 2 = 1 then - ptsI l d r t (vulB vul s) else ptsI l d r t (vulB vul s) := rfl
  have hpb := ptsI_small l d r s t (vulB vul s) (res_true l d r s t hl hd hr hs ht) (by omega)
  rw [HS.out] at hsc
  generalize vulB vul s = b at HV HP hsc hpb
  generalize ptsI l d r t b = P at HP hsc hpb
  have Hsc := Lib.hid hsc
  clear hsc
  go_enter Tryz.func56, Tryz.ntmps56
  go_wp2_with fail
  refine (HQ.out _).mono ?_
  rintro ee w1 ⟨rfl, hb1⟩
  have k0 := blk_below (blk_new (w := w) (.cells #[.int .u8 l, .int .u8 d, .int .u8 r, .int .u8 s] 45) rfl) hb1 (by simp)
  have hb0 := below_box hb1
  obtain ⟨g, hg⟩ : ∃ g, w.heap.size = g := ⟨_, rfl⟩
  rw [hg] at k0
  have HK := Lib.hid k0
  clear hb1 k0
  rw [hg]
  have HG := Lib.hid hg
  clear hg
  have q0 := blk_cell HK.out 0
  have q1 := blk_cell HK.out 1
  have q2 := blk_cell HK.out 2
  have q3 := blk_cell HK.out 3
  go_upto_region 3 with fail
  go_region_held3 (fun w' => w'.cell? ⟨g, 0, none⟩ = some (.int .u8 l) ∧ w'.cell? ⟨g, 1, none⟩ = some (.int .u8 d) ∧ w'.cell? ⟨g, 2, none⟩ = some (.int .u8 r) ∧ w'.cell? ⟨g, 3, none⟩ = some (.int .u8 s)) ((first | exact ⟨q0, q1, q2, q3⟩ | exact ⟨keepB0 hba (blk_lt HK.out) q0, keepB0 hba (blk_lt HK.out) q1, keepB0 hba (blk_lt HK.out) q2, keepB0 hba (blk_lt HK.out) q3⟩)) ((first | (go_at_call 75; (with_reducible refine (HV.out _).mono ?_); rintro ee we ⟨rfl, rfl⟩) | (go_at_call 74; (with_reducible refine (HP.out _).mono ?_); rintro ee wa ⟨rfl, hba⟩)))
  have r3 := keepB0 hba (blk_lt HK.out) q3
  have hBz := Lib.hid (below_via hb0.drew hba)
  clear q0 q1 q2 q3
  have hss : s = 0 ∨ s = 1 ∨ s = 2 ∨ s = 3 := by omega
  rcases hss with rfl | rfl | rfl | rfl
  all_goals
    have e := Hsc.out
    simp at e
    subst e
    go_wp2
    go_ret2
    exact ⟨rfl, hBz.out⟩

/-! ### The reference finesseref17: Score of any contract, tricks and vulnerability. -/
set_option maxRecDepth 100000 in
set_option maxHeartbeats 1000000 in
theorem r17points_zero (v : Bool) (w : World) :
    Calls Tryz.prog 74 #[.agg #[.int .u8 0, .int .u8 0, .int .u8 0, .int .u8 0], .int .i64 0, .bool v] w fun e w' => e = .returned (.tuple #[.int .i64 0, .int .i64 0]) ∧ Below w.heap.size w w' := by
  have HQ := Lib.hid (fun W => r17result 0 0 0 0 0 (by omega) (by omega) (by omega) (by omega) W)
  rw [show resultC 0 0 0 0 0 = true by decide] at HQ
  go_enter Tryz.func74, Tryz.ntmps74
  go_wp2_with fail
  refine (HQ.out _).mono ?_
  rintro ee w1 ⟨rfl, hb1⟩
  have k0 := blk_below (blk_new (w := w) (.cells #[.int .u8 0, .int .u8 0, .int .u8 0, .int .u8 0] 45) rfl) hb1 (by simp)
  have hb0 := below_box hb1
  have q0 := blk_cell k0 0
  clear hb1 k0
  go_wp2
  go_ret2
  exact ⟨rfl, hb0⟩

set_option maxRecDepth 100000 in
set_option maxHeartbeats 1000000 in
theorem r17score_zero (vul : Int) (hv : 0 ≤ vul ∧ vul ≤ 3) (w : World) :
    Calls Tryz.prog 56 #[.agg #[.int .u8 0, .int .u8 0, .int .u8 0, .int .u8 0], .int .i64 0, .int .u8 vul] w fun e w' => e = .returned (.tuple #[.int .i64 0, .int .i64 0]) ∧ Below w.heap.size w w' := by
  have HQ := Lib.hid (fun W => r17result 0 0 0 0 0 (by omega) (by omega) (by omega) (by omega) W)
  rw [show resultC 0 0 0 0 0 = true by decide] at HQ
  have HV := Lib.hid (fun W => r17vul vul 0 (by omega) (by omega) W)
  have HP := Lib.hid (fun W => r17points_zero (vulB vul 0) W)
  generalize vulB vul 0 = b at HV HP
  go_enter Tryz.func56, Tryz.ntmps56
  go_wp2_with fail
  refine (HQ.out _).mono ?_
  rintro ee w1 ⟨rfl, hb1⟩
  have k0 := blk_below (blk_new (w := w) (.cells #[.int .u8 0, .int .u8 0, .int .u8 0, .int .u8 0] 45) rfl) hb1 (by simp)
  have hb0 := below_box hb1
  obtain ⟨g, hg⟩ : ∃ g, w.heap.size = g := ⟨_, rfl⟩
  rw [hg] at k0
  have HK := Lib.hid k0
  clear hb1 k0
  rw [hg]
  have HG := Lib.hid hg
  clear hg
  have q0 := blk_cell HK.out 0
  have q1 := blk_cell HK.out 1
  have q2 := blk_cell HK.out 2
  have q3 := blk_cell HK.out 3
  go_upto_region 3 with fail
  go_region_held3 (fun w' => w'.cell? ⟨g, 0, none⟩ = some (.int .u8 0) ∧ w'.cell? ⟨g, 1, none⟩ = some (.int .u8 0) ∧ w'.cell? ⟨g, 2, none⟩ = some (.int .u8 0) ∧ w'.cell? ⟨g, 3, none⟩ = some (.int .u8 0)) ((first | exact ⟨q0, q1, q2, q3⟩ | exact ⟨keepB0 hba (blk_lt HK.out) q0, keepB0 hba (blk_lt HK.out) q1, keepB0 hba (blk_lt HK.out) q2, keepB0 hba (blk_lt HK.out) q3⟩)) ((first | (go_at_call 75; (with_reducible refine (HV.out _).mono ?_); rintro ee we ⟨rfl, rfl⟩) | (go_at_call 74; (with_reducible refine (HP.out _).mono ?_); rintro ee wa ⟨rfl, hba⟩)))
  have r3 := keepB0 hba (blk_lt HK.out) q3
  have hBz := Lib.hid (below_via hb0.drew hba)
  clear q0 q1 q2 q3
  go_wp2
  go_ret2
  exact ⟨rfl, hBz.out⟩

set_option maxRecDepth 100000 in
set_option maxHeartbeats 1000000 in
theorem r17score_bad (l d r s t vul : Int) (hl : 0 ≤ l ∧ l ≤ 255) (hd : 0 ≤ d ∧ d ≤ 255) (hr : 0 ≤ r ∧ r ≤ 255) (hs : 0 ≤ s ∧ s ≤ 255) (h : resultC l d r s t = false ∨ 3 < vul) (w : World) :
    Calls Tryz.prog 56 #[.agg #[.int .u8 l, .int .u8 d, .int .u8 r, .int .u8 s], .int .i64 t, .int .u8 vul] w fun e w' => e = .returned (.tuple #[.int .i64 0, .int .i64 2]) ∧ Below w.heap.size w w' := by
  have HQ := Lib.hid (fun W => r17result l d r s t (by omega) (by omega) (by omega) (by omega) W)
  generalize resultC l d r s t = N at HQ h
  have hcs : N = false ∨ (N = true ∧ 3 < vul) := by
    cases N
    · exact .inl rfl
    · rcases h with h | h
      · cases h
      · exact .inr ⟨rfl, h⟩
  clear h
  go_enter Tryz.func56, Tryz.ntmps56
  go_wp2_with fail
  refine (HQ.out _).mono ?_
  rintro ee w1 ⟨rfl, hb1⟩
  have hb0 := below_box hb1
  clear hb1
  rcases hcs with rfl | ⟨rfl, a1⟩
  all_goals
    go_wp2
    go_ret2
    exact ⟨rfl, hb0⟩

/-- A result may be scored. -/
def scB (l d r s t vul : Int) : Bool := resultC l d r s t && decide (vul ≤ 3)
theorem r17score_any (l d r s t vul : Int) (hl : 0 ≤ l ∧ l ≤ 255) (hd : 0 ≤ d ∧ d ≤ 255) (hr : 0 ≤ r ∧ r ≤ 255) (hs : 0 ≤ s ∧ s ≤ 255) (hv : 0 ≤ vul ∧ vul ≤ 255) (w : World) :
    Calls Tryz.prog 56 #[.agg #[.int .u8 l, .int .u8 d, .int .u8 r, .int .u8 s], .int .i64 t, .int .u8 vul] w fun e w' => e = .returned (.tuple #[.int .i64 (if scB l d r s t vul then scoreI l d r s t vul else 0), .int .i64 (if scB l d r s t vul then 0 else 2)]) ∧ Below w.heap.size w w' := by
  unfold scB
  cases hN : resultC l d r s t with
  | false =>
    rw [show (false && decide (vul ≤ 3)) = false from rfl, if_neg (by decide), if_neg (by decide)]
    exact r17score_bad l d r s t vul hl hd hr hs (.inl hN) w
  | true =>
    by_cases h3 : vul ≤ 3
    · rw [show (true && decide (vul ≤ 3)) = true by simp [h3], if_pos rfl, if_pos rfl]
      have h := of_decide_eq_true (show decide _ = true from hN)
      have hrc := of_decide_eq_true (show decide _ = true from h.1)
      rcases hrc with ⟨rfl, rfl, rfl, rfl⟩ | hrc
      · obtain rfl : t = 0 := by omega
        have e : scoreI 0 0 0 0 0 vul = 0 := rfl
        rw [e]
        exact r17score_zero vul ⟨hv.1, h3⟩ w
      · exact r17score l d r s t vul ⟨by omega, by omega⟩ ⟨by omega, by omega⟩ ⟨by omega, by omega⟩ ⟨by omega, by omega⟩ ⟨by omega, by omega⟩ ⟨hv.1, h3⟩ w
    · rw [show (true && decide (vul ≤ 3)) = false by simp [h3], if_neg (by decide), if_neg (by decide)]
      exact r17score_bad l d r s t vul hl hd hr hs (.inr (by omega)) w

end Go.Proofs.YtchklobblkddhaaGreatDoor
