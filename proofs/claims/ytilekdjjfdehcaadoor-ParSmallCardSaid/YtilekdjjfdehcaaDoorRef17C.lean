/- The reference finesseref17: contract, made, lost, Points, Score. -/
import Derived.Test.YtilekdjjfdehcaaDoorRef17W
namespace Go.Proofs.YtilekdjjfdehcaaDoor
open Go.RowKit

set_option maxRecDepth 100000 in
set_option maxHeartbeats 1000000 in
theorem r17contract (l d r s : Int) (hl : 1 ≤ l ∧ l ≤ 7) (hr : 0 ≤ r ∧ r ≤ 2) (w : World) :
    Calls Tryd.prog 56 #[.agg #[.int .u8 l, .int .u8 d, .int .u8 r, .int .u8 s]] w fun e w' => e = .returned (.int .i64 (trickV l d r)) ∧ Below w.heap.size w w' := by
  obtain ⟨b, hb⟩ : ∃ b, l * valI d + (if d = 4 then 10 else 0) = b := ⟨_, rfl⟩
  have hbb := base_bd l d hl
  rw [hb] at hbb
  have hT : trickV l d r = b * facI r := by unfold trickV; rw [hb]
  rw [hT]
  have hv := valI_bd d
  have HV := Lib.hid (fun W => r17value d W)
  obtain ⟨v, hvv⟩ : ∃ v, valI d = v := ⟨_, rfl⟩
  rw [hvv] at hv HV hb
  have Hb := Lib.hid hb
  have hlv : IntKind.i64.wrap (l * v) = l * v := by rcases hv with rfl | rfl <;> exact IntWalk.i64_in _ (by omega)
  have hm : 20 ≤ l * v ∧ l * v ≤ 210 := by rcases hv with rfl | rfl <;> omega
  clear hb hvv hT
  obtain ⟨m, hmm⟩ : ∃ m, l * v = m := ⟨_, rfl⟩
  rw [hmm] at hlv hm Hb
  have HM := Lib.hid hmm
  go_enter Tryd.func56, Tryd.ntmps56
  go_upto_region 1 with fail
  obtain ⟨W1, hW1⟩ : ∃ W1, w.alloc (.cells #[.int .u8 l, .int .u8 d, .int .u8 r, .int .u8 s] 28) = W1 := ⟨_, rfl⟩
  obtain ⟨g, hg⟩ : ∃ g, w.heap.size = g := ⟨_, rfl⟩
  have HK := Lib.hid (show W1.heap[g]? = some (.cells #[.int .u8 l, .int .u8 d, .int .u8 r, .int .u8 s] 28) by rw [← hW1]; exact blk_new _ hg.symm)
  have hB1 : Below w.heap.size w W1 := by rw [← hW1]; exact (by repeat (first | exact Below.refl _ _ | assumption | refine Below.drew ?_ | refine below_drewN ?_ _ | refine Below.alloc ?_ (by first | omega | (simp; done) | (simp; omega)) _ | refine Below.setCell ?_ (by first | omega | (simp; done) | (simp; omega)) _))
  rw [hW1, hg]
  clear hW1 hg
  have q0 := blk_cell HK.out 0
  have q1 := blk_cell HK.out 1
  go_region_held3 (fun w' => w'.cell? ⟨g, 0, none⟩ = some (.int .u8 l) ∧ w'.cell? ⟨g, 1, none⟩ = some (.int .u8 d)) ((first | exact ⟨q0, q1⟩)) ((go_at_call 57; first | ((with_reducible refine (HV.out _).mono ?_); rintro ee we ⟨rfl, rfl⟩)))
  have hwl : IntKind.i64.wrap l = l := IntWalk.i64_in _ (by omega)
  have hlv2 : IntKind.i64.wrap (l * v) = m := by rw [HM.out]; exact hlv
  rw [hwl, hlv2]
  obtain ⟨W2, hW2⟩ : ∃ W2, W1.drew = W2 := ⟨_, rfl⟩
  have q1 : W2.cell? ⟨g, 1, none⟩ = some (.int .u8 d) := by rw [← hW2]; exact blk_cell HK.out 1
  have q2 : W2.cell? ⟨g, 2, none⟩ = some (.int .u8 r) := by rw [← hW2]; exact blk_cell HK.out 2
  have hB2 : Below w.heap.size w W2 := by rw [← hW2]; exact hB1.drew
  rw [hW2]
  clear hW2 hwl hlv hlv2 q0 hB1
  have hstep : ∀ k : Nat, (k : Int) < r → b * facI (k : Int) + b * facI (k : Int) = b * facI ((k + 1 : Nat) : Int) ∧ 0 ≤ b * facI (k : Int) ∧ b * facI (k : Int) ≤ 440 := fun k hk => by
    have a : k = 0 ∨ k = 1 := by omega
    rcases a with rfl | rfl
    · show b * 1 + b * 1 = b * 2 ∧ 0 ≤ b * 1 ∧ b * 1 ≤ 440; omega
    · show b * 2 + b * 2 = b * 4 ∧ 0 ≤ b * 2 ∧ b * 2 ≤ 440; omega
  have hz : b * facI ((0 : Nat) : Int) = b := Int.mul_one b
  go_upto_region 2 with fail
  go_upto_if 14 with fail
  go_cut [3] (fun x wz => x = .int .i64 b ∧ wz = W2)
  case first =>
    by_cases h4 : d = 4
    · have h4b : (d == 4) = true := beq_iff_eq.2 h4
      have hmb : IntKind.i64.wrap (m + 10) = b := by rw [← Hb.out, if_pos h4]; exact IntWalk.i64_in _ (by omega)
      clear h4
      go_wp2_with fail
      go_meet
      exact ⟨rfl, rfl⟩
    · have h4b : (d == 4) = false := beq_eq_false_iff_ne.2 h4
      have hmb : m = b := by rw [← Hb.out, if_neg h4]; omega
      clear h4
      go_wp2_with fail
      go_meet
      exact ⟨by rw [hmb], rfl⟩
  case rest =>
  obtain ⟨rfl, rfl⟩ := hcut
  rename World => W2
  go_upto_region 5 with fail
  go_loopw [4, 3] (fun i x wr => ∃ k : Nat, (k : Int) ≤ r ∧ i = .int .u8 (k : Int) ∧ x = .int .i64 (b * facI (k : Int)) ∧ wr = W2) (fun i _ _ => 3 - (intOf i).toNat)
  case atStart => exact ⟨0, by omega, rfl, by rw [hz], rfl⟩
  case round =>
    obtain ⟨k, hk, rfl, rfl, rfl⟩ := hrel
    by_cases hlt : (k : Int) < r
    · obtain ⟨h1, h2, h3⟩ := hstep k hlt
      obtain ⟨y, hy⟩ : ∃ y, b * facI ((k + 1 : Nat) : Int) = y := ⟨_, rfl⟩
      rw [hy] at h1
      have Hy := Lib.hid hy
      clear hy
      generalize hX : b * facI (k : Int) = x at *
      have hw : IntKind.i64.wrap (x + x) = y := (IntWalk.i64_in _ (by omega)).trans h1
      go_wp2
      go_roundw
      case rel => exact ⟨k + 1, by omega, by go_num, by rw [Hy.out], by first | rfl | trivial⟩
      case measure => simp [intOf]; omega
    · have hkr : (k : Int) = r := by omega
      rw [hkr] at *
      go_wp2
      go_ret
      exact ⟨rfl, hB2⟩

/-- The points of one missing trick, doubled twice where redoubled. -/
def lostI (r k : Int) (v : Bool) : Int := if r = 2 then trickI r (k - 1) v + trickI r (k - 1) v else trickI r (k - 1) v
set_option maxHeartbeats 1000000 in
theorem r17lost (r k : Int) (v : Bool) (hr : 0 ≤ r ∧ r ≤ 2) (hk : 1 ≤ k) (w : World) :
    Calls Tryd.prog 55 #[.int .u8 r, .int .i64 k, .bool v] w fun e w' => e = .returned (.int .i64 (lostI r k v)) ∧ w = w' := by
  obtain ⟨N, hN⟩ : ∃ N, lostI r k v = N := ⟨_, rfl⟩
  rw [hN]
  have HN := Lib.hid hN
  clear hN
  have hrr : r = 0 ∨ r = 1 ∨ r = 2 := by omega
  have hkk : k = 1 ∨ k = 2 ∨ k = 3 ∨ (¬ k = 1 ∧ ¬ k = 2 ∧ ¬ k = 3) := by omega
  rcases hrr with rfl | rfl | rfl <;> rcases hkk with rfl | rfl | rfl | ⟨h1, h2, h3⟩ <;> cases v
  all_goals try have b1 : (k == 1) = false := beq_eq_false_iff_ne.2 h1
  all_goals try have b2 : (k == 2) = false := beq_eq_false_iff_ne.2 h2
  all_goals try have b3 : (k == 3) = false := beq_eq_false_iff_ne.2 h3
  all_goals
    go_enter Tryd.func55, Tryd.ntmps55
    go_wp2
    go_ret
    refine ⟨?_, rfl⟩
    rw [← HN.out]
    first
      | rfl
      | (refine congrArg (fun n => Ending.returned (Value.int IntKind.i64 n)) ?_
         unfold lostI trickI
         (repeat' split) <;> first | rfl | omega)

end Go.Proofs.YtilekdjjfdehcaaDoor
