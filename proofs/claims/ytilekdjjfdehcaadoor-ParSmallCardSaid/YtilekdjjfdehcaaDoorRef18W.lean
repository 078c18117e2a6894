/- The reference finesseref18: Right. -/
import Derived.Test.YtilekdjjfdehcaaDoorRef17S
import Derived.Test.YtilekdjjfdehcaaDoorParW
namespace Go.Proofs.YtilekdjjfdehcaaDoor
open Go.RowKit

set_option maxRecDepth 100000 in
set_option maxHeartbeats 1000000 in
theorem r18right (C : Array Value) (t : Nat → Nat → Int) (hC : TabC C t) (w : World) :
    Calls Tryd.prog 26 #[.agg C] w fun e w' => e = .returned (.bool (rightT t)) ∧ Below w.heap.size w w' := by
  obtain ⟨N, hN⟩ : ∃ N, rightT t = N := ⟨_, rfl⟩
  rw [hN]
  have HN := Lib.hid hN
  have HC := Lib.hid hC
  clear hN hC
  go_enter Tryd.func26, Tryd.ntmps26
  go_upto_region 1 with fail
  obtain ⟨W1, hW1⟩ : ∃ W1, w.alloc (.cells C 58) = W1 := ⟨_, rfl⟩
  obtain ⟨g, hg⟩ : ∃ g, w.heap.size = g := ⟨_, rfl⟩
  have HK := Lib.hid (show W1.heap[g]? = some (.cells C 58) by rw [← hW1]; exact blk_new _ hg.symm)
  have hB1 : Below w.heap.size w W1 := by rw [← hW1]; exact (by repeat (first | exact Below.refl _ _ | assumption | refine Below.drew ?_ | refine below_drewN ?_ _ | refine Below.alloc ?_ (by first | omega | (simp; done) | (simp; omega)) _ | refine Below.setCell ?_ (by first | omega | (simp; done) | (simp; omega)) _))
  rw [hW1, hg]
  have HB := Lib.hid hB1
  clear hW1 hg hB1
  go_upto_region 2 with fail
  go_loop [3] (fun i => ∃ d : Nat, d ≤ 5 ∧ i = .int .i64 (d : Int) ∧ Hid (∀ d' s', d' < d → s' < 4 → okN (t d' s') = true)) (fun i => 5 - (intOf i).toNat)
  case atStart => exact ⟨0, by omega, rfl, (fun d' s' h1 _ => by omega : ∀ d' s', d' < 0 → s' < 4 → okN (t d' s') = true)⟩
  case round =>
    obtain ⟨d, hd, rfl, hz⟩ := hrel
    by_cases hlt : d < 5
    · have c0 : (d : Int) < 5 := by omega
      go_upto_region 5 with fail
      go_loop [4] (fun i => ∃ s : Nat, s ≤ 4 ∧ i = .int .i64 (s : Int) ∧ Hid (∀ s', s' < s → okN (t d s') = true)) (fun i => 4 - (intOf i).toNat)
      case atStart => exact ⟨0, by omega, rfl, (fun s' h1 => by omega : ∀ s', s' < 0 → okN (t d s') = true)⟩
      case round =>
        obtain ⟨s, hs, rfl, hy⟩ := hrel
        by_cases hls : s < 4
        · have c1 : (s : Int) < 4 := by omega
          have q0 := (blk_cell HK.out (d * 4 + s)).trans (HC.out.2 d s hlt hls)
          obtain ⟨x, hx⟩ : ∃ x, t d s = x := ⟨_, rfl⟩
          rw [hx] at q0
          have Hx := Lib.hid hx
          clear hx
          by_cases hok : 0 ≤ x ∧ x ≤ 13
          · have e1 : ¬ x < 0 := by omega
            have e2 : ¬ 13 < x := by omega
            have Hn : Hid (∀ s', s' < s + 1 → okN (t d s') = true) := Lib.hid (fun s' h1 => by
              by_cases hi : s' < s
              · exact hy.out s' hi
              · obtain rfl : s' = s := by omega
                rw [Hx.out]; exact decide_eq_true hok)
            go_wp2
            go_round
            case rel => exact ⟨s + 1, by omega, by go_num, Hn.out⟩
            case measure => simp [intOf]; omega
          · obtain rfl : false = N := by
              rw [← HN.out]
              cases hq : rightT t with
              | false => rfl
              | true =>
                have := (rightT_iff t).1 hq d s hlt hls
                rw [Hx.out] at this
                exact absurd (of_decide_eq_true this) hok
            go_wp2
            all_goals first | (exfalso; omega) | (go_ret; exact ⟨rfl, HB.out⟩)
        · obtain rfl : s = 4 := by omega
          have Hn : Hid (∀ d' s', d' < d + 1 → s' < 4 → okN (t d' s') = true) := Lib.hid (fun d' s' h1 h2 => by
            by_cases hi : d' < d
            · exact hz.out d' s' hi h2
            · obtain rfl : d' = d := by omega
              exact hy.out s' h2)
          go_wp2
          go_round
          case rel => exact ⟨d + 1, by omega, by go_num, Hn.out⟩
          case measure => simp [intOf]; omega
    · obtain rfl : d = 5 := by omega
      obtain rfl : true = N := by
        rw [← HN.out]; exact ((rightT_iff t).2 hz.out).symm
      go_wp2
      go_ret
      exact ⟨rfl, HB.out⟩

end Go.Proofs.YtilekdjjfdehcaaDoor
