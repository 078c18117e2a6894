/- The walk of neuberg.Adjust for matchpoints that are right. -/
import Derived.Test.YtgfnggdjjigomaaDoorNeuApplyW
namespace Go.Proofs.YtgfnggdjjigomaaDoor
open Go.RowKit

theorem nboard (n : Int) (w : World) : Calls Tryd.prog 61 #[.int .i64 n] w fun e w' => e = .returned (.bool (decide (1 ≤ n ∧ n ≤ 24))) ∧ w' = w := by
  go_enter Tryd.func61, Tryd.ntmps61
  by_cases h1 : 1 ≤ n
  · by_cases h2 : n ≤ 24
    · have t1 : decide (n ≥ 1) = true := decide_eq_true h1
      have t2 : decide (n ≤ 24) = true := decide_eq_true h2
      have t3 : decide (1 ≤ n ∧ n ≤ 24) = true := decide_eq_true ⟨h1, h2⟩
      rw [t3]
      go_wp2
      go_ret
      exact ⟨rfl, rfl⟩
    · have t1 : decide (n ≥ 1) = true := decide_eq_true h1
      have t2 : decide (n ≤ 24) = false := decide_eq_false h2
      have t3 : decide (1 ≤ n ∧ n ≤ 24) = false := decide_eq_false (fun h => h2 h.2)
      rw [t3]
      go_wp2
      go_ret
      exact ⟨rfl, rfl⟩
  · have t1 : decide (n ≥ 1) = false := decide_eq_false h1
    have t3 : decide (1 ≤ n ∧ n ≤ 24) = false := decide_eq_false (fun h => h1 h.1)
    rw [t3]
    go_wp2
    go_ret
    exact ⟨rfl, rfl⟩

end Go.Proofs.YtgfnggdjjigomaaDoor
