/- The walk of the statement VictoryTells. -/
import Derived.Test.YtkdbkokiieolpaaVicSameW
namespace Go.Proofs.Ytkdbkokiieolpaa
open Go.RowKit

set_option maxHeartbeats 1000000 in
theorem victoryTells_walk (s l : List Int) (n : Int) (A A' : Option Addr) (c c' : Nat) (w : World) (hl : Rd w w.heap.size 1 A s.length (iC s)) (hA : A = none → c = 0)
    (hl' : Rd w w.heap.size 1 A' l.length (iC l)) (hA' : A' = none → c' = 0) :
    Calls Try.prog 6 #[.slice A s.length c, .int .i64 n, .slice A' l.length c'] w fun e w' => e = .returned (.bool true) ∧ Below w.heap.size w w' := by
  have HA := Lib.hid hA
  have HA' := Lib.hid hA'
  clear hA hA'
  by_cases h1 : 60 < s.length
  · go_enter Try.func6, Try.ntmps6
    go_wp2_with fail
    refine (awake_any _).mono ?_
    rintro e w1 ⟨rfl, hb⟩
    go_wp2
    go_ret
    exact ⟨rfl, hb⟩
  by_cases h2 : 60 < l.length
  · go_enter Try.func6, Try.ntmps6
    go_wp2_with fail
    refine (awake_any _).mono ?_
    rintro e w1 ⟨rfl, hb⟩
    go_wp2
    go_ret
    exact ⟨rfl, hb⟩
  go_enter Try.func6, Try.ntmps6
  go_wp2_with fail
  refine (same_any s l n A A' c c' w hl HA.out (by omega) hl' HA'.out (by omega)).mono ?_
  rintro e w1 ⟨rfl, hb⟩
  go_wp2_with fail
  refine (awake_any _).mono ?_
  rintro e w2 ⟨rfl, hb2⟩
  go_wp2
  go_ret
  exact ⟨rfl, hb.trans (hb2.mono hb.size)⟩

end Go.Proofs.Ytkdbkokiieolpaa
