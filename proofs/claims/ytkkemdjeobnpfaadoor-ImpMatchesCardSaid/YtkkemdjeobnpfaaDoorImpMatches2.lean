/- The walk of the statement ImpMatches. -/
import Derived.Test.YtkkemdjeobnpfaaDoorImpMatchesW
namespace Go.Proofs.YtkkemdjeobnpfaaDoor
open Go.RowKit

set_option maxHeartbeats 400000 in
theorem impMatches_walk (L : List (Int × Int)) (A : Option Addr) (c : Nat) (w : World) (hg : Laid w) (hl : Rd w w.heap.size 2 A L.length (bCells L)) (hA : A = none → c = 0) :
    Calls Tryd.prog 4 #[.slice A L.length c] w fun e w' => e = .returned (.bool true) ∧ Below w.heap.size w w' := by
  by_cases h : 200 < L.length
  · have h' : (200 : Int) < (L.length : Int) := by omega
    go_enter Tryd.func4, Tryd.ntmps4
    go_wp2_with fail
    refine (awake_any _ hg).mono ?_
    rintro e w1 ⟨rfl, hb⟩
    go_wp2
    go_ret
    exact ⟨rfl, hb⟩
  · have h' : (L.length : Int) ≤ 200 := by omega
    go_enter Tryd.func4, Tryd.ntmps4
    go_wp2_with fail
    refine (matches_any L A c w hg hl hA (by omega)).mono ?_
    rintro e w1 ⟨rfl, hb⟩
    go_wp2_with fail
    refine (awake_any _ (hg.below hb hg.lt)).mono ?_
    rintro e w2 ⟨rfl, hb2⟩
    go_wp2
    go_ret
    exact ⟨rfl, hb.trans (hb2.mono hb.size)⟩

end Go.Proofs.YtkkemdjeobnpfaaDoor
