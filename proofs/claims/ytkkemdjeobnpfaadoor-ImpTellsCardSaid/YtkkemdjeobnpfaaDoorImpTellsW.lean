/- The walk of the statement ImpTells. -/
import Derived.Test.YtkkemdjeobnpfaaDoorImpW3
namespace Go.Proofs.YtkkemdjeobnpfaaDoor
open Go.RowKit

set_option maxHeartbeats 1000000 in
theorem impTells_walk (d n o c : Int) (w : World) (hg : Laid w) :
    Calls Tryd.prog 3 #[.int .i64 d, .int .i64 n, .int .i64 o, .int .i64 c] w fun e w' => e = .returned (.bool true) ∧ Below w.heap.size w w' := by
  go_enter Tryd.func3, Tryd.ntmps3
  go_wp2_with fail
  refine (least_any _ _ hg).mono ?_
  rintro e _ ⟨rfl, rfl⟩
  go_wp2_with fail
  refine (leastref_any _ _).mono ?_
  rintro e w1 ⟨rfl, hb1⟩
  have hl1 := hg.below hb1 hg.lt
  go_wp2_with fail
  refine (swing_any _ _ _ hl1).mono ?_
  rintro e w2 ⟨rfl, hb2⟩
  have hl2 := hl1.below hb2 hl1.lt
  go_wp2_with fail
  refine (swingref_any _ _ _).mono ?_
  rintro e w3 ⟨rfl, hb3⟩
  have hl3 := hl2.below hb3 hl2.lt
  go_wp2_with fail
  refine (imp_any _ _ hl3).mono ?_
  rintro e _ ⟨rfl, rfl⟩
  go_wp2_with fail
  refine (impref_any _ _).mono ?_
  rintro e w4 ⟨rfl, hb4⟩
  have hl4 := hl3.below hb4 hl3.lt
  go_wp2_with fail
  refine (awake_any _ hl4).mono ?_
  rintro e w5 ⟨rfl, hb5⟩
  have s1 := hb1.size
  have s2 := hb2.size
  have s3 := hb3.size
  have s4 := hb4.size
  go_wp2
  go_ret
  exact ⟨rfl, (((hb1.trans (hb2.mono (by omega))).trans (hb3.mono (by omega))).trans (hb4.mono (by omega))).trans (hb5.mono (by omega))⟩

end Go.Proofs.YtkkemdjeobnpfaaDoor
