/- The walk of same of layer 22's statements: equal results are told to be the same. -/
import Derived.Test.YtgfnggdjjigomaaDoorAdjSideW
namespace Go.Proofs.YtgfnggdjjigomaaDoor
open Go.RowKit

set_option maxRecDepth 100000 in
set_option maxHeartbeats 2000000 in
theorem same22 (l : List Pt) (A B : Option Addr) (c d : Nat) (w : World) (hA : Rd w w.heap.size 2 A l.length (pC l)) (hB : Rd w w.heap.size 2 B l.length (pC l)) (hn : l.length ≤ 1000) :
    Calls Tryd.prog 16 #[.slice A l.length c, .slice B l.length d] w fun e w' => e = .returned (.bool true) ∧ Below w.heap.size w w' := by
  have HA := Lib.hid hA
  have HB := Lib.hid hB
  clear hA hB
  go_enter Tryd.func16, Tryd.ntmps16
  go_wp2
  go_loopw [13] (fun i wr => ∃ k : Nat, k ≤ l.length ∧ i = .int .i64 (k : Int) ∧ Below w.heap.size w wr) (fun i _ => l.length - (intOf i).toNat)
  case atStart => exact ⟨0, by omega, rfl, Below.refl _ _⟩
  case round =>
    obtain ⟨k, hk, rfl, hb⟩ := hrel
    rename World => wx
    by_cases hlt : k < l.length
    · obtain ⟨ba, oa, rfl, hba, r0, r1⟩ := rd_p HA.out k hlt
      obtain ⟨bb, ob, rfl, hbb, s0, s1⟩ := rd_p HB.out k hlt
      have d0 := keepB0 hb hba r0
      have d1 := keepB0 hb hba r1
      have e0 := keepB0 hb hbb s0
      have e1 := keepB0 hb hbb s1
      generalize l[k].1 = y1 at d0 e0
      generalize l[k].2 = y2 at d1 e1
      have c1 : (0 : Int) ≤ (k : Int) := by omega
      have c2 : (k : Int) < (l.length : Int) := by omega
      have hb2 := Lib.hid (fun n => below_drewN hb n)
      clear r0 r1 s0 s1 hb
      go_upto_region 6 with fail
      go_quiet (fail)
      go_wp2
      go_roundw
      case rel => exact ⟨k + 1, by omega, by go_num, hb2.out _⟩
      case measure => simp [intOf]; omega
    · obtain rfl : k = l.length := by omega
      go_wp2
      go_ret
      exact ⟨rfl, hb⟩

end Go.Proofs.YtgfnggdjjigomaaDoor
