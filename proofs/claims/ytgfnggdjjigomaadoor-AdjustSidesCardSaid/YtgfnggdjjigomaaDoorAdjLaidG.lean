/- What the tied tables match.gets and those of the package score give the walks. -/
import Derived.Test.YtgfnggdjjigomaaDoorAdjLaid
import Derived.Test.YtgfnggdjjigomaaDoorMatW
namespace Go.Proofs.YtgfnggdjjigomaaDoor
open Go.RowKit

def getsNameG : String := match Rows.adjustSidesRow.laid with
  | x :: _ => x.1
  | [] => ""
theorem laidG_of {W : World} (h : laidMetH Tryd.prog Rows.adjustSidesRow.laid W) : Laid W ∧ LaidS W := by
  rw [MakeChecks.laidMetH_plain _ _ _ (by kernel_rfl)] at h
  obtain ⟨ps, hv, -⟩ := h
  have hL : Rows.adjustSidesRow.laid = (getsNameG, Lib.tabData .i64 [0, 1, 2]) :: Rows.adjustTellsRow.laid := rfl
  rw [hL] at hv
  obtain ⟨g0, t0, c0, f0, p0, q0, hg0, ht0, hv0, hd0, h, -⟩ := hv
  refine ⟨?_, laidS_vars rfl h⟩
  have n0 : Tryd.prog.globalNamed getsNameG = some 0 := by kernel_rfl
  obtain rfl : 0 = g0 := Option.some.inj (n0.symm.trans hg0)
  obtain rfl : 119 = t0 := Option.some.inj ((show (Tryd.prog.globals[0]?).map (·.type) = some 119 by kernel_rfl).symm.trans ht0)
  obtain rfl := arr_of (Lib.cells_of_tab Tryd.underlying119 Tryd.underlying3 (by kernel_rfl) (by kernel_rfl) hd0)
  exact var_heap n0 hv0

end Go.Proofs.YtgfnggdjjigomaaDoor
