/- What the tied variable imp.scale gives the walks. -/
import Derived.Test.YtkkemdjeobnpfaaDoorImpW
import Derived.Test.YtkkemdjeobnpfaaDoorRows
import Derived.Lib.LaidTab
import Derived.LaidMore
import Derived.Stop.Joined
namespace Go.Proofs.YtkkemdjeobnpfaaDoor
open Go.RowKit

/-- The table's name. -/
def scaleName : String := match Rows.impTellsRow.laid with
  | x :: _ => x.1
  | [] => ""
theorem gScale : Tryd.prog.globalNamed scaleName = some 0 := by kernel_rfl
theorem gScaleType : (Tryd.prog.globals[0]?).map (·.type) = some 49 := by kernel_rfl
theorem laid_of {W : World} (h : laidMetH Tryd.prog Rows.impTellsRow.laid W) : Laid W := by
  rw [MakeChecks.laidMetH_plain _ _ _ (by kernel_rfl)] at h
  have ht := Lib.tabIs_of_head (zs := scaleL) gScale gScaleType Tryd.underlying49 Tryd.underlying3 (by kernel_rfl) (by kernel_rfl) h
  have e : W.var? Tryd.prog scaleName = some scaleC := ht
  unfold World.var? at e
  rw [gScale] at e
  simp only [Option.bind_some] at e
  split at e
  · rename_i cs t fr hh
    obtain rfl := Option.some.inj e
    exact ⟨t, fr, hh⟩
  · cases e
end Go.Proofs.YtkkemdjeobnpfaaDoor
