/- What the tied variable match.gets gives the walks. -/
import Derived.Test.YtlobdeakgoicpaaDoorMatW
import Derived.Test.YtlobdeakgoicpaaDoorRows
import Derived.Lib.LaidTab
import Derived.LaidMore
import Derived.Stop.Joined
namespace Go.Proofs.YtlobdeakgoicpaaDoor
open Go.RowKit

/-- The table's name. -/
def getsName : String := match Rows.neubergSumsRow.laid with
  | x :: _ => x.1
  | [] => ""
def getsL : List Int := [0, 1, 2]
theorem gGets : Tryd.prog.globalNamed getsName = some 0 := by kernel_rfl
theorem gGetsType : (Tryd.prog.globals[0]?).map (·.type) = some 113 := by kernel_rfl
theorem laid_of {W : World} (h : laidMetH Tryd.prog Rows.neubergSumsRow.laid W) : Laid W := by
  rw [MakeChecks.laidMetH_plain _ _ _ (by kernel_rfl)] at h
  have ht := Lib.tabIs_of_head (zs := getsL) gGets gGetsType Tryd.underlying113 Tryd.underlying3 (by kernel_rfl) (by kernel_rfl) h
  have e : W.var? Tryd.prog getsName = some #[.int .i64 0, .int .i64 1, .int .i64 2] := ht
  unfold World.var? at e
  rw [gGets] at e
  simp only [Option.bind_some] at e
  split at e
  · rename_i cs t fr hh
    obtain rfl := Option.some.inj e
    exact ⟨t, fr, hh⟩
  · cases e
end Go.Proofs.YtlobdeakgoicpaaDoor
