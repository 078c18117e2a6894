/- The example of the chapter, reckoned by the kernel. -/
import Derived.Test.YtilekdjjfdehcaaDoorParValues
namespace Go.Proofs.YtilekdjjfdehcaaDoor
open Go.RowKit

def exT (d s : Nat) : Int := if d = 3 then (if s % 2 = 0 then 10 else 2) else if d = 2 then (if s % 2 = 0 then 4 else 9) else 0
theorem ex_b0 : bidsL (finG exT 0) 0 = [21, 25] := by kernel_rfl
theorem ex_b2 : bidsL (finG exT 2) 0 = [21] := by kernel_rfl

end Go.Proofs.YtilekdjjfdehcaaDoor
