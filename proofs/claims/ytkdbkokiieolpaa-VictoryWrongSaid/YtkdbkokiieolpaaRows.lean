/-
  No cell of these rows narrows 'for every input' (looked for: loops, veiled, ifaces, maps, wideKeys, modest, calm, conditions, laid).
  DERIVED. THE GIVEN ROWS OF THIS SEAT. 7 by the template 'for every input the law returns true; each argument reads behind the call as it read before'; 0 by the template 'total and deterministic' (their statements: YtkdbkokiieolpaaTotals.lean).
  GIVEN WITH THE SEED: the statements are not yours to turn. If you find one false, say at which input.
  Laid BY PROGRAM, IN A SANDBOX (cutbox-rows.mjs): the forced cells as the released guide's own fill.sh prints them over the translation 318112fabf43f265… (all of the seat's roots in one cut). By AI agents, Wed Nov 11 2026. No macro, syntax, notation, axiom, sorry.
-/
import Derived.Test.YtkdbkokiieolpaaChecked
import GoSem.Claim
import GoSem.ClaimJoined
import GoSem.ClaimMapViews
import Derived.JoinedTies
import Derived.KernelRfl
namespace Go.Proofs.Ytkdbkokiieolpaa
/- THE CELL 'sum', in the pinned program and in every row, IS THE sha256 OF THE DUMP (.gsa) THAT YtkdbkokiieolpaaProg.lean LOADS. Nothing in Lean hashes anything: it is a label: what it is worth is what the hold of that sum in a sandbox is worth. -/
noncomputable def Try.pinned : Pinned := { name := "ytkdbkokiieolpaa", sum := "318112fabf43f2659ad3a6a75a6d7030c66b47b715351d1a5b0f588cc6805c89", checked := Try.checked }
namespace Rows
def none {H : Type} : Left H := { results := [], args := [] }

/-- 'finesselaw37.VictorySums': WHATEVER THE INPUT: true; the input reads as it did. -/
def victorySumsSpec : ChangeSpec := { name := "victorySums", fn := fun _ => fun
  | [d1, d2, d3] => { results := [.lit (.bool true)], args := [d1, d2, d3] }
  | _ => none }
def victorySumsRow : OpenClaim := { program := "ytkdbkokiieolpaa", sum := "318112fabf43f2659ad3a6a75a6d7030c66b47b715351d1a5b0f588cc6805c89", func := "finesse/finesselaw37.VictorySums", spec := "victorySums", unfollowed := true, recurses := true, apart := false }
def VictorySumsSaid : Prop := victorySumsRow.holds Try.pinned (OpenSpec.ofChange victorySumsSpec)

/-- ITS FALSE NEIGHBOUR: 'it returns false'. Refute it at one input. -/
def victorySumsWrong : ChangeSpec := { name := "victorySums", fn := fun _ => fun
  | [d1, d2, d3] => { results := [.lit (.bool false)], args := [d1, d2, d3] }
  | _ => none }
def VictorySumsWrongFalsely : Prop := victorySumsRow.holds Try.pinned (OpenSpec.ofChange victorySumsWrong)

/-- 'finesselaw37.VictoryGaps': WHATEVER THE INPUT: true; the input reads as it did. -/
def victoryGapsSpec : ChangeSpec := { name := "victoryGaps", fn := fun _ => fun
  | [d1, d2, d3] => { results := [.lit (.bool true)], args := [d1, d2, d3] }
  | _ => none }
def victoryGapsRow : OpenClaim := { program := "ytkdbkokiieolpaa", sum := "318112fabf43f2659ad3a6a75a6d7030c66b47b715351d1a5b0f588cc6805c89", func := "finesse/finesselaw37.VictoryGaps", spec := "victoryGaps", unfollowed := true, recurses := true, apart := false }
def VictoryGapsSaid : Prop := victoryGapsRow.holds Try.pinned (OpenSpec.ofChange victoryGapsSpec)

/-- ITS FALSE NEIGHBOUR: 'it returns false'. Refute it at one input. -/
def victoryGapsWrong : ChangeSpec := { name := "victoryGaps", fn := fun _ => fun
  | [d1, d2, d3] => { results := [.lit (.bool false)], args := [d1, d2, d3] }
  | _ => none }
def VictoryGapsWrongFalsely : Prop := victoryGapsRow.holds Try.pinned (OpenSpec.ofChange victoryGapsWrong)

/-- 'finesselaw37.VictoryUsual': WHATEVER THE INPUT: true; the input reads as it did. -/
def victoryUsualSpec : ChangeSpec := { name := "victoryUsual", fn := fun _ => fun
  | [d] => { results := [.lit (.bool true)], args := [d] }
  | _ => none }
def victoryUsualRow : OpenClaim := { program := "ytkdbkokiieolpaa", sum := "318112fabf43f2659ad3a6a75a6d7030c66b47b715351d1a5b0f588cc6805c89", func := "finesse/finesselaw37.VictoryUsual", spec := "victoryUsual", unfollowed := true, recurses := true, apart := false }
def VictoryUsualSaid : Prop := victoryUsualRow.holds Try.pinned (OpenSpec.ofChange victoryUsualSpec)

/-- ITS FALSE NEIGHBOUR: 'it returns false'. Refute it at one input. -/
def victoryUsualWrong : ChangeSpec := { name := "victoryUsual", fn := fun _ => fun
  | [d] => { results := [.lit (.bool false)], args := [d] }
  | _ => none }
def VictoryUsualWrongFalsely : Prop := victoryUsualRow.holds Try.pinned (OpenSpec.ofChange victoryUsualWrong)

/-- 'finesselaw37.VictoryTells': WHATEVER THE INPUT: true; the input reads as it did. -/
def victoryTellsSpec : ChangeSpec := { name := "victoryTells", fn := fun _ => fun
  | [d1, d2, d3] => { results := [.lit (.bool true)], args := [d1, d2, d3] }
  | _ => none }
def victoryTellsRow : OpenClaim := { program := "ytkdbkokiieolpaa", sum := "318112fabf43f2659ad3a6a75a6d7030c66b47b715351d1a5b0f588cc6805c89", func := "finesse/finesselaw37.VictoryTells", spec := "victoryTells", unfollowed := true, recurses := true, apart := false }
def VictoryTellsSaid : Prop := victoryTellsRow.holds Try.pinned (OpenSpec.ofChange victoryTellsSpec)

/-- ITS FALSE NEIGHBOUR: 'it returns false'. Refute it at one input. -/
def victoryTellsWrong : ChangeSpec := { name := "victoryTells", fn := fun _ => fun
  | [d1, d2, d3] => { results := [.lit (.bool false)], args := [d1, d2, d3] }
  | _ => none }
def VictoryTellsWrongFalsely : Prop := victoryTellsRow.holds Try.pinned (OpenSpec.ofChange victoryTellsWrong)

/-- 'finesselaw37.VictorySmall': WHATEVER THE INPUT: true; the input reads as it did. -/
def victorySmallSpec : ChangeSpec := { name := "victorySmall", fn := fun _ => fun
  | [] => { results := [.lit (.bool true)], args := [] }
  | _ => none }
def victorySmallRow : OpenClaim := { program := "ytkdbkokiieolpaa", sum := "318112fabf43f2659ad3a6a75a6d7030c66b47b715351d1a5b0f588cc6805c89", func := "finesse/finesselaw37.VictorySmall", spec := "victorySmall", unfollowed := true, recurses := true, apart := false }
def VictorySmallSaid : Prop := victorySmallRow.holds Try.pinned (OpenSpec.ofChange victorySmallSpec)

/-- ITS FALSE NEIGHBOUR: 'it returns false'. Refute it at one input. -/
def victorySmallWrong : ChangeSpec := { name := "victorySmall", fn := fun _ => fun
  | [] => { results := [.lit (.bool false)], args := [] }
  | _ => none }
def VictorySmallWrongFalsely : Prop := victorySmallRow.holds Try.pinned (OpenSpec.ofChange victorySmallWrong)

/-- 'finesselaw37.VictoryTotals': WHATEVER THE INPUT: true; the input reads as it did. -/
def victoryTotalsSpec : ChangeSpec := { name := "victoryTotals", fn := fun _ => fun
  | [d1, d2, d3] => { results := [.lit (.bool true)], args := [d1, d2, d3] }
  | _ => none }
def victoryTotalsRow : OpenClaim := { program := "ytkdbkokiieolpaa", sum := "318112fabf43f2659ad3a6a75a6d7030c66b47b715351d1a5b0f588cc6805c89", func := "finesse/finesselaw37.VictoryTotals", spec := "victoryTotals", unfollowed := true, recurses := true, apart := false }
def VictoryTotalsSaid : Prop := victoryTotalsRow.holds Try.pinned (OpenSpec.ofChange victoryTotalsSpec)

/-- ITS FALSE NEIGHBOUR: 'it returns false'. Refute it at one input. -/
def victoryTotalsWrong : ChangeSpec := { name := "victoryTotals", fn := fun _ => fun
  | [d1, d2, d3] => { results := [.lit (.bool false)], args := [d1, d2, d3] }
  | _ => none }
def VictoryTotalsWrongFalsely : Prop := victoryTotalsRow.holds Try.pinned (OpenSpec.ofChange victoryTotalsWrong)

/-- 'finesselaw37.VictoryWrong': WHATEVER THE INPUT: true; the input reads as it did. -/
def victoryWrongSpec : ChangeSpec := { name := "victoryWrong", fn := fun _ => fun
  | [d1, d2, d3] => { results := [.lit (.bool true)], args := [d1, d2, d3] }
  | _ => none }
def victoryWrongRow : OpenClaim := { program := "ytkdbkokiieolpaa", sum := "318112fabf43f2659ad3a6a75a6d7030c66b47b715351d1a5b0f588cc6805c89", func := "finesse/finesselaw37.VictoryWrong", spec := "victoryWrong", unfollowed := true, recurses := true, apart := false }
def VictoryWrongSaid : Prop := victoryWrongRow.holds Try.pinned (OpenSpec.ofChange victoryWrongSpec)

/-- ITS FALSE NEIGHBOUR: 'it returns false'. Refute it at one input. -/
def victoryWrongWrong : ChangeSpec := { name := "victoryWrong", fn := fun _ => fun
  | [d1, d2, d3] => { results := [.lit (.bool false)], args := [d1, d2, d3] }
  | _ => none }
def VictoryWrongWrongFalsely : Prop := victoryWrongRow.holds Try.pinned (OpenSpec.ofChange victoryWrongWrong)

/- THE SECOND FORM. 'bulk': how many values and letters a reading holds, each counted each time it is reached (what is shared counts as often as it is met; a slice's spare places count too). A statement '..UptoSaid' is the law's where the arguments, and the package variables that the reading takes, are together of bulk at most 1048576: NARROWER than '..Said'. Prove '..Said' where nothing that the law and all that it calls make is longer than what came in: it says more and counts as full. Else prove '..UptoSaid'. A law counts once. -/
mutual
def uptoBulk {H : Type} : DataW H → Nat
  | .lit (.string bytes) => bytes.length + 1
  | .lit _ => 1
  | .nil => 1
  | .ptr d => uptoBulk d + 1
  | .slice elems spare => uptoBulkAll elems + uptoBulkAll spare + 1
  | .agg parts => uptoBulkAll parts + 1
  | .iface _ d => uptoBulk d + 1
  | .map entries => uptoBulkEntries entries + 1
  | .held _ => 1
def uptoBulkAll {H : Type} : List (DataW H) → Nat
  | [] => 0
  | d :: r => uptoBulk d + uptoBulkAll r
def uptoBulkEntries {H : Type} : List (Lit × DataW H) → Nat
  | [] => 0
  | x :: r => uptoBulkEntry x + uptoBulkEntries r
def uptoBulkEntry {H : Type} : Lit × DataW H → Nat
  | (.string bytes, d) => bytes.length + uptoBulk d + 1
  | (_, d) => uptoBulk d + 1
 end
def uptoSmall : (H : Type) → List (DataW H) → Bool := fun _ ds => decide (uptoBulkAll ds ≤ 1048576)
def OpenSpec.upto (s : _root_.Go.ChangeSpec) : _root_.Go.OpenSpec := { _root_.Go.OpenSpec.ofChange s with cond := some uptoSmall }

/-- 'finesselaw37.VictorySums', WHERE WHAT IT READS IS OF BULK AT MOST 1048576: true; the input reads as it did. -/
def victorySumsUptoRow : OpenClaim := { program := "ytkdbkokiieolpaa", sum := "318112fabf43f2659ad3a6a75a6d7030c66b47b715351d1a5b0f588cc6805c89", func := "finesse/finesselaw37.VictorySums", spec := "victorySums", unfollowed := true, recurses := true, apart := false, narrowed := true }
def VictorySumsUptoSaid : Prop := victorySumsUptoRow.holds Try.pinned (OpenSpec.upto victorySumsSpec)

/-- 'finesselaw37.VictoryGaps', WHERE WHAT IT READS IS OF BULK AT MOST 1048576: true; the input reads as it did. -/
def victoryGapsUptoRow : OpenClaim := { program := "ytkdbkokiieolpaa", sum := "318112fabf43f2659ad3a6a75a6d7030c66b47b715351d1a5b0f588cc6805c89", func := "finesse/finesselaw37.VictoryGaps", spec := "victoryGaps", unfollowed := true, recurses := true, apart := false, narrowed := true }
def VictoryGapsUptoSaid : Prop := victoryGapsUptoRow.holds Try.pinned (OpenSpec.upto victoryGapsSpec)

/-- 'finesselaw37.VictoryUsual', WHERE WHAT IT READS IS OF BULK AT MOST 1048576: true; the input reads as it did. -/
def victoryUsualUptoRow : OpenClaim := { program := "ytkdbkokiieolpaa", sum := "318112fabf43f2659ad3a6a75a6d7030c66b47b715351d1a5b0f588cc6805c89", func := "finesse/finesselaw37.VictoryUsual", spec := "victoryUsual", unfollowed := true, recurses := true, apart := false, narrowed := true }
def VictoryUsualUptoSaid : Prop := victoryUsualUptoRow.holds Try.pinned (OpenSpec.upto victoryUsualSpec)

/-- 'finesselaw37.VictoryTells', WHERE WHAT IT READS IS OF BULK AT MOST 1048576: true; the input reads as it did. -/
def victoryTellsUptoRow : OpenClaim := { program := "ytkdbkokiieolpaa", sum := "318112fabf43f2659ad3a6a75a6d7030c66b47b715351d1a5b0f588cc6805c89", func := "finesse/finesselaw37.VictoryTells", spec := "victoryTells", unfollowed := true, recurses := true, apart := false, narrowed := true }
def VictoryTellsUptoSaid : Prop := victoryTellsUptoRow.holds Try.pinned (OpenSpec.upto victoryTellsSpec)

/-- 'finesselaw37.VictorySmall', WHERE WHAT IT READS IS OF BULK AT MOST 1048576: true; the input reads as it did. -/
def victorySmallUptoRow : OpenClaim := { program := "ytkdbkokiieolpaa", sum := "318112fabf43f2659ad3a6a75a6d7030c66b47b715351d1a5b0f588cc6805c89", func := "finesse/finesselaw37.VictorySmall", spec := "victorySmall", unfollowed := true, recurses := true, apart := false, narrowed := true }
def VictorySmallUptoSaid : Prop := victorySmallUptoRow.holds Try.pinned (OpenSpec.upto victorySmallSpec)

/-- 'finesselaw37.VictoryTotals', WHERE WHAT IT READS IS OF BULK AT MOST 1048576: true; the input reads as it did. -/
def victoryTotalsUptoRow : OpenClaim := { program := "ytkdbkokiieolpaa", sum := "318112fabf43f2659ad3a6a75a6d7030c66b47b715351d1a5b0f588cc6805c89", func := "finesse/finesselaw37.VictoryTotals", spec := "victoryTotals", unfollowed := true, recurses := true, apart := false, narrowed := true }
def VictoryTotalsUptoSaid : Prop := victoryTotalsUptoRow.holds Try.pinned (OpenSpec.upto victoryTotalsSpec)

/-- 'finesselaw37.VictoryWrong', WHERE WHAT IT READS IS OF BULK AT MOST 1048576: true; the input reads as it did. -/
def victoryWrongUptoRow : OpenClaim := { program := "ytkdbkokiieolpaa", sum := "318112fabf43f2659ad3a6a75a6d7030c66b47b715351d1a5b0f588cc6805c89", func := "finesse/finesselaw37.VictoryWrong", spec := "victoryWrong", unfollowed := true, recurses := true, apart := false, narrowed := true }
def VictoryWrongUptoSaid : Prop := victoryWrongUptoRow.holds Try.pinned (OpenSpec.upto victoryWrongSpec)

end Rows
end Go.Proofs.Ytkdbkokiieolpaa
