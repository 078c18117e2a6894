/-
  NARROWER THAN 'FOR EVERY INPUT', by the rows' own cells (each row's printed sentence says how): NeubergTells: laid · NeubergFields: laid · NeubergSmall: laid · NeubergShares: laid · NeubergWrong: laid · NeubergFull: laid · NeubergDivided: laid · NeubergSums: laid.
  DERIVED. THE GIVEN ROWS OF THIS SEAT. 8 by the template 'for every input the law returns true; each argument reads behind the call as it read before'; 0 by the template 'total and deterministic' (their statements: YtlobdeakgoicpaaDoorTotals.lean).
  GIVEN WITH THE SEED: the statements are not yours to turn. If you find one false, say at which input.
  Laid BY PROGRAM, IN A SANDBOX (cutbox-rows.mjs): the forced cells as the released guide's own fill.sh prints them over the translation 5adca3cd226db881… (all of the seat's roots in one cut). By AI agents, Wed Nov 11 2026. No macro, syntax, notation, axiom, sorry.
-/
import Derived.Test.YtlobdeakgoicpaaDoorChecked
import GoSem.Claim
import GoSem.ClaimJoined
import GoSem.ClaimMapViews
import Derived.JoinedTies
import Derived.KernelRfl
namespace Go.Proofs.YtlobdeakgoicpaaDoor
/- THE CELL 'sum', in the pinned program and in every row, IS THE sha256 OF THE DUMP (.gsa) THAT YtlobdeakgoicpaaDoorProg.lean LOADS. Nothing in Lean hashes anything: it is a label: what it is worth is what the hold of that sum in a sandbox is worth. -/
noncomputable def Tryd.pinned : Pinned := { name := "ytlobdeakgoicpaadoor", sum := "5adca3cd226db8819ca57f152ee56da2c73ca4ba08c301be9bf67cc9a03367b9", checked := Tryd.checked }
namespace Rows
def none {H : Type} : Left H := { results := [], args := [] }

/- WHAT THE LISTED PACKAGE-LEVEL VARIABLES READ AS WHEN THE CALL BEGINS. Each datum BY PROGRAM (the guide's laid-datum.mjs) off the statement by which the dump's own 'gosem.cut.vars' lays the variable. In a bare row this is a premise. The card (YtlobdeakgoicpaaDoorCards.lean) ties it to the program's text. -/
def laid_finesse_match_gets {H : Type} : DataW H := .agg [.lit (.int .i64 0), .lit (.int .i64 1), .lit (.int .i64 2)]

/-- 'finesselaw21.NeubergTells': WHATEVER THE INPUT: true; the input reads as it did. -/
def neubergTellsSpec : ChangeSpec := { name := "neubergTells", fn := fun _ => fun
  | [d1, d2, d3, d4] => { results := [.lit (.bool true)], args := [d1, d2, d3, d4] }
  | _ => none }
def neubergTellsRow : OpenClaim := { program := "ytlobdeakgoicpaadoor", sum := "5adca3cd226db8819ca57f152ee56da2c73ca4ba08c301be9bf67cc9a03367b9", func := "finesse/finesselaw21.NeubergTells", spec := "neubergTells", inPlace := ["math/bits.Add64", "math/bits.Sub64"], unfollowed := true, recurses := true, named := ["math/bits.divideError", "math/bits.overflowError", "finesse/match.gets"], apart := false, laid := [("finesse/match.gets", laid_finesse_match_gets)] }
def NeubergTellsSaid : Prop := neubergTellsRow.holds Tryd.pinned (OpenSpec.ofChange neubergTellsSpec)

/-- ITS FALSE NEIGHBOUR: 'it returns false'. Refute it at one input. -/
def neubergTellsWrong : ChangeSpec := { name := "neubergTells", fn := fun _ => fun
  | [d1, d2, d3, d4] => { results := [.lit (.bool false)], args := [d1, d2, d3, d4] }
  | _ => none }
def NeubergTellsWrongFalsely : Prop := neubergTellsRow.holds Tryd.pinned (OpenSpec.ofChange neubergTellsWrong)

/-- 'finesselaw21.NeubergFields': WHATEVER THE INPUT: true; the input reads as it did. -/
def neubergFieldsSpec : ChangeSpec := { name := "neubergFields", fn := fun _ => fun
  | [d1, d2] => { results := [.lit (.bool true)], args := [d1, d2] }
  | _ => none }
def neubergFieldsRow : OpenClaim := { program := "ytlobdeakgoicpaadoor", sum := "5adca3cd226db8819ca57f152ee56da2c73ca4ba08c301be9bf67cc9a03367b9", func := "finesse/finesselaw21.NeubergFields", spec := "neubergFields", inPlace := ["math/bits.Add64", "math/bits.Sub64"], unfollowed := true, recurses := true, named := ["math/bits.divideError", "math/bits.overflowError", "finesse/match.gets"], apart := false, laid := [("finesse/match.gets", laid_finesse_match_gets)] }
def NeubergFieldsSaid : Prop := neubergFieldsRow.holds Tryd.pinned (OpenSpec.ofChange neubergFieldsSpec)

/-- ITS FALSE NEIGHBOUR: 'it returns false'. Refute it at one input. -/
def neubergFieldsWrong : ChangeSpec := { name := "neubergFields", fn := fun _ => fun
  | [d1, d2] => { results := [.lit (.bool false)], args := [d1, d2] }
  | _ => none }
def NeubergFieldsWrongFalsely : Prop := neubergFieldsRow.holds Tryd.pinned (OpenSpec.ofChange neubergFieldsWrong)

/-- 'finesselaw21.NeubergSmall': WHATEVER THE INPUT: true; the input reads as it did. -/
def neubergSmallSpec : ChangeSpec := { name := "neubergSmall", fn := fun _ => fun
  | [] => { results := [.lit (.bool true)], args := [] }
  | _ => none }
def neubergSmallRow : OpenClaim := { program := "ytlobdeakgoicpaadoor", sum := "5adca3cd226db8819ca57f152ee56da2c73ca4ba08c301be9bf67cc9a03367b9", func := "finesse/finesselaw21.NeubergSmall", spec := "neubergSmall", inPlace := ["math/bits.Add64", "math/bits.Sub64"], unfollowed := true, recurses := true, named := ["math/bits.divideError", "math/bits.overflowError", "finesse/match.gets"], apart := false, laid := [("finesse/match.gets", laid_finesse_match_gets)] }
def NeubergSmallSaid : Prop := neubergSmallRow.holds Tryd.pinned (OpenSpec.ofChange neubergSmallSpec)

/-- ITS FALSE NEIGHBOUR: 'it returns false'. Refute it at one input. -/
def neubergSmallWrong : ChangeSpec := { name := "neubergSmall", fn := fun _ => fun
  | [] => { results := [.lit (.bool false)], args := [] }
  | _ => none }
def NeubergSmallWrongFalsely : Prop := neubergSmallRow.holds Tryd.pinned (OpenSpec.ofChange neubergSmallWrong)

/-- 'finesselaw21.NeubergShares': WHATEVER THE INPUT: true; the input reads as it did. -/
def neubergSharesSpec : ChangeSpec := { name := "neubergShares", fn := fun _ => fun
  | [d1, d2] => { results := [.lit (.bool true)], args := [d1, d2] }
  | _ => none }
def neubergSharesRow : OpenClaim := { program := "ytlobdeakgoicpaadoor", sum := "5adca3cd226db8819ca57f152ee56da2c73ca4ba08c301be9bf67cc9a03367b9", func := "finesse/finesselaw21.NeubergShares", spec := "neubergShares", inPlace := ["math/bits.Add64", "math/bits.Sub64"], unfollowed := true, recurses := true, named := ["math/bits.divideError", "math/bits.overflowError", "finesse/match.gets"], apart := false, laid := [("finesse/match.gets", laid_finesse_match_gets)] }
def NeubergSharesSaid : Prop := neubergSharesRow.holds Tryd.pinned (OpenSpec.ofChange neubergSharesSpec)

/-- ITS FALSE NEIGHBOUR: 'it returns false'. Refute it at one input. -/
def neubergSharesWrong : ChangeSpec := { name := "neubergShares", fn := fun _ => fun
  | [d1, d2] => { results := [.lit (.bool false)], args := [d1, d2] }
  | _ => none }
def NeubergSharesWrongFalsely : Prop := neubergSharesRow.holds Tryd.pinned (OpenSpec.ofChange neubergSharesWrong)

/-- 'finesselaw21.NeubergWrong': WHATEVER THE INPUT: true; the input reads as it did. -/
def neubergWrongSpec : ChangeSpec := { name := "neubergWrong", fn := fun _ => fun
  | [d1, d2] => { results := [.lit (.bool true)], args := [d1, d2] }
  | _ => none }
def neubergWrongRow : OpenClaim := { program := "ytlobdeakgoicpaadoor", sum := "5adca3cd226db8819ca57f152ee56da2c73ca4ba08c301be9bf67cc9a03367b9", func := "finesse/finesselaw21.NeubergWrong", spec := "neubergWrong", inPlace := ["math/bits.Add64", "math/bits.Sub64"], unfollowed := true, recurses := true, named := ["math/bits.divideError", "math/bits.overflowError", "finesse/match.gets"], apart := false, laid := [("finesse/match.gets", laid_finesse_match_gets)] }
def NeubergWrongSaid : Prop := neubergWrongRow.holds Tryd.pinned (OpenSpec.ofChange neubergWrongSpec)

/-- ITS FALSE NEIGHBOUR: 'it returns false'. Refute it at one input. -/
def neubergWrongWrong : ChangeSpec := { name := "neubergWrong", fn := fun _ => fun
  | [d1, d2] => { results := [.lit (.bool false)], args := [d1, d2] }
  | _ => none }
def NeubergWrongWrongFalsely : Prop := neubergWrongRow.holds Tryd.pinned (OpenSpec.ofChange neubergWrongWrong)

/-- 'finesselaw21.NeubergFull': WHATEVER THE INPUT: true; the input reads as it did. -/
def neubergFullSpec : ChangeSpec := { name := "neubergFull", fn := fun _ => fun
  | [d1, d2] => { results := [.lit (.bool true)], args := [d1, d2] }
  | _ => none }
def neubergFullRow : OpenClaim := { program := "ytlobdeakgoicpaadoor", sum := "5adca3cd226db8819ca57f152ee56da2c73ca4ba08c301be9bf67cc9a03367b9", func := "finesse/finesselaw21.NeubergFull", spec := "neubergFull", inPlace := ["math/bits.Add64", "math/bits.Sub64"], unfollowed := true, recurses := true, named := ["math/bits.divideError", "math/bits.overflowError", "finesse/match.gets"], apart := false, laid := [("finesse/match.gets", laid_finesse_match_gets)] }
def NeubergFullSaid : Prop := neubergFullRow.holds Tryd.pinned (OpenSpec.ofChange neubergFullSpec)

/-- ITS FALSE NEIGHBOUR: 'it returns false'. Refute it at one input. -/
def neubergFullWrong : ChangeSpec := { name := "neubergFull", fn := fun _ => fun
  | [d1, d2] => { results := [.lit (.bool false)], args := [d1, d2] }
  | _ => none }
def NeubergFullWrongFalsely : Prop := neubergFullRow.holds Tryd.pinned (OpenSpec.ofChange neubergFullWrong)

/-- 'finesselaw21.NeubergDivided': WHATEVER THE INPUT: true; the input reads as it did. -/
def neubergDividedSpec : ChangeSpec := { name := "neubergDivided", fn := fun _ => fun
  | [d1, d2] => { results := [.lit (.bool true)], args := [d1, d2] }
  | _ => none }
def neubergDividedRow : OpenClaim := { program := "ytlobdeakgoicpaadoor", sum := "5adca3cd226db8819ca57f152ee56da2c73ca4ba08c301be9bf67cc9a03367b9", func := "finesse/finesselaw21.NeubergDivided", spec := "neubergDivided", inPlace := ["math/bits.Add64", "math/bits.Sub64"], unfollowed := true, recurses := true, named := ["math/bits.divideError", "math/bits.overflowError", "finesse/match.gets"], apart := false, laid := [("finesse/match.gets", laid_finesse_match_gets)] }
def NeubergDividedSaid : Prop := neubergDividedRow.holds Tryd.pinned (OpenSpec.ofChange neubergDividedSpec)

/-- ITS FALSE NEIGHBOUR: 'it returns false'. Refute it at one input. -/
def neubergDividedWrong : ChangeSpec := { name := "neubergDivided", fn := fun _ => fun
  | [d1, d2] => { results := [.lit (.bool false)], args := [d1, d2] }
  | _ => none }
def NeubergDividedWrongFalsely : Prop := neubergDividedRow.holds Tryd.pinned (OpenSpec.ofChange neubergDividedWrong)

/-- 'finesselaw21.NeubergSums': WHATEVER THE INPUT: true; the input reads as it did. -/
def neubergSumsSpec : ChangeSpec := { name := "neubergSums", fn := fun _ => fun
  | [d1, d2] => { results := [.lit (.bool true)], args := [d1, d2] }
  | _ => none }
def neubergSumsRow : OpenClaim := { program := "ytlobdeakgoicpaadoor", sum := "5adca3cd226db8819ca57f152ee56da2c73ca4ba08c301be9bf67cc9a03367b9", func := "finesse/finesselaw21.NeubergSums", spec := "neubergSums", inPlace := ["math/bits.Add64", "math/bits.Sub64"], unfollowed := true, recurses := true, named := ["finesse/match.gets", "math/bits.divideError", "math/bits.overflowError"], apart := false, laid := [("finesse/match.gets", laid_finesse_match_gets)] }
def NeubergSumsSaid : Prop := neubergSumsRow.holds Tryd.pinned (OpenSpec.ofChange neubergSumsSpec)

/-- ITS FALSE NEIGHBOUR: 'it returns false'. Refute it at one input. -/
def neubergSumsWrong : ChangeSpec := { name := "neubergSums", fn := fun _ => fun
  | [d1, d2] => { results := [.lit (.bool false)], args := [d1, d2] }
  | _ => none }
def NeubergSumsWrongFalsely : Prop := neubergSumsRow.holds Tryd.pinned (OpenSpec.ofChange neubergSumsWrong)

/- THE SECOND FORM. 'bulk': how many values and letters a reading holds, each counted each time it is reached (what is shared counts as often as it is met; a slice's spare places count too). A statement '..UptoSaid' is the law's where the arguments, and the package variables that the reading takes, are together of bulk at most 1048576: NARROWER than '..Said'. Prove '..Said' where nothing that the law and all that it calls make is longer than what came in: it says more and counts as full. Else prove '..UptoSaid'. A law counts once. -/
mutual
def uptoBulk {H : Type} : DataW H → Nat
  | .lit (.string bytes) => bytes.length + 1
  | .lit _ => 1
  | .nil => 1
  | .ptr d => uptoBulk d + 1
  | .slice elems spare => uptoBulkAll elems + uptoBulkAll spare + 1
  | .agg parts => uptoBulkAll parts + 1
  | .iface _ d => uptoBulk d + 1
  | .map entries => uptoBulkEntries entries + 1
  | .held _ => 1
def uptoBulkAll {H : Type} : List (DataW H) → Nat
  | [] => 0
  | d :: r => uptoBulk d + uptoBulkAll r
def uptoBulkEntries {H : Type} : List (Lit × DataW H) → Nat
  | [] => 0
  | x :: r => uptoBulkEntry x + uptoBulkEntries r
def uptoBulkEntry {H : Type} : Lit × DataW H → Nat
  | (.string bytes, d) => bytes.length + uptoBulk d + 1
  | (_, d) => uptoBulk d + 1
 end
def uptoSmall : (H : Type) → List (DataW H) → Bool := fun _ ds => decide (uptoBulkAll ds ≤ 1048576)
def OpenSpec.upto (s : _root_.Go.ChangeSpec) : _root_.Go.OpenSpec := { _root_.Go.OpenSpec.ofChange s with cond := some uptoSmall }

/-- 'finesselaw21.NeubergTells', WHERE WHAT IT READS IS OF BULK AT MOST 1048576: true; the input reads as it did. -/
def neubergTellsUptoRow : OpenClaim := { program := "ytlobdeakgoicpaadoor", sum := "5adca3cd226db8819ca57f152ee56da2c73ca4ba08c301be9bf67cc9a03367b9", func := "finesse/finesselaw21.NeubergTells", spec := "neubergTells", inPlace := ["math/bits.Add64", "math/bits.Sub64"], unfollowed := true, recurses := true, named := ["math/bits.divideError", "math/bits.overflowError", "finesse/match.gets"], apart := false, laid := [("finesse/match.gets", laid_finesse_match_gets)], narrowed := true }
def NeubergTellsUptoSaid : Prop := neubergTellsUptoRow.holds Tryd.pinned (OpenSpec.upto neubergTellsSpec)

/-- 'finesselaw21.NeubergFields', WHERE WHAT IT READS IS OF BULK AT MOST 1048576: true; the input reads as it did. -/
def neubergFieldsUptoRow : OpenClaim := { program := "ytlobdeakgoicpaadoor", sum := "5adca3cd226db8819ca57f152ee56da2c73ca4ba08c301be9bf67cc9a03367b9", func := "finesse/finesselaw21.NeubergFields", spec := "neubergFields", inPlace := ["math/bits.Add64", "math/bits.Sub64"], unfollowed := true, recurses := true, named := ["math/bits.divideError", "math/bits.overflowError", "finesse/match.gets"], apart := false, laid := [("finesse/match.gets", laid_finesse_match_gets)], narrowed := true }
def NeubergFieldsUptoSaid : Prop := neubergFieldsUptoRow.holds Tryd.pinned (OpenSpec.upto neubergFieldsSpec)

/-- 'finesselaw21.NeubergSmall', WHERE WHAT IT READS IS OF BULK AT MOST 1048576: true; the input reads as it did. -/
def neubergSmallUptoRow : OpenClaim := { program := "ytlobdeakgoicpaadoor", sum := "5adca3cd226db8819ca57f152ee56da2c73ca4ba08c301be9bf67cc9a03367b9", func := "finesse/finesselaw21.NeubergSmall", spec := "neubergSmall", inPlace := ["math/bits.Add64", "math/bits.Sub64"], unfollowed := true, recurses := true, named := ["math/bits.divideError", "math/bits.overflowError", "finesse/match.gets"], apart := false, laid := [("finesse/match.gets", laid_finesse_match_gets)], narrowed := true }
def NeubergSmallUptoSaid : Prop := neubergSmallUptoRow.holds Tryd.pinned (OpenSpec.upto neubergSmallSpec)

/-- 'finesselaw21.NeubergShares', WHERE WHAT IT READS IS OF BULK AT MOST 1048576: true; the input reads as it did. -/
def neubergSharesUptoRow : OpenClaim := { program := "ytlobdeakgoicpaadoor", sum := "5adca3cd226db8819ca57f152ee56da2c73ca4ba08c301be9bf67cc9a03367b9", func := "finesse/finesselaw21.NeubergShares", spec := "neubergShares", inPlace := ["math/bits.Add64", "math/bits.Sub64"], unfollowed := true, recurses := true, named := ["math/bits.divideError", "math/bits.overflowError", "finesse/match.gets"], apart := false, laid := [("finesse/match.gets", laid_finesse_match_gets)], narrowed := true }
def NeubergSharesUptoSaid : Prop := neubergSharesUptoRow.holds Tryd.pinned (OpenSpec.upto neubergSharesSpec)

/-- 'finesselaw21.NeubergWrong', WHERE WHAT IT READS IS OF BULK AT MOST 1048576: true; the input reads as it did. -/
def neubergWrongUptoRow : OpenClaim := { program := "ytlobdeakgoicpaadoor", sum := "5adca3cd226db8819ca57f152ee56da2c73ca4ba08c301be9bf67cc9a03367b9", func := "finesse/finesselaw21.NeubergWrong", spec := "neubergWrong", inPlace := ["math/bits.Add64", "math/bits.Sub64"], unfollowed := true, recurses := true, named := ["math/bits.divideError", "math/bits.overflowError", "finesse/match.gets"], apart := false, laid := [("finesse/match.gets", laid_finesse_match_gets)], narrowed := true }
def NeubergWrongUptoSaid : Prop := neubergWrongUptoRow.holds Tryd.pinned (OpenSpec.upto neubergWrongSpec)

/-- 'finesselaw21.NeubergFull', WHERE WHAT IT READS IS OF BULK AT MOST 1048576: true; the input reads as it did. -/
def neubergFullUptoRow : OpenClaim := { program := "ytlobdeakgoicpaadoor", sum := "5adca3cd226db8819ca57f152ee56da2c73ca4ba08c301be9bf67cc9a03367b9", func := "finesse/finesselaw21.NeubergFull", spec := "neubergFull", inPlace := ["math/bits.Add64", "math/bits.Sub64"], unfollowed := true, recurses := true, named := ["math/bits.divideError", "math/bits.overflowError", "finesse/match.gets"], apart := false, laid := [("finesse/match.gets", laid_finesse_match_gets)], narrowed := true }
def NeubergFullUptoSaid : Prop := neubergFullUptoRow.holds Tryd.pinned (OpenSpec.upto neubergFullSpec)

/-- 'finesselaw21.NeubergDivided', WHERE WHAT IT READS IS OF BULK AT MOST 1048576: true; the input reads as it did. -/
def neubergDividedUptoRow : OpenClaim := { program := "ytlobdeakgoicpaadoor", sum := "5adca3cd226db8819ca57f152ee56da2c73ca4ba08c301be9bf67cc9a03367b9", func := "finesse/finesselaw21.NeubergDivided", spec := "neubergDivided", inPlace := ["math/bits.Add64", "math/bits.Sub64"], unfollowed := true, recurses := true, named := ["math/bits.divideError", "math/bits.overflowError", "finesse/match.gets"], apart := false, laid := [("finesse/match.gets", laid_finesse_match_gets)], narrowed := true }
def NeubergDividedUptoSaid : Prop := neubergDividedUptoRow.holds Tryd.pinned (OpenSpec.upto neubergDividedSpec)

/-- 'finesselaw21.NeubergSums', WHERE WHAT IT READS IS OF BULK AT MOST 1048576: true; the input reads as it did. -/
def neubergSumsUptoRow : OpenClaim := { program := "ytlobdeakgoicpaadoor", sum := "5adca3cd226db8819ca57f152ee56da2c73ca4ba08c301be9bf67cc9a03367b9", func := "finesse/finesselaw21.NeubergSums", spec := "neubergSums", inPlace := ["math/bits.Add64", "math/bits.Sub64"], unfollowed := true, recurses := true, named := ["finesse/match.gets", "math/bits.divideError", "math/bits.overflowError"], apart := false, laid := [("finesse/match.gets", laid_finesse_match_gets)], narrowed := true }
def NeubergSumsUptoSaid : Prop := neubergSumsUptoRow.holds Tryd.pinned (OpenSpec.upto neubergSumsSpec)

end Rows
end Go.Proofs.YtlobdeakgoicpaaDoor
