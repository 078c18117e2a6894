/-
  NARROWER THAN 'FOR EVERY INPUT', by the rows' own cells (each row's printed sentence says how): MatchPoints: laid · MatchSplit: laid · MatchTells: laid · MatchWrong: laid · MatchOrder: laid · MatchPairs: laid · MatchSums: laid.
  DERIVED. THE GIVEN ROWS OF THIS SEAT. 7 by the template 'for every input the law returns true; each argument reads behind the call as it read before'; 0 by the template 'total and deterministic' (their statements: YteemknjnlocgpaaDoorTotals.lean).
  GIVEN WITH THE SEED: the statements are not yours to turn. If you find one false, say at which input.
  Laid BY PROGRAM, IN A SANDBOX (cutbox-rows.mjs): the forced cells as the released guide's own fill.sh prints them over the translation 0f5ba0ba3f7a1484… (all of the seat's roots in one cut). By AI agents, Wed Nov 11 2026. No macro, syntax, notation, axiom, sorry.
-/
import Derived.Test.YteemknjnlocgpaaDoorChecked
import GoSem.Claim
import GoSem.ClaimJoined
import GoSem.ClaimMapViews
import Derived.JoinedTies
import Derived.KernelRfl
namespace Go.Proofs.YteemknjnlocgpaaDoor
/- THE CELL 'sum', in the pinned program and in every row, IS THE sha256 OF THE DUMP (.gsa) THAT YteemknjnlocgpaaDoorProg.lean LOADS. Nothing in Lean hashes anything: it is a label: what it is worth is what the hold of that sum in a sandbox is worth. -/
noncomputable def Tryd.pinned : Pinned := { name := "yteemknjnlocgpaadoor", sum := "0f5ba0ba3f7a148415b931b5aae3b4c58e1501f3567fbce8df34634a99695c25", checked := Tryd.checked }
namespace Rows
def none {H : Type} : Left H := { results := [], args := [] }

/- WHAT THE LISTED PACKAGE-LEVEL VARIABLES READ AS WHEN THE CALL BEGINS. Each datum BY PROGRAM (the guide's laid-datum.mjs) off the statement by which the dump's own 'gosem.cut.vars' lays the variable. In a bare row this is a premise. The card (YteemknjnlocgpaaDoorCards.lean) ties it to the program's text. -/
def laid_finesse_match_gets {H : Type} : DataW H := .agg [.lit (.int .i64 0), .lit (.int .i64 1), .lit (.int .i64 2)]

/-- 'finesselaw20.MatchPoints': WHATEVER THE INPUT: true; the input reads as it did. -/
def matchPointsSpec : ChangeSpec := { name := "matchPoints", fn := fun _ => fun
  | [d] => { results := [.lit (.bool true)], args := [d] }
  | _ => none }
def matchPointsRow : OpenClaim := { program := "yteemknjnlocgpaadoor", sum := "0f5ba0ba3f7a148415b931b5aae3b4c58e1501f3567fbce8df34634a99695c25", func := "finesse/finesselaw20.MatchPoints", spec := "matchPoints", unfollowed := true, recurses := true, named := ["finesse/match.gets"], apart := false, laid := [("finesse/match.gets", laid_finesse_match_gets)] }
def MatchPointsSaid : Prop := matchPointsRow.holds Tryd.pinned (OpenSpec.ofChange matchPointsSpec)

/-- ITS FALSE NEIGHBOUR: 'it returns false'. Refute it at one input. -/
def matchPointsWrong : ChangeSpec := { name := "matchPoints", fn := fun _ => fun
  | [d] => { results := [.lit (.bool false)], args := [d] }
  | _ => none }
def MatchPointsWrongFalsely : Prop := matchPointsRow.holds Tryd.pinned (OpenSpec.ofChange matchPointsWrong)

/-- 'finesselaw20.MatchSplit': WHATEVER THE INPUT: true; the input reads as it did. -/
def matchSplitSpec : ChangeSpec := { name := "matchSplit", fn := fun _ => fun
  | [d1, d2, d3, d4] => { results := [.lit (.bool true)], args := [d1, d2, d3, d4] }
  | _ => none }
def matchSplitRow : OpenClaim := { program := "yteemknjnlocgpaadoor", sum := "0f5ba0ba3f7a148415b931b5aae3b4c58e1501f3567fbce8df34634a99695c25", func := "finesse/finesselaw20.MatchSplit", spec := "matchSplit", unfollowed := true, recurses := true, named := ["finesse/match.gets"], apart := false, laid := [("finesse/match.gets", laid_finesse_match_gets)] }
def MatchSplitSaid : Prop := matchSplitRow.holds Tryd.pinned (OpenSpec.ofChange matchSplitSpec)

/-- ITS FALSE NEIGHBOUR: 'it returns false'. Refute it at one input. -/
def matchSplitWrong : ChangeSpec := { name := "matchSplit", fn := fun _ => fun
  | [d1, d2, d3, d4] => { results := [.lit (.bool false)], args := [d1, d2, d3, d4] }
  | _ => none }
def MatchSplitWrongFalsely : Prop := matchSplitRow.holds Tryd.pinned (OpenSpec.ofChange matchSplitWrong)

/-- 'finesselaw20.MatchTells': WHATEVER THE INPUT: true; the input reads as it did. -/
def matchTellsSpec : ChangeSpec := { name := "matchTells", fn := fun _ => fun
  | [d1, d2, d3] => { results := [.lit (.bool true)], args := [d1, d2, d3] }
  | _ => none }
def matchTellsRow : OpenClaim := { program := "yteemknjnlocgpaadoor", sum := "0f5ba0ba3f7a148415b931b5aae3b4c58e1501f3567fbce8df34634a99695c25", func := "finesse/finesselaw20.MatchTells", spec := "matchTells", unfollowed := true, recurses := true, named := ["finesse/match.gets"], apart := false, laid := [("finesse/match.gets", laid_finesse_match_gets)] }
def MatchTellsSaid : Prop := matchTellsRow.holds Tryd.pinned (OpenSpec.ofChange matchTellsSpec)

/-- ITS FALSE NEIGHBOUR: 'it returns false'. Refute it at one input. -/
def matchTellsWrong : ChangeSpec := { name := "matchTells", fn := fun _ => fun
  | [d1, d2, d3] => { results := [.lit (.bool false)], args := [d1, d2, d3] }
  | _ => none }
def MatchTellsWrongFalsely : Prop := matchTellsRow.holds Tryd.pinned (OpenSpec.ofChange matchTellsWrong)

/-- 'finesselaw20.MatchWrong': WHATEVER THE INPUT: true; the input reads as it did. -/
def matchWrongSpec : ChangeSpec := { name := "matchWrong", fn := fun _ => fun
  | [d1, d2] => { results := [.lit (.bool true)], args := [d1, d2] }
  | _ => none }
def matchWrongRow : OpenClaim := { program := "yteemknjnlocgpaadoor", sum := "0f5ba0ba3f7a148415b931b5aae3b4c58e1501f3567fbce8df34634a99695c25", func := "finesse/finesselaw20.MatchWrong", spec := "matchWrong", unfollowed := true, recurses := true, named := ["finesse/match.gets"], apart := false, laid := [("finesse/match.gets", laid_finesse_match_gets)] }
def MatchWrongSaid : Prop := matchWrongRow.holds Tryd.pinned (OpenSpec.ofChange matchWrongSpec)

/-- ITS FALSE NEIGHBOUR: 'it returns false'. Refute it at one input. -/
def matchWrongWrong : ChangeSpec := { name := "matchWrong", fn := fun _ => fun
  | [d1, d2] => { results := [.lit (.bool false)], args := [d1, d2] }
  | _ => none }
def MatchWrongWrongFalsely : Prop := matchWrongRow.holds Tryd.pinned (OpenSpec.ofChange matchWrongWrong)

/-- 'finesselaw20.MatchOrder': WHATEVER THE INPUT: true; the input reads as it did. -/
def matchOrderSpec : ChangeSpec := { name := "matchOrder", fn := fun _ => fun
  | [d1, d2] => { results := [.lit (.bool true)], args := [d1, d2] }
  | _ => none }
def matchOrderRow : OpenClaim := { program := "yteemknjnlocgpaadoor", sum := "0f5ba0ba3f7a148415b931b5aae3b4c58e1501f3567fbce8df34634a99695c25", func := "finesse/finesselaw20.MatchOrder", spec := "matchOrder", unfollowed := true, recurses := true, named := ["finesse/match.gets"], apart := false, laid := [("finesse/match.gets", laid_finesse_match_gets)] }
def MatchOrderSaid : Prop := matchOrderRow.holds Tryd.pinned (OpenSpec.ofChange matchOrderSpec)

/-- ITS FALSE NEIGHBOUR: 'it returns false'. Refute it at one input. -/
def matchOrderWrong : ChangeSpec := { name := "matchOrder", fn := fun _ => fun
  | [d1, d2] => { results := [.lit (.bool false)], args := [d1, d2] }
  | _ => none }
def MatchOrderWrongFalsely : Prop := matchOrderRow.holds Tryd.pinned (OpenSpec.ofChange matchOrderWrong)

/-- 'finesselaw20.MatchPairs': WHATEVER THE INPUT: true; the input reads as it did. -/
def matchPairsSpec : ChangeSpec := { name := "matchPairs", fn := fun _ => fun
  | [d] => { results := [.lit (.bool true)], args := [d] }
  | _ => none }
def matchPairsRow : OpenClaim := { program := "yteemknjnlocgpaadoor", sum := "0f5ba0ba3f7a148415b931b5aae3b4c58e1501f3567fbce8df34634a99695c25", func := "finesse/finesselaw20.MatchPairs", spec := "matchPairs", inPlace := ["math/bits.Add64", "math/bits.Sub64"], unfollowed := true, recurses := true, named := ["finesse/match.gets", "math/bits.divideError", "math/bits.overflowError"], apart := false, laid := [("finesse/match.gets", laid_finesse_match_gets)] }
def MatchPairsSaid : Prop := matchPairsRow.holds Tryd.pinned (OpenSpec.ofChange matchPairsSpec)

/-- ITS FALSE NEIGHBOUR: 'it returns false'. Refute it at one input. -/
def matchPairsWrong : ChangeSpec := { name := "matchPairs", fn := fun _ => fun
  | [d] => { results := [.lit (.bool false)], args := [d] }
  | _ => none }
def MatchPairsWrongFalsely : Prop := matchPairsRow.holds Tryd.pinned (OpenSpec.ofChange matchPairsWrong)

/-- 'finesselaw20.MatchSums': WHATEVER THE INPUT: true; the input reads as it did. -/
def matchSumsSpec : ChangeSpec := { name := "matchSums", fn := fun _ => fun
  | [d] => { results := [.lit (.bool true)], args := [d] }
  | _ => none }
def matchSumsRow : OpenClaim := { program := "yteemknjnlocgpaadoor", sum := "0f5ba0ba3f7a148415b931b5aae3b4c58e1501f3567fbce8df34634a99695c25", func := "finesse/finesselaw20.MatchSums", spec := "matchSums", inPlace := ["math/bits.Add64", "math/bits.Sub64"], unfollowed := true, recurses := true, named := ["finesse/match.gets", "math/bits.divideError", "math/bits.overflowError"], apart := false, laid := [("finesse/match.gets", laid_finesse_match_gets)] }
def MatchSumsSaid : Prop := matchSumsRow.holds Tryd.pinned (OpenSpec.ofChange matchSumsSpec)

/-- ITS FALSE NEIGHBOUR: 'it returns false'. Refute it at one input. -/
def matchSumsWrong : ChangeSpec := { name := "matchSums", fn := fun _ => fun
  | [d] => { results := [.lit (.bool false)], args := [d] }
  | _ => none }
def MatchSumsWrongFalsely : Prop := matchSumsRow.holds Tryd.pinned (OpenSpec.ofChange matchSumsWrong)

/- THE SECOND FORM. 'bulk': how many values and letters a reading holds, each counted each time it is reached (what is shared counts as often as it is met; a slice's spare places count too). A statement '..UptoSaid' is the law's where the arguments, and the package variables that the reading takes, are together of bulk at most 1048576: NARROWER than '..Said'. Prove '..Said' where nothing that the law and all that it calls make is longer than what came in: it says more and counts as full. Else prove '..UptoSaid'. A law counts once. -/
mutual
def uptoBulk {H : Type} : DataW H → Nat
  | .lit (.string bytes) => bytes.length + 1
  | .lit _ => 1
  | .nil => 1
  | .ptr d => uptoBulk d + 1
  | .slice elems spare => uptoBulkAll elems + uptoBulkAll spare + 1
  | .agg parts => uptoBulkAll parts + 1
  | .iface _ d => uptoBulk d + 1
  | .map entries => uptoBulkEntries entries + 1
  | .held _ => 1
def uptoBulkAll {H : Type} : List (DataW H) → Nat
  | [] => 0
  | d :: r => uptoBulk d + uptoBulkAll r
def uptoBulkEntries {H : Type} : List (Lit × DataW H) → Nat
  | [] => 0
  | x :: r => uptoBulkEntry x + uptoBulkEntries r
def uptoBulkEntry {H : Type} : Lit × DataW H → Nat
  | (.string bytes, d) => bytes.length + uptoBulk d + 1
  | (_, d) => uptoBulk d + 1
 end
def uptoSmall : (H : Type) → List (DataW H) → Bool := fun _ ds => decide (uptoBulkAll ds ≤ 1048576)
def OpenSpec.upto (s : _root_.Go.ChangeSpec) : _root_.Go.OpenSpec := { _root_.Go.OpenSpec.ofChange s with cond := some uptoSmall }

/-- 'finesselaw20.MatchPoints', WHERE WHAT IT READS IS OF BULK AT MOST 1048576: true; the input reads as it did. -/
def matchPointsUptoRow : OpenClaim := { program := "yteemknjnlocgpaadoor", sum := "0f5ba0ba3f7a148415b931b5aae3b4c58e1501f3567fbce8df34634a99695c25", func := "finesse/finesselaw20.MatchPoints", spec := "matchPoints", unfollowed := true, recurses := true, named := ["finesse/match.gets"], apart := false, laid := [("finesse/match.gets", laid_finesse_match_gets)], narrowed := true }
def MatchPointsUptoSaid : Prop := matchPointsUptoRow.holds Tryd.pinned (OpenSpec.upto matchPointsSpec)

/-- 'finesselaw20.MatchSplit', WHERE WHAT IT READS IS OF BULK AT MOST 1048576: true; the input reads as it did. -/
def matchSplitUptoRow : OpenClaim := { program := "yteemknjnlocgpaadoor", sum := "0f5ba0ba3f7a148415b931b5aae3b4c58e1501f3567fbce8df34634a99695c25", func := "finesse/finesselaw20.MatchSplit", spec := "matchSplit", unfollowed := true, recurses := true, named := ["finesse/match.gets"], apart := false, laid := [("finesse/match.gets", laid_finesse_match_gets)], narrowed := true }
def MatchSplitUptoSaid : Prop := matchSplitUptoRow.holds Tryd.pinned (OpenSpec.upto matchSplitSpec)

/-- 'finesselaw20.MatchTells', WHERE WHAT IT READS IS OF BULK AT MOST 1048576: true; the input reads as it did. -/
def matchTellsUptoRow : OpenClaim := { program := "yteemknjnlocgpaadoor", sum := "0f5ba0ba3f7a148415b931b5aae3b4c58e1501f3567fbce8df34634a99695c25", func := "finesse/finesselaw20.MatchTells", spec := "matchTells", unfollowed := true, recurses := true, named := ["finesse/match.gets"], apart := false, laid := [("finesse/match.gets", laid_finesse_match_gets)], narrowed := true }
def MatchTellsUptoSaid : Prop := matchTellsUptoRow.holds Tryd.pinned (OpenSpec.upto matchTellsSpec)

/-- 'finesselaw20.MatchWrong', WHERE WHAT IT READS IS OF BULK AT MOST 1048576: true; the input reads as it did. -/
def matchWrongUptoRow : OpenClaim := { program := "yteemknjnlocgpaadoor", sum := "0f5ba0ba3f7a148415b931b5aae3b4c58e1501f3567fbce8df34634a99695c25", func := "finesse/finesselaw20.MatchWrong", spec := "matchWrong", unfollowed := true, recurses := true, named := ["finesse/match.gets"], apart := false, laid := [("finesse/match.gets", laid_finesse_match_gets)], narrowed := true }
def MatchWrongUptoSaid : Prop := matchWrongUptoRow.holds Tryd.pinned (OpenSpec.upto matchWrongSpec)

/-- 'finesselaw20.MatchOrder', WHERE WHAT IT READS IS OF BULK AT MOST 1048576: true; the input reads as it did. -/
def matchOrderUptoRow : OpenClaim := { program := "yteemknjnlocgpaadoor", sum := "0f5ba0ba3f7a148415b931b5aae3b4c58e1501f3567fbce8df34634a99695c25", func := "finesse/finesselaw20.MatchOrder", spec := "matchOrder", unfollowed := true, recurses := true, named := ["finesse/match.gets"], apart := false, laid := [("finesse/match.gets", laid_finesse_match_gets)], narrowed := true }
def MatchOrderUptoSaid : Prop := matchOrderUptoRow.holds Tryd.pinned (OpenSpec.upto matchOrderSpec)

/-- 'finesselaw20.MatchPairs', WHERE WHAT IT READS IS OF BULK AT MOST 1048576: true; the input reads as it did. -/
def matchPairsUptoRow : OpenClaim := { program := "yteemknjnlocgpaadoor", sum := "0f5ba0ba3f7a148415b931b5aae3b4c58e1501f3567fbce8df34634a99695c25", func := "finesse/finesselaw20.MatchPairs", spec := "matchPairs", inPlace := ["math/bits.Add64", "math/bits.Sub64"], unfollowed := true, recurses := true, named := ["finesse/match.gets", "math/bits.divideError", "math/bits.overflowError"], apart := false, laid := [("finesse/match.gets", laid_finesse_match_gets)], narrowed := true }
def MatchPairsUptoSaid : Prop := matchPairsUptoRow.holds Tryd.pinned (OpenSpec.upto matchPairsSpec)

/-- 'finesselaw20.MatchSums', WHERE WHAT IT READS IS OF BULK AT MOST 1048576: true; the input reads as it did. -/
def matchSumsUptoRow : OpenClaim := { program := "yteemknjnlocgpaadoor", sum := "0f5ba0ba3f7a148415b931b5aae3b4c58e1501f3567fbce8df34634a99695c25", func := "finesse/finesselaw20.MatchSums", spec := "matchSums", inPlace := ["math/bits.Add64", "math/bits.Sub64"], unfollowed := true, recurses := true, named := ["finesse/match.gets", "math/bits.divideError", "math/bits.overflowError"], apart := false, laid := [("finesse/match.gets", laid_finesse_match_gets)], narrowed := true }
def MatchSumsUptoSaid : Prop := matchSumsUptoRow.holds Tryd.pinned (OpenSpec.upto matchSumsSpec)

end Rows
end Go.Proofs.YteemknjnlocgpaaDoor
