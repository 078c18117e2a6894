/-
  NARROWER THAN 'FOR EVERY INPUT', by the rows' own cells (each row's printed sentence says how): FoulWrong: laid · FoulSums: laid · FoulOrder: laid · FoulClean: laid · FoulApart: laid.
  DERIVED. THE GIVEN ROWS OF THIS SEAT. 5 by the template 'for every input the law returns true; each argument reads behind the call as it read before'; 0 by the template 'total and deterministic' (their statements: YtchklobblkddhaaDoorTotals.lean).
  GIVEN WITH THE SEED: the statements are not yours to turn. If you find one false, say at which input.
  Laid BY PROGRAM, IN A SANDBOX (cutbox-rows.mjs): the forced cells as the released guide's own fill.sh prints them over the translation 3689e4462f87a1bc… (all of the seat's roots in one cut). By AI agents, Wed Nov 11 2026. No macro, syntax, notation, axiom, sorry.
-/
import Derived.Test.YtchklobblkddhaaDoorChecked
import GoSem.Claim
import GoSem.ClaimJoined
import GoSem.ClaimMapViews
import Derived.JoinedTies
import Derived.KernelRfl
namespace Go.Proofs.YtchklobblkddhaaDoor
/- THE CELL 'sum', in the pinned program and in every row, IS THE sha256 OF THE DUMP (.gsa) THAT YtchklobblkddhaaDoorProg.lean LOADS. Nothing in Lean hashes anything: it is a label: what it is worth is what the hold of that sum in a sandbox is worth. -/
noncomputable def Tryd.pinned : Pinned := { name := "ytchklobblkddhaadoor", sum := "3689e4462f87a1bcd68d2bf55d744c21a78bd6c262c85ab0a59e35070b7843fd", checked := Tryd.checked }
namespace Rows
def none {H : Type} : Left H := { results := [], args := [] }

/- WHAT THE LISTED PACKAGE-LEVEL VARIABLES READ AS WHEN THE CALL BEGINS. Each datum BY PROGRAM (the guide's laid-datum.mjs) off the statement by which the dump's own 'gosem.cut.vars' lays the variable. In a bare row this is a premise. The card (YtchklobblkddhaaDoorCards.lean) ties it to the program's text. -/
def laid_finesse_match_gets {H : Type} : DataW H := .agg [.lit (.int .i64 0), .lit (.int .i64 1), .lit (.int .i64 2)]
def laid_finesse_score_value {H : Type} : DataW H := .agg [.lit (.int .i64 20), .lit (.int .i64 20), .lit (.int .i64 30), .lit (.int .i64 30), .lit (.int .i64 30)]
def laid_finesse_score_factor {H : Type} : DataW H := .agg [.lit (.int .i64 1), .lit (.int .i64 2), .lit (.int .i64 4)]
def laid_finesse_score_insult {H : Type} : DataW H := .agg [.lit (.int .i64 0), .lit (.int .i64 50), .lit (.int .i64 100)]
def laid_finesse_score_more {H : Type} : DataW H := .agg [.agg [.lit (.int .i64 0), .lit (.int .i64 0)], .agg [.lit (.int .i64 100), .lit (.int .i64 200)], .agg [.lit (.int .i64 200), .lit (.int .i64 400)]]

/-- 'finesselaw23.FoulWrong': WHATEVER THE INPUT: true; the input reads as it did. -/
def foulWrongSpec : ChangeSpec := { name := "foulWrong", fn := fun _ => fun
  | [d1, d2, d3] => { results := [.lit (.bool true)], args := [d1, d2, d3] }
  | _ => none }
def foulWrongRow : OpenClaim := { program := "ytchklobblkddhaadoor", sum := "3689e4462f87a1bcd68d2bf55d744c21a78bd6c262c85ab0a59e35070b7843fd", func := "finesse/finesselaw23.FoulWrong", spec := "foulWrong", inPlace := ["math/bits.Add64", "math/bits.Sub64"], unfollowed := true, recurses := true, named := ["finesse/score.value", "finesse/score.factor", "finesse/score.more", "finesse/score.insult", "finesse/match.gets", "math/bits.divideError", "math/bits.overflowError"], apart := false, laid := [("finesse/match.gets", laid_finesse_match_gets), ("finesse/score.value", laid_finesse_score_value), ("finesse/score.factor", laid_finesse_score_factor), ("finesse/score.insult", laid_finesse_score_insult), ("finesse/score.more", laid_finesse_score_more)] }
def FoulWrongSaid : Prop := foulWrongRow.holds Tryd.pinned (OpenSpec.ofChange foulWrongSpec)

/-- ITS FALSE NEIGHBOUR: 'it returns false'. Refute it at one input. -/
def foulWrongWrong : ChangeSpec := { name := "foulWrong", fn := fun _ => fun
  | [d1, d2, d3] => { results := [.lit (.bool false)], args := [d1, d2, d3] }
  | _ => none }
def FoulWrongWrongFalsely : Prop := foulWrongRow.holds Tryd.pinned (OpenSpec.ofChange foulWrongWrong)

/-- 'finesselaw23.FoulSums': WHATEVER THE INPUT: true; the input reads as it did. -/
def foulSumsSpec : ChangeSpec := { name := "foulSums", fn := fun _ => fun
  | [d1, d2] => { results := [.lit (.bool true)], args := [d1, d2] }
  | _ => none }
def foulSumsRow : OpenClaim := { program := "ytchklobblkddhaadoor", sum := "3689e4462f87a1bcd68d2bf55d744c21a78bd6c262c85ab0a59e35070b7843fd", func := "finesse/finesselaw23.FoulSums", spec := "foulSums", inPlace := ["math/bits.Add64", "math/bits.Sub64"], unfollowed := true, recurses := true, named := ["finesse/score.value", "finesse/score.factor", "finesse/score.more", "finesse/score.insult", "finesse/match.gets", "math/bits.divideError", "math/bits.overflowError"], apart := false, laid := [("finesse/match.gets", laid_finesse_match_gets), ("finesse/score.value", laid_finesse_score_value), ("finesse/score.factor", laid_finesse_score_factor), ("finesse/score.insult", laid_finesse_score_insult), ("finesse/score.more", laid_finesse_score_more)] }
def FoulSumsSaid : Prop := foulSumsRow.holds Tryd.pinned (OpenSpec.ofChange foulSumsSpec)

/-- ITS FALSE NEIGHBOUR: 'it returns false'. Refute it at one input. -/
def foulSumsWrong : ChangeSpec := { name := "foulSums", fn := fun _ => fun
  | [d1, d2] => { results := [.lit (.bool false)], args := [d1, d2] }
  | _ => none }
def FoulSumsWrongFalsely : Prop := foulSumsRow.holds Tryd.pinned (OpenSpec.ofChange foulSumsWrong)

/-- 'finesselaw23.FoulOrder': WHATEVER THE INPUT: true; the input reads as it did. -/
def foulOrderSpec : ChangeSpec := { name := "foulOrder", fn := fun _ => fun
  | [d1, d2, d3, d4] => { results := [.lit (.bool true)], args := [d1, d2, d3, d4] }
  | _ => none }
def foulOrderRow : OpenClaim := { program := "ytchklobblkddhaadoor", sum := "3689e4462f87a1bcd68d2bf55d744c21a78bd6c262c85ab0a59e35070b7843fd", func := "finesse/finesselaw23.FoulOrder", spec := "foulOrder", inPlace := ["math/bits.Add64", "math/bits.Sub64"], unfollowed := true, recurses := true, named := ["finesse/score.value", "finesse/score.factor", "finesse/score.more", "finesse/score.insult", "finesse/match.gets", "math/bits.divideError", "math/bits.overflowError"], apart := false, laid := [("finesse/match.gets", laid_finesse_match_gets), ("finesse/score.value", laid_finesse_score_value), ("finesse/score.factor", laid_finesse_score_factor), ("finesse/score.insult", laid_finesse_score_insult), ("finesse/score.more", laid_finesse_score_more)] }
def FoulOrderSaid : Prop := foulOrderRow.holds Tryd.pinned (OpenSpec.ofChange foulOrderSpec)

/-- ITS FALSE NEIGHBOUR: 'it returns false'. Refute it at one input. -/
def foulOrderWrong : ChangeSpec := { name := "foulOrder", fn := fun _ => fun
  | [d1, d2, d3, d4] => { results := [.lit (.bool false)], args := [d1, d2, d3, d4] }
  | _ => none }
def FoulOrderWrongFalsely : Prop := foulOrderRow.holds Tryd.pinned (OpenSpec.ofChange foulOrderWrong)

/-- 'finesselaw23.FoulClean': WHATEVER THE INPUT: true; the input reads as it did. -/
def foulCleanSpec : ChangeSpec := { name := "foulClean", fn := fun _ => fun
  | [d1, d2, d3, d4] => { results := [.lit (.bool true)], args := [d1, d2, d3, d4] }
  | _ => none }
def foulCleanRow : OpenClaim := { program := "ytchklobblkddhaadoor", sum := "3689e4462f87a1bcd68d2bf55d744c21a78bd6c262c85ab0a59e35070b7843fd", func := "finesse/finesselaw23.FoulClean", spec := "foulClean", inPlace := ["math/bits.Add64", "math/bits.Sub64"], unfollowed := true, recurses := true, named := ["finesse/score.value", "finesse/score.factor", "finesse/score.more", "finesse/score.insult", "math/bits.divideError", "math/bits.overflowError", "finesse/match.gets"], apart := false, laid := [("finesse/match.gets", laid_finesse_match_gets), ("finesse/score.value", laid_finesse_score_value), ("finesse/score.factor", laid_finesse_score_factor), ("finesse/score.insult", laid_finesse_score_insult), ("finesse/score.more", laid_finesse_score_more)] }
def FoulCleanSaid : Prop := foulCleanRow.holds Tryd.pinned (OpenSpec.ofChange foulCleanSpec)

/-- ITS FALSE NEIGHBOUR: 'it returns false'. Refute it at one input. -/
def foulCleanWrong : ChangeSpec := { name := "foulClean", fn := fun _ => fun
  | [d1, d2, d3, d4] => { results := [.lit (.bool false)], args := [d1, d2, d3, d4] }
  | _ => none }
def FoulCleanWrongFalsely : Prop := foulCleanRow.holds Tryd.pinned (OpenSpec.ofChange foulCleanWrong)

/-- 'finesselaw23.FoulApart': WHATEVER THE INPUT: true; the input reads as it did. -/
def foulApartSpec : ChangeSpec := { name := "foulApart", fn := fun _ => fun
  | [d1, d2] => { results := [.lit (.bool true)], args := [d1, d2] }
  | _ => none }
def foulApartRow : OpenClaim := { program := "ytchklobblkddhaadoor", sum := "3689e4462f87a1bcd68d2bf55d744c21a78bd6c262c85ab0a59e35070b7843fd", func := "finesse/finesselaw23.FoulApart", spec := "foulApart", inPlace := ["math/bits.Add64", "math/bits.Sub64"], unfollowed := true, recurses := true, named := ["finesse/score.value", "finesse/score.factor", "finesse/score.more", "finesse/score.insult", "finesse/match.gets", "math/bits.divideError", "math/bits.overflowError"], apart := false, laid := [("finesse/match.gets", laid_finesse_match_gets), ("finesse/score.value", laid_finesse_score_value), ("finesse/score.factor", laid_finesse_score_factor), ("finesse/score.insult", laid_finesse_score_insult), ("finesse/score.more", laid_finesse_score_more)] }
def FoulApartSaid : Prop := foulApartRow.holds Tryd.pinned (OpenSpec.ofChange foulApartSpec)

/-- ITS FALSE NEIGHBOUR: 'it returns false'. Refute it at one input. -/
def foulApartWrong : ChangeSpec := { name := "foulApart", fn := fun _ => fun
  | [d1, d2] => { results := [.lit (.bool false)], args := [d1, d2] }
  | _ => none }
def FoulApartWrongFalsely : Prop := foulApartRow.holds Tryd.pinned (OpenSpec.ofChange foulApartWrong)

/- THE SECOND FORM. 'bulk': how many values and letters a reading holds, each counted each time it is reached (what is shared counts as often as it is met; a slice's spare places count too). A statement '..UptoSaid' is the law's where the arguments, and the package variables that the reading takes, are together of bulk at most 1048576: NARROWER than '..Said'. Prove '..Said' where nothing that the law and all that it calls make is longer than what came in: it says more and counts as full. Else prove '..UptoSaid'. A law counts once. -/
mutual
def uptoBulk {H : Type} : DataW H → Nat
  | .lit (.string bytes) => bytes.length + 1
  | .lit _ => 1
  | .nil => 1
  | .ptr d => uptoBulk d + 1
  | .slice elems spare => uptoBulkAll elems + uptoBulkAll spare + 1
  | .agg parts => uptoBulkAll parts + 1
  | .iface _ d => uptoBulk d + 1
  | .map entries => uptoBulkEntries entries + 1
  | .held _ => 1
def uptoBulkAll {H : Type} : List (DataW H) → Nat
  | [] => 0
  | d :: r => uptoBulk d + uptoBulkAll r
def uptoBulkEntries {H : Type} : List (Lit × DataW H) → Nat
  | [] => 0
  | x :: r => uptoBulkEntry x + uptoBulkEntries r
def uptoBulkEntry {H : Type} : Lit × DataW H → Nat
  | (.string bytes, d) => bytes.length + uptoBulk d + 1
  | (_, d) => uptoBulk d + 1
 end
def uptoSmall : (H : Type) → List (DataW H) → Bool := fun _ ds => decide (uptoBulkAll ds ≤ 1048576)
def OpenSpec.upto (s : _root_.Go.ChangeSpec) : _root_.Go.OpenSpec := { _root_.Go.OpenSpec.ofChange s with cond := some uptoSmall }

/-- 'finesselaw23.FoulWrong', WHERE WHAT IT READS IS OF BULK AT MOST 1048576: true; the input reads as it did. -/
def foulWrongUptoRow : OpenClaim := { program := "ytchklobblkddhaadoor", sum := "3689e4462f87a1bcd68d2bf55d744c21a78bd6c262c85ab0a59e35070b7843fd", func := "finesse/finesselaw23.FoulWrong", spec := "foulWrong", inPlace := ["math/bits.Add64", "math/bits.Sub64"], unfollowed := true, recurses := true, named := ["finesse/score.value", "finesse/score.factor", "finesse/score.more", "finesse/score.insult", "finesse/match.gets", "math/bits.divideError", "math/bits.overflowError"], apart := false, laid := [("finesse/match.gets", laid_finesse_match_gets), ("finesse/score.value", laid_finesse_score_value), ("finesse/score.factor", laid_finesse_score_factor), ("finesse/score.insult", laid_finesse_score_insult), ("finesse/score.more", laid_finesse_score_more)], narrowed := true }
def FoulWrongUptoSaid : Prop := foulWrongUptoRow.holds Tryd.pinned (OpenSpec.upto foulWrongSpec)

/-- 'finesselaw23.FoulSums', WHERE WHAT IT READS IS OF BULK AT MOST 1048576: true; the input reads as it did. -/
def foulSumsUptoRow : OpenClaim := { program := "ytchklobblkddhaadoor", sum := "3689e4462f87a1bcd68d2bf55d744c21a78bd6c262c85ab0a59e35070b7843fd", func := "finesse/finesselaw23.FoulSums", spec := "foulSums", inPlace := ["math/bits.Add64", "math/bits.Sub64"], unfollowed := true, recurses := true, named := ["finesse/score.value", "finesse/score.factor", "finesse/score.more", "finesse/score.insult", "finesse/match.gets", "math/bits.divideError", "math/bits.overflowError"], apart := false, laid := [("finesse/match.gets", laid_finesse_match_gets), ("finesse/score.value", laid_finesse_score_value), ("finesse/score.factor", laid_finesse_score_factor), ("finesse/score.insult", laid_finesse_score_insult), ("finesse/score.more", laid_finesse_score_more)], narrowed := true }
def FoulSumsUptoSaid : Prop := foulSumsUptoRow.holds Tryd.pinned (OpenSpec.upto foulSumsSpec)

/-- 'finesselaw23.FoulOrder', WHERE WHAT IT READS IS OF BULK AT MOST 1048576: true; the input reads as it did. -/
def foulOrderUptoRow : OpenClaim := { program := "ytchklobblkddhaadoor", sum := "3689e4462f87a1bcd68d2bf55d744c21a78bd6c262c85ab0a59e35070b7843fd", func := "finesse/finesselaw23.FoulOrder", spec := "foulOrder", inPlace := ["math/bits.Add64", "math/bits.Sub64"], unfollowed := true, recurses := true, named := ["finesse/score.value", "finesse/score.factor", "finesse/score.more", "finesse/score.insult", "finesse/match.gets", "math/bits.divideError", "math/bits.overflowError"], apart := false, laid := [("finesse/match.gets", laid_finesse_match_gets), ("finesse/score.value", laid_finesse_score_value), ("finesse/score.factor", laid_finesse_score_factor), ("finesse/score.insult", laid_finesse_score_insult), ("finesse/score.more", laid_finesse_score_more)], narrowed := true }
def FoulOrderUptoSaid : Prop := foulOrderUptoRow.holds Tryd.pinned (OpenSpec.upto foulOrderSpec)

/-- 'finesselaw23.FoulClean', WHERE WHAT IT READS IS OF BULK AT MOST 1048576: true; the input reads as it did. -/
def foulCleanUptoRow : OpenClaim := { program := "ytchklobblkddhaadoor", sum := "3689e4462f87a1bcd68d2bf55d744c21a78bd6c262c85ab0a59e35070b7843fd", func := "finesse/finesselaw23.FoulClean", spec := "foulClean", inPlace := ["math/bits.Add64", "math/bits.Sub64"], unfollowed := true, recurses := true, named := ["finesse/score.value", "finesse/score.factor", "finesse/score.more", "finesse/score.insult", "math/bits.divideError", "math/bits.overflowError", "finesse/match.gets"], apart := false, laid := [("finesse/match.gets", laid_finesse_match_gets), ("finesse/score.value", laid_finesse_score_value), ("finesse/score.factor", laid_finesse_score_factor), ("finesse/score.insult", laid_finesse_score_insult), ("finesse/score.more", laid_finesse_score_more)], narrowed := true }
def FoulCleanUptoSaid : Prop := foulCleanUptoRow.holds Tryd.pinned (OpenSpec.upto foulCleanSpec)

/-- 'finesselaw23.FoulApart', WHERE WHAT IT READS IS OF BULK AT MOST 1048576: true; the input reads as it did. -/
def foulApartUptoRow : OpenClaim := { program := "ytchklobblkddhaadoor", sum := "3689e4462f87a1bcd68d2bf55d744c21a78bd6c262c85ab0a59e35070b7843fd", func := "finesse/finesselaw23.FoulApart", spec := "foulApart", inPlace := ["math/bits.Add64", "math/bits.Sub64"], unfollowed := true, recurses := true, named := ["finesse/score.value", "finesse/score.factor", "finesse/score.more", "finesse/score.insult", "finesse/match.gets", "math/bits.divideError", "math/bits.overflowError"], apart := false, laid := [("finesse/match.gets", laid_finesse_match_gets), ("finesse/score.value", laid_finesse_score_value), ("finesse/score.factor", laid_finesse_score_factor), ("finesse/score.insult", laid_finesse_score_insult), ("finesse/score.more", laid_finesse_score_more)], narrowed := true }
def FoulApartUptoSaid : Prop := foulApartUptoRow.holds Tryd.pinned (OpenSpec.upto foulApartSpec)

end Rows
end Go.Proofs.YtchklobblkddhaaDoor
