/-
  NARROWER THAN 'FOR EVERY INPUT', by the rows' own cells (each row's printed sentence says how): FoulTells: laid.
  DERIVED. THE GIVEN ROWS OF THIS SEAT. 1 by the template 'for every input the law returns true; each argument reads behind the call as it read before'; 0 by the template 'total and deterministic' (their statements: YtchklobblkddhaaGreatDoorTotals.lean).
  GIVEN WITH THE SEED: the statements are not yours to turn. If you find one false, say at which input.
  Laid BY PROGRAM, IN A SANDBOX (cutbox-rows.mjs): the forced cells as the released guide's own fill.sh prints them over the translation 0a019814bdb4d97c… (all of the seat's roots in one cut). By AI agents, Wed Nov 11 2026. No macro, syntax, notation, axiom, sorry.
-/
import Derived.Test.YtchklobblkddhaaGreatDoorChecked
import GoSem.Claim
import GoSem.ClaimJoined
import GoSem.ClaimMapViews
import Derived.JoinedTies
import Derived.KernelRfl
namespace Go.Proofs.YtchklobblkddhaaGreatDoor
/- THE CELL 'sum', in the pinned program and in every row, IS THE sha256 OF THE DUMP (.gsa) THAT YtchklobblkddhaaGreatDoorProg.lean LOADS. Nothing in Lean hashes anything: it is a label: what it is worth is what the hold of that sum in a sandbox is worth. -/
noncomputable def Tryz.pinned : Pinned := { name := "ytchklobblkddhaagreatdoor", sum := "0a019814bdb4d97cc483c976129e5e83b498d36052120ec9b9008dfb784bc21e", checked := Tryz.checked }
namespace Rows
def none {H : Type} : Left H := { results := [], args := [] }

/- WHAT THE LISTED PACKAGE-LEVEL VARIABLES READ AS WHEN THE CALL BEGINS. Each datum BY PROGRAM (the guide's laid-datum.mjs) off the statement by which the dump's own 'gosem.cut.vars' lays the variable. In a bare row this is a premise. The card (YtchklobblkddhaaGreatDoorCards.lean) ties it to the program's text. -/
def laid_finesse_match_gets {H : Type} : DataW H := .agg [.lit (.int .i64 0), .lit (.int .i64 1), .lit (.int .i64 2)]
def laid_finesse_score_value {H : Type} : DataW H := .agg [.lit (.int .i64 20), .lit (.int .i64 20), .lit (.int .i64 30), .lit (.int .i64 30), .lit (.int .i64 30)]
def laid_finesse_score_factor {H : Type} : DataW H := .agg [.lit (.int .i64 1), .lit (.int .i64 2), .lit (.int .i64 4)]
def laid_finesse_score_insult {H : Type} : DataW H := .agg [.lit (.int .i64 0), .lit (.int .i64 50), .lit (.int .i64 100)]
def laid_finesse_score_more {H : Type} : DataW H := .agg [.agg [.lit (.int .i64 0), .lit (.int .i64 0)], .agg [.lit (.int .i64 100), .lit (.int .i64 200)], .agg [.lit (.int .i64 200), .lit (.int .i64 400)]]

/-- 'finesselaw23.FoulTells': WHATEVER THE INPUT: true; the input reads as it did. -/
def foulTellsSpec : ChangeSpec := { name := "foulTells", fn := fun _ => fun
  | [d1, d2] => { results := [.lit (.bool true)], args := [d1, d2] }
  | _ => none }
def foulTellsRow : OpenClaim := { program := "ytchklobblkddhaagreatdoor", sum := "0a019814bdb4d97cc483c976129e5e83b498d36052120ec9b9008dfb784bc21e", func := "finesse/finesselaw23.FoulTells", spec := "foulTells", inPlace := ["math/bits.Add64", "math/bits.Sub64"], unfollowed := true, recurses := true, named := ["finesse/score.value", "finesse/score.factor", "finesse/score.more", "finesse/score.insult", "finesse/match.gets", "math/bits.divideError", "math/bits.overflowError"], apart := false, laid := [("finesse/match.gets", laid_finesse_match_gets), ("finesse/score.value", laid_finesse_score_value), ("finesse/score.factor", laid_finesse_score_factor), ("finesse/score.insult", laid_finesse_score_insult), ("finesse/score.more", laid_finesse_score_more)] }
def FoulTellsSaid : Prop := foulTellsRow.holds Tryz.pinned (OpenSpec.ofChange foulTellsSpec)

/-- ITS FALSE NEIGHBOUR: 'it returns false'. Refute it at one input. -/
def foulTellsWrong : ChangeSpec := { name := "foulTells", fn := fun _ => fun
  | [d1, d2] => { results := [.lit (.bool false)], args := [d1, d2] }
  | _ => none }
def FoulTellsWrongFalsely : Prop := foulTellsRow.holds Tryz.pinned (OpenSpec.ofChange foulTellsWrong)

/- THE SECOND FORM. 'bulk': how many values and letters a reading holds, each counted each time it is reached (what is shared counts as often as it is met; a slice's spare places count too). A statement '..UptoSaid' is the law's where the arguments, and the package variables that the reading takes, are together of bulk at most 1048576: NARROWER than '..Said'. Prove '..Said' where nothing that the law and all that it calls make is longer than what came in: it says more and counts as full. Else prove '..UptoSaid'. A law counts once. -/
mutual
def uptoBulk {H : Type} : DataW H → Nat
  | .lit (.string bytes) => bytes.length + 1
  | .lit _ => 1
  | .nil => 1
  | .ptr d => uptoBulk d + 1
  | .slice elems spare => uptoBulkAll elems + uptoBulkAll spare + 1
  | .agg parts => uptoBulkAll parts + 1
  | .iface _ d => uptoBulk d + 1
  | .map entries => uptoBulkEntries entries + 1
  | .held _ => 1
def uptoBulkAll {H : Type} : List (DataW H) → Nat
  | [] => 0
  | d :: r => uptoBulk d + uptoBulkAll r
def uptoBulkEntries {H : Type} : List (Lit × DataW H) → Nat
  | [] => 0
  | x :: r => uptoBulkEntry x + uptoBulkEntries r
def uptoBulkEntry {H : Type} : Lit × DataW H → Nat
  | (.string bytes, d) => bytes.length + uptoBulk d + 1
  | (_, d) => uptoBulk d + 1
 end
def uptoSmall : (H : Type) → List (DataW H) → Bool := fun _ ds => decide (uptoBulkAll ds ≤ 1048576)
def OpenSpec.upto (s : _root_.Go.ChangeSpec) : _root_.Go.OpenSpec := { _root_.Go.OpenSpec.ofChange s with cond := some uptoSmall }

/-- 'finesselaw23.FoulTells', WHERE WHAT IT READS IS OF BULK AT MOST 1048576: true; the input reads as it did. -/
def foulTellsUptoRow : OpenClaim := { program := "ytchklobblkddhaagreatdoor", sum := "0a019814bdb4d97cc483c976129e5e83b498d36052120ec9b9008dfb784bc21e", func := "finesse/finesselaw23.FoulTells", spec := "foulTells", inPlace := ["math/bits.Add64", "math/bits.Sub64"], unfollowed := true, recurses := true, named := ["finesse/score.value", "finesse/score.factor", "finesse/score.more", "finesse/score.insult", "finesse/match.gets", "math/bits.divideError", "math/bits.overflowError"], apart := false, laid := [("finesse/match.gets", laid_finesse_match_gets), ("finesse/score.value", laid_finesse_score_value), ("finesse/score.factor", laid_finesse_score_factor), ("finesse/score.insult", laid_finesse_score_insult), ("finesse/score.more", laid_finesse_score_more)], narrowed := true }
def FoulTellsUptoSaid : Prop := foulTellsUptoRow.holds Tryz.pinned (OpenSpec.upto foulTellsSpec)

end Rows
end Go.Proofs.YtchklobblkddhaaGreatDoor
