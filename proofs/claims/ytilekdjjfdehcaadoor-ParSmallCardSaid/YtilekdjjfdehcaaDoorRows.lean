/-
  NARROWER THAN 'FOR EVERY INPUT', by the rows' own cells (each row's printed sentence says how): ParTurned: laid · ParMore: laid · ParNone: laid · ParTells: laid · ParSmall: laid · ParStable: laid · ParFinal: laid · ParWrong: laid.
  DERIVED. THE GIVEN ROWS OF THIS SEAT. 8 by the template 'for every input the law returns true; each argument reads behind the call as it read before'; 0 by the template 'total and deterministic' (their statements: YtilekdjjfdehcaaDoorTotals.lean).
  GIVEN WITH THE SEED: the statements are not yours to turn. If you find one false, say at which input.
  Laid BY PROGRAM, IN A SANDBOX (cutbox-rows.mjs): the forced cells as the released guide's own fill.sh prints them over the translation 75d659080e8e48c3… (all of the seat's roots in one cut). By AI agents, Wed Nov 11 2026. No macro, syntax, notation, axiom, sorry.
-/
import Derived.Test.YtilekdjjfdehcaaDoorChecked
import GoSem.Claim
import GoSem.ClaimJoined
import GoSem.ClaimMapViews
import Derived.JoinedTies
import Derived.KernelRfl
namespace Go.Proofs.YtilekdjjfdehcaaDoor
/- THE CELL 'sum', in the pinned program and in every row, IS THE sha256 OF THE DUMP (.gsa) THAT YtilekdjjfdehcaaDoorProg.lean LOADS. Nothing in Lean hashes anything: it is a label: what it is worth is what the hold of that sum in a sandbox is worth. -/
noncomputable def Tryd.pinned : Pinned := { name := "ytilekdjjfdehcaadoor", sum := "75d659080e8e48c3dbc87a304ec76affec124165c16f0f1374e046d1c9ccf794", checked := Tryd.checked }
namespace Rows
def none {H : Type} : Left H := { results := [], args := [] }

/- WHAT THE LISTED PACKAGE-LEVEL VARIABLES READ AS WHEN THE CALL BEGINS. Each datum BY PROGRAM (the guide's laid-datum.mjs) off the statement by which the dump's own 'gosem.cut.vars' lays the variable. In a bare row this is a premise. The card (YtilekdjjfdehcaaDoorCards.lean) ties it to the program's text. -/
def laid_finesse_score_value {H : Type} : DataW H := .agg [.lit (.int .i64 20), .lit (.int .i64 20), .lit (.int .i64 30), .lit (.int .i64 30), .lit (.int .i64 30)]
def laid_finesse_score_factor {H : Type} : DataW H := .agg [.lit (.int .i64 1), .lit (.int .i64 2), .lit (.int .i64 4)]
def laid_finesse_score_insult {H : Type} : DataW H := .agg [.lit (.int .i64 0), .lit (.int .i64 50), .lit (.int .i64 100)]
def laid_finesse_score_more {H : Type} : DataW H := .agg [.agg [.lit (.int .i64 0), .lit (.int .i64 0)], .agg [.lit (.int .i64 100), .lit (.int .i64 200)], .agg [.lit (.int .i64 200), .lit (.int .i64 400)]]

/-- 'finesselaw18.ParTurned': WHATEVER THE INPUT: true; the input reads as it did. -/
def parTurnedSpec : ChangeSpec := { name := "parTurned", fn := fun _ => fun
  | [d1, d2, d3] => { results := [.lit (.bool true)], args := [d1, d2, d3] }
  | _ => none }
def parTurnedRow : OpenClaim := { program := "ytilekdjjfdehcaadoor", sum := "75d659080e8e48c3dbc87a304ec76affec124165c16f0f1374e046d1c9ccf794", func := "finesse/finesselaw18.ParTurned", spec := "parTurned", unfollowed := true, recurses := true, named := ["finesse/score.value", "finesse/score.factor", "finesse/score.more", "finesse/score.insult"], apart := false, laid := [("finesse/score.value", laid_finesse_score_value), ("finesse/score.factor", laid_finesse_score_factor), ("finesse/score.insult", laid_finesse_score_insult), ("finesse/score.more", laid_finesse_score_more)] }
def ParTurnedSaid : Prop := parTurnedRow.holds Tryd.pinned (OpenSpec.ofChange parTurnedSpec)

/-- ITS FALSE NEIGHBOUR: 'it returns false'. Refute it at one input. -/
def parTurnedWrong : ChangeSpec := { name := "parTurned", fn := fun _ => fun
  | [d1, d2, d3] => { results := [.lit (.bool false)], args := [d1, d2, d3] }
  | _ => none }
def ParTurnedWrongFalsely : Prop := parTurnedRow.holds Tryd.pinned (OpenSpec.ofChange parTurnedWrong)

/-- 'finesselaw18.ParMore': WHATEVER THE INPUT: true; the input reads as it did. -/
def parMoreSpec : ChangeSpec := { name := "parMore", fn := fun _ => fun
  | [d1, d2, d3, d4, d5] => { results := [.lit (.bool true)], args := [d1, d2, d3, d4, d5] }
  | _ => none }
def parMoreRow : OpenClaim := { program := "ytilekdjjfdehcaadoor", sum := "75d659080e8e48c3dbc87a304ec76affec124165c16f0f1374e046d1c9ccf794", func := "finesse/finesselaw18.ParMore", spec := "parMore", unfollowed := true, recurses := true, named := ["finesse/score.value", "finesse/score.factor", "finesse/score.more", "finesse/score.insult"], apart := false, laid := [("finesse/score.value", laid_finesse_score_value), ("finesse/score.factor", laid_finesse_score_factor), ("finesse/score.insult", laid_finesse_score_insult), ("finesse/score.more", laid_finesse_score_more)] }
def ParMoreSaid : Prop := parMoreRow.holds Tryd.pinned (OpenSpec.ofChange parMoreSpec)

/-- ITS FALSE NEIGHBOUR: 'it returns false'. Refute it at one input. -/
def parMoreWrong : ChangeSpec := { name := "parMore", fn := fun _ => fun
  | [d1, d2, d3, d4, d5] => { results := [.lit (.bool false)], args := [d1, d2, d3, d4, d5] }
  | _ => none }
def ParMoreWrongFalsely : Prop := parMoreRow.holds Tryd.pinned (OpenSpec.ofChange parMoreWrong)

/-- 'finesselaw18.ParNone': WHATEVER THE INPUT: true; the input reads as it did. -/
def parNoneSpec : ChangeSpec := { name := "parNone", fn := fun _ => fun
  | [d1, d2, d3, d4] => { results := [.lit (.bool true)], args := [d1, d2, d3, d4] }
  | _ => none }
def parNoneRow : OpenClaim := { program := "ytilekdjjfdehcaadoor", sum := "75d659080e8e48c3dbc87a304ec76affec124165c16f0f1374e046d1c9ccf794", func := "finesse/finesselaw18.ParNone", spec := "parNone", unfollowed := true, recurses := true, named := ["finesse/score.value", "finesse/score.factor", "finesse/score.more", "finesse/score.insult"], apart := false, laid := [("finesse/score.value", laid_finesse_score_value), ("finesse/score.factor", laid_finesse_score_factor), ("finesse/score.insult", laid_finesse_score_insult), ("finesse/score.more", laid_finesse_score_more)] }
def ParNoneSaid : Prop := parNoneRow.holds Tryd.pinned (OpenSpec.ofChange parNoneSpec)

/-- ITS FALSE NEIGHBOUR: 'it returns false'. Refute it at one input. -/
def parNoneWrong : ChangeSpec := { name := "parNone", fn := fun _ => fun
  | [d1, d2, d3, d4] => { results := [.lit (.bool false)], args := [d1, d2, d3, d4] }
  | _ => none }
def ParNoneWrongFalsely : Prop := parNoneRow.holds Tryd.pinned (OpenSpec.ofChange parNoneWrong)

/-- 'finesselaw18.ParTells': WHATEVER THE INPUT: true; the input reads as it did. -/
def parTellsSpec : ChangeSpec := { name := "parTells", fn := fun _ => fun
  | [d1, d2, d3, d4, d5] => { results := [.lit (.bool true)], args := [d1, d2, d3, d4, d5] }
  | _ => none }
def parTellsRow : OpenClaim := { program := "ytilekdjjfdehcaadoor", sum := "75d659080e8e48c3dbc87a304ec76affec124165c16f0f1374e046d1c9ccf794", func := "finesse/finesselaw18.ParTells", spec := "parTells", unfollowed := true, recurses := true, named := ["finesse/score.value", "finesse/score.factor", "finesse/score.more", "finesse/score.insult"], apart := false, laid := [("finesse/score.value", laid_finesse_score_value), ("finesse/score.factor", laid_finesse_score_factor), ("finesse/score.insult", laid_finesse_score_insult), ("finesse/score.more", laid_finesse_score_more)] }
def ParTellsSaid : Prop := parTellsRow.holds Tryd.pinned (OpenSpec.ofChange parTellsSpec)

/-- ITS FALSE NEIGHBOUR: 'it returns false'. Refute it at one input. -/
def parTellsWrong : ChangeSpec := { name := "parTells", fn := fun _ => fun
  | [d1, d2, d3, d4, d5] => { results := [.lit (.bool false)], args := [d1, d2, d3, d4, d5] }
  | _ => none }
def ParTellsWrongFalsely : Prop := parTellsRow.holds Tryd.pinned (OpenSpec.ofChange parTellsWrong)

/-- 'finesselaw18.ParSmall': WHATEVER THE INPUT: true; the input reads as it did. -/
def parSmallSpec : ChangeSpec := { name := "parSmall", fn := fun _ => fun
  | [] => { results := [.lit (.bool true)], args := [] }
  | _ => none }
def parSmallRow : OpenClaim := { program := "ytilekdjjfdehcaadoor", sum := "75d659080e8e48c3dbc87a304ec76affec124165c16f0f1374e046d1c9ccf794", func := "finesse/finesselaw18.ParSmall", spec := "parSmall", unfollowed := true, recurses := true, named := ["finesse/score.value", "finesse/score.factor", "finesse/score.more", "finesse/score.insult"], apart := false, laid := [("finesse/score.value", laid_finesse_score_value), ("finesse/score.factor", laid_finesse_score_factor), ("finesse/score.insult", laid_finesse_score_insult), ("finesse/score.more", laid_finesse_score_more)] }
def ParSmallSaid : Prop := parSmallRow.holds Tryd.pinned (OpenSpec.ofChange parSmallSpec)

/-- ITS FALSE NEIGHBOUR: 'it returns false'. Refute it at one input. -/
def parSmallWrong : ChangeSpec := { name := "parSmall", fn := fun _ => fun
  | [] => { results := [.lit (.bool false)], args := [] }
  | _ => none }
def ParSmallWrongFalsely : Prop := parSmallRow.holds Tryd.pinned (OpenSpec.ofChange parSmallWrong)

/-- 'finesselaw18.ParStable': WHATEVER THE INPUT: true; the input reads as it did. -/
def parStableSpec : ChangeSpec := { name := "parStable", fn := fun _ => fun
  | [d1, d2, d3] => { results := [.lit (.bool true)], args := [d1, d2, d3] }
  | _ => none }
def parStableRow : OpenClaim := { program := "ytilekdjjfdehcaadoor", sum := "75d659080e8e48c3dbc87a304ec76affec124165c16f0f1374e046d1c9ccf794", func := "finesse/finesselaw18.ParStable", spec := "parStable", unfollowed := true, recurses := true, named := ["finesse/score.value", "finesse/score.factor", "finesse/score.more", "finesse/score.insult"], apart := false, laid := [("finesse/score.value", laid_finesse_score_value), ("finesse/score.factor", laid_finesse_score_factor), ("finesse/score.insult", laid_finesse_score_insult), ("finesse/score.more", laid_finesse_score_more)] }
def ParStableSaid : Prop := parStableRow.holds Tryd.pinned (OpenSpec.ofChange parStableSpec)

/-- ITS FALSE NEIGHBOUR: 'it returns false'. Refute it at one input. -/
def parStableWrong : ChangeSpec := { name := "parStable", fn := fun _ => fun
  | [d1, d2, d3] => { results := [.lit (.bool false)], args := [d1, d2, d3] }
  | _ => none }
def ParStableWrongFalsely : Prop := parStableRow.holds Tryd.pinned (OpenSpec.ofChange parStableWrong)

/-- 'finesselaw18.ParFinal': WHATEVER THE INPUT: true; the input reads as it did. -/
def parFinalSpec : ChangeSpec := { name := "parFinal", fn := fun _ => fun
  | [d1, d2, d3] => { results := [.lit (.bool true)], args := [d1, d2, d3] }
  | _ => none }
def parFinalRow : OpenClaim := { program := "ytilekdjjfdehcaadoor", sum := "75d659080e8e48c3dbc87a304ec76affec124165c16f0f1374e046d1c9ccf794", func := "finesse/finesselaw18.ParFinal", spec := "parFinal", unfollowed := true, recurses := true, named := ["finesse/score.value", "finesse/score.factor", "finesse/score.more", "finesse/score.insult"], apart := false, laid := [("finesse/score.value", laid_finesse_score_value), ("finesse/score.factor", laid_finesse_score_factor), ("finesse/score.insult", laid_finesse_score_insult), ("finesse/score.more", laid_finesse_score_more)] }
def ParFinalSaid : Prop := parFinalRow.holds Tryd.pinned (OpenSpec.ofChange parFinalSpec)

/-- ITS FALSE NEIGHBOUR: 'it returns false'. Refute it at one input. -/
def parFinalWrong : ChangeSpec := { name := "parFinal", fn := fun _ => fun
  | [d1, d2, d3] => { results := [.lit (.bool false)], args := [d1, d2, d3] }
  | _ => none }
def ParFinalWrongFalsely : Prop := parFinalRow.holds Tryd.pinned (OpenSpec.ofChange parFinalWrong)

/-- 'finesselaw18.ParWrong': WHATEVER THE INPUT: true; the input reads as it did. -/
def parWrongSpec : ChangeSpec := { name := "parWrong", fn := fun _ => fun
  | [d1, d2, d3] => { results := [.lit (.bool true)], args := [d1, d2, d3] }
  | _ => none }
def parWrongRow : OpenClaim := { program := "ytilekdjjfdehcaadoor", sum := "75d659080e8e48c3dbc87a304ec76affec124165c16f0f1374e046d1c9ccf794", func := "finesse/finesselaw18.ParWrong", spec := "parWrong", unfollowed := true, recurses := true, named := ["finesse/score.value", "finesse/score.factor", "finesse/score.more", "finesse/score.insult"], apart := false, laid := [("finesse/score.value", laid_finesse_score_value), ("finesse/score.factor", laid_finesse_score_factor), ("finesse/score.insult", laid_finesse_score_insult), ("finesse/score.more", laid_finesse_score_more)] }
def ParWrongSaid : Prop := parWrongRow.holds Tryd.pinned (OpenSpec.ofChange parWrongSpec)

/-- ITS FALSE NEIGHBOUR: 'it returns false'. Refute it at one input. -/
def parWrongWrong : ChangeSpec := { name := "parWrong", fn := fun _ => fun
  | [d1, d2, d3] => { results := [.lit (.bool false)], args := [d1, d2, d3] }
  | _ => none }
def ParWrongWrongFalsely : Prop := parWrongRow.holds Tryd.pinned (OpenSpec.ofChange parWrongWrong)

/- THE SECOND FORM. 'bulk': how many values and letters a reading holds, each counted each time it is reached (what is shared counts as often as it is met; a slice's spare places count too). A statement '..UptoSaid' is the law's where the arguments, and the package variables that the reading takes, are together of bulk at most 1048576: NARROWER than '..Said'. Prove '..Said' where nothing that the law and all that it calls make is longer than what came in: it says more and counts as full. Else prove '..UptoSaid'. A law counts once. -/
mutual
def uptoBulk {H : Type} : DataW H → Nat
  | .lit (.string bytes) => bytes.length + 1
  | .lit _ => 1
  | .nil => 1
  | .ptr d => uptoBulk d + 1
  | .slice elems spare => uptoBulkAll elems + uptoBulkAll spare + 1
  | .agg parts => uptoBulkAll parts + 1
  | .iface _ d => uptoBulk d + 1
  | .map entries => uptoBulkEntries entries + 1
  | .held _ => 1
def uptoBulkAll {H : Type} : List (DataW H) → Nat
  | [] => 0
  | d :: r => uptoBulk d + uptoBulkAll r
def uptoBulkEntries {H : Type} : List (Lit × DataW H) → Nat
  | [] => 0
  | x :: r => uptoBulkEntry x + uptoBulkEntries r
def uptoBulkEntry {H : Type} : Lit × DataW H → Nat
  | (.string bytes, d) => bytes.length + uptoBulk d + 1
  | (_, d) => uptoBulk d + 1
 end
def uptoSmall : (H : Type) → List (DataW H) → Bool := fun _ ds => decide (uptoBulkAll ds ≤ 1048576)
def OpenSpec.upto (s : _root_.Go.ChangeSpec) : _root_.Go.OpenSpec := { _root_.Go.OpenSpec.ofChange s with cond := some uptoSmall }

/-- 'finesselaw18.ParTurned', WHERE WHAT IT READS IS OF BULK AT MOST 1048576: true; the input reads as it did. -/
def parTurnedUptoRow : OpenClaim := { program := "ytilekdjjfdehcaadoor", sum := "75d659080e8e48c3dbc87a304ec76affec124165c16f0f1374e046d1c9ccf794", func := "finesse/finesselaw18.ParTurned", spec := "parTurned", unfollowed := true, recurses := true, named := ["finesse/score.value", "finesse/score.factor", "finesse/score.more", "finesse/score.insult"], apart := false, laid := [("finesse/score.value", laid_finesse_score_value), ("finesse/score.factor", laid_finesse_score_factor), ("finesse/score.insult", laid_finesse_score_insult), ("finesse/score.more", laid_finesse_score_more)], narrowed := true }
def ParTurnedUptoSaid : Prop := parTurnedUptoRow.holds Tryd.pinned (OpenSpec.upto parTurnedSpec)

/-- 'finesselaw18.ParMore', WHERE WHAT IT READS IS OF BULK AT MOST 1048576: true; the input reads as it did. -/
def parMoreUptoRow : OpenClaim := { program := "ytilekdjjfdehcaadoor", sum := "75d659080e8e48c3dbc87a304ec76affec124165c16f0f1374e046d1c9ccf794", func := "finesse/finesselaw18.ParMore", spec := "parMore", unfollowed := true, recurses := true, named := ["finesse/score.value", "finesse/score.factor", "finesse/score.more", "finesse/score.insult"], apart := false, laid := [("finesse/score.value", laid_finesse_score_value), ("finesse/score.factor", laid_finesse_score_factor), ("finesse/score.insult", laid_finesse_score_insult), ("finesse/score.more", laid_finesse_score_more)], narrowed := true }
def ParMoreUptoSaid : Prop := parMoreUptoRow.holds Tryd.pinned (OpenSpec.upto parMoreSpec)

/-- 'finesselaw18.ParNone', WHERE WHAT IT READS IS OF BULK AT MOST 1048576: true; the input reads as it did. -/
def parNoneUptoRow : OpenClaim := { program := "ytilekdjjfdehcaadoor", sum := "75d659080e8e48c3dbc87a304ec76affec124165c16f0f1374e046d1c9ccf794", func := "finesse/finesselaw18.ParNone", spec := "parNone", unfollowed := true, recurses := true, named := ["finesse/score.value", "finesse/score.factor", "finesse/score.more", "finesse/score.insult"], apart := false, laid := [("finesse/score.value", laid_finesse_score_value), ("finesse/score.factor", laid_finesse_score_factor), ("finesse/score.insult", laid_finesse_score_insult), ("finesse/score.more", laid_finesse_score_more)], narrowed := true }
def ParNoneUptoSaid : Prop := parNoneUptoRow.holds Tryd.pinned (OpenSpec.upto parNoneSpec)

/-- 'finesselaw18.ParTells', WHERE WHAT IT READS IS OF BULK AT MOST 1048576: true; the input reads as it did. -/
def parTellsUptoRow : OpenClaim := { program := "ytilekdjjfdehcaadoor", sum := "75d659080e8e48c3dbc87a304ec76affec124165c16f0f1374e046d1c9ccf794", func := "finesse/finesselaw18.ParTells", spec := "parTells", unfollowed := true, recurses := true, named := ["finesse/score.value", "finesse/score.factor", "finesse/score.more", "finesse/score.insult"], apart := false, laid := [("finesse/score.value", laid_finesse_score_value), ("finesse/score.factor", laid_finesse_score_factor), ("finesse/score.insult", laid_finesse_score_insult), ("finesse/score.more", laid_finesse_score_more)], narrowed := true }
def ParTellsUptoSaid : Prop := parTellsUptoRow.holds Tryd.pinned (OpenSpec.upto parTellsSpec)

/-- 'finesselaw18.ParSmall', WHERE WHAT IT READS IS OF BULK AT MOST 1048576: true; the input reads as it did. -/
def parSmallUptoRow : OpenClaim := { program := "ytilekdjjfdehcaadoor", sum := "75d659080e8e48c3dbc87a304ec76affec124165c16f0f1374e046d1c9ccf794", func := "finesse/finesselaw18.ParSmall", spec := "parSmall", unfollowed := true, recurses := true, named := ["finesse/score.value", "finesse/score.factor", "finesse/score.more", "finesse/score.insult"], apart := false, laid := [("finesse/score.value", laid_finesse_score_value), ("finesse/score.factor", laid_finesse_score_factor), ("finesse/score.insult", laid_finesse_score_insult), ("finesse/score.more", laid_finesse_score_more)], narrowed := true }
def ParSmallUptoSaid : Prop := parSmallUptoRow.holds Tryd.pinned (OpenSpec.upto parSmallSpec)

/-- 'finesselaw18.ParStable', WHERE WHAT IT READS IS OF BULK AT MOST 1048576: true; the input reads as it did. -/
def parStableUptoRow : OpenClaim := { program := "ytilekdjjfdehcaadoor", sum := "75d659080e8e48c3dbc87a304ec76affec124165c16f0f1374e046d1c9ccf794", func := "finesse/finesselaw18.ParStable", spec := "parStable", unfollowed := true, recurses := true, named := ["finesse/score.value", "finesse/score.factor", "finesse/score.more", "finesse/score.insult"], apart := false, laid := [("finesse/score.value", laid_finesse_score_value), ("finesse/score.factor", laid_finesse_score_factor), ("finesse/score.insult", laid_finesse_score_insult), ("finesse/score.more", laid_finesse_score_more)], narrowed := true }
def ParStableUptoSaid : Prop := parStableUptoRow.holds Tryd.pinned (OpenSpec.upto parStableSpec)

/-- 'finesselaw18.ParFinal', WHERE WHAT IT READS IS OF BULK AT MOST 1048576: true; the input reads as it did. -/
def parFinalUptoRow : OpenClaim := { program := "ytilekdjjfdehcaadoor", sum := "75d659080e8e48c3dbc87a304ec76affec124165c16f0f1374e046d1c9ccf794", func := "finesse/finesselaw18.ParFinal", spec := "parFinal", unfollowed := true, recurses := true, named := ["finesse/score.value", "finesse/score.factor", "finesse/score.more", "finesse/score.insult"], apart := false, laid := [("finesse/score.value", laid_finesse_score_value), ("finesse/score.factor", laid_finesse_score_factor), ("finesse/score.insult", laid_finesse_score_insult), ("finesse/score.more", laid_finesse_score_more)], narrowed := true }
def ParFinalUptoSaid : Prop := parFinalUptoRow.holds Tryd.pinned (OpenSpec.upto parFinalSpec)

/-- 'finesselaw18.ParWrong', WHERE WHAT IT READS IS OF BULK AT MOST 1048576: true; the input reads as it did. -/
def parWrongUptoRow : OpenClaim := { program := "ytilekdjjfdehcaadoor", sum := "75d659080e8e48c3dbc87a304ec76affec124165c16f0f1374e046d1c9ccf794", func := "finesse/finesselaw18.ParWrong", spec := "parWrong", unfollowed := true, recurses := true, named := ["finesse/score.value", "finesse/score.factor", "finesse/score.more", "finesse/score.insult"], apart := false, laid := [("finesse/score.value", laid_finesse_score_value), ("finesse/score.factor", laid_finesse_score_factor), ("finesse/score.insult", laid_finesse_score_insult), ("finesse/score.more", laid_finesse_score_more)], narrowed := true }
def ParWrongUptoSaid : Prop := parWrongUptoRow.holds Tryd.pinned (OpenSpec.upto parWrongSpec)

end Rows
end Go.Proofs.YtilekdjjfdehcaaDoor
