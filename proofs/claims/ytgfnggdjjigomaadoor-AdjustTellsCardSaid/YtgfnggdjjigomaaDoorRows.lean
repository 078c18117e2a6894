/-
  NARROWER THAN 'FOR EVERY INPUT', by the rows' own cells (each row's printed sentence says how): AdjustTells: laid · AdjustWeighted: laid · AdjustOnce: laid · AdjustWrong: laid · AdjustMeans: laid · AdjustAwards: laid · AdjustSides: laid.
  DERIVED. THE GIVEN ROWS OF THIS SEAT. 7 by the template 'for every input the law returns true; each argument reads behind the call as it read before'; 0 by the template 'total and deterministic' (their statements: YtgfnggdjjigomaaDoorTotals.lean).
  GIVEN WITH THE SEED: the statements are not yours to turn. If you find one false, say at which input.
  Laid BY PROGRAM, IN A SANDBOX (cutbox-rows.mjs): the forced cells as the released guide's own fill.sh prints them over the translation 65d40d0722139881… (all of the seat's roots in one cut). By AI agents, Wed Nov 11 2026. No macro, syntax, notation, axiom, sorry.
-/
import Derived.Test.YtgfnggdjjigomaaDoorChecked
import GoSem.Claim
import GoSem.ClaimJoined
import GoSem.ClaimMapViews
import Derived.JoinedTies
import Derived.KernelRfl
namespace Go.Proofs.YtgfnggdjjigomaaDoor
/- THE CELL 'sum', in the pinned program and in every row, IS THE sha256 OF THE DUMP (.gsa) THAT YtgfnggdjjigomaaDoorProg.lean LOADS. Nothing in Lean hashes anything: it is a label: what it is worth is what the hold of that sum in a sandbox is worth. -/
noncomputable def Tryd.pinned : Pinned := { name := "ytgfnggdjjigomaadoor", sum := "65d40d072213988176babf5965a0b2f7777d41ffba5165e609aad09e313d2ac6", checked := Tryd.checked }
namespace Rows
def none {H : Type} : Left H := { results := [], args := [] }

/- WHAT THE LISTED PACKAGE-LEVEL VARIABLES READ AS WHEN THE CALL BEGINS. Each datum BY PROGRAM (the guide's laid-datum.mjs) off the statement by which the dump's own 'gosem.cut.vars' lays the variable. In a bare row this is a premise. The card (YtgfnggdjjigomaaDoorCards.lean) ties it to the program's text. -/
def laid_finesse_score_value {H : Type} : DataW H := .agg [.lit (.int .i64 20), .lit (.int .i64 20), .lit (.int .i64 30), .lit (.int .i64 30), .lit (.int .i64 30)]
def laid_finesse_score_factor {H : Type} : DataW H := .agg [.lit (.int .i64 1), .lit (.int .i64 2), .lit (.int .i64 4)]
def laid_finesse_score_insult {H : Type} : DataW H := .agg [.lit (.int .i64 0), .lit (.int .i64 50), .lit (.int .i64 100)]
def laid_finesse_score_more {H : Type} : DataW H := .agg [.agg [.lit (.int .i64 0), .lit (.int .i64 0)], .agg [.lit (.int .i64 100), .lit (.int .i64 200)], .agg [.lit (.int .i64 200), .lit (.int .i64 400)]]
def laid_finesse_match_gets {H : Type} : DataW H := .agg [.lit (.int .i64 0), .lit (.int .i64 1), .lit (.int .i64 2)]

/-- 'finesselaw22.AdjustTells': WHATEVER THE INPUT: true; the input reads as it did. -/
def adjustTellsSpec : ChangeSpec := { name := "adjustTells", fn := fun _ => fun
  | [d1, d2, d3] => { results := [.lit (.bool true)], args := [d1, d2, d3] }
  | _ => none }
def adjustTellsRow : OpenClaim := { program := "ytgfnggdjjigomaadoor", sum := "65d40d072213988176babf5965a0b2f7777d41ffba5165e609aad09e313d2ac6", func := "finesse/finesselaw22.AdjustTells", spec := "adjustTells", unfollowed := true, recurses := true, named := ["finesse/score.value", "finesse/score.factor", "finesse/score.more", "finesse/score.insult"], apart := false, laid := [("finesse/score.value", laid_finesse_score_value), ("finesse/score.factor", laid_finesse_score_factor), ("finesse/score.insult", laid_finesse_score_insult), ("finesse/score.more", laid_finesse_score_more)] }
def AdjustTellsSaid : Prop := adjustTellsRow.holds Tryd.pinned (OpenSpec.ofChange adjustTellsSpec)

/-- ITS FALSE NEIGHBOUR: 'it returns false'. Refute it at one input. -/
def adjustTellsWrong : ChangeSpec := { name := "adjustTells", fn := fun _ => fun
  | [d1, d2, d3] => { results := [.lit (.bool false)], args := [d1, d2, d3] }
  | _ => none }
def AdjustTellsWrongFalsely : Prop := adjustTellsRow.holds Tryd.pinned (OpenSpec.ofChange adjustTellsWrong)

/-- 'finesselaw22.AdjustWeighted': WHATEVER THE INPUT: true; the input reads as it did. -/
def adjustWeightedSpec : ChangeSpec := { name := "adjustWeighted", fn := fun _ => fun
  | [d1, d2] => { results := [.lit (.bool true)], args := [d1, d2] }
  | _ => none }
def adjustWeightedRow : OpenClaim := { program := "ytgfnggdjjigomaadoor", sum := "65d40d072213988176babf5965a0b2f7777d41ffba5165e609aad09e313d2ac6", func := "finesse/finesselaw22.AdjustWeighted", spec := "adjustWeighted", unfollowed := true, recurses := true, named := ["finesse/score.value", "finesse/score.factor", "finesse/score.more", "finesse/score.insult"], apart := false, laid := [("finesse/score.value", laid_finesse_score_value), ("finesse/score.factor", laid_finesse_score_factor), ("finesse/score.insult", laid_finesse_score_insult), ("finesse/score.more", laid_finesse_score_more)] }
def AdjustWeightedSaid : Prop := adjustWeightedRow.holds Tryd.pinned (OpenSpec.ofChange adjustWeightedSpec)

/-- ITS FALSE NEIGHBOUR: 'it returns false'. Refute it at one input. -/
def adjustWeightedWrong : ChangeSpec := { name := "adjustWeighted", fn := fun _ => fun
  | [d1, d2] => { results := [.lit (.bool false)], args := [d1, d2] }
  | _ => none }
def AdjustWeightedWrongFalsely : Prop := adjustWeightedRow.holds Tryd.pinned (OpenSpec.ofChange adjustWeightedWrong)

/-- 'finesselaw22.AdjustOnce': WHATEVER THE INPUT: true; the input reads as it did. -/
def adjustOnceSpec : ChangeSpec := { name := "adjustOnce", fn := fun _ => fun
  | [d1, d2, d3, d4] => { results := [.lit (.bool true)], args := [d1, d2, d3, d4] }
  | _ => none }
def adjustOnceRow : OpenClaim := { program := "ytgfnggdjjigomaadoor", sum := "65d40d072213988176babf5965a0b2f7777d41ffba5165e609aad09e313d2ac6", func := "finesse/finesselaw22.AdjustOnce", spec := "adjustOnce", unfollowed := true, recurses := true, named := ["finesse/score.value", "finesse/score.factor", "finesse/score.more", "finesse/score.insult"], apart := false, laid := [("finesse/score.value", laid_finesse_score_value), ("finesse/score.factor", laid_finesse_score_factor), ("finesse/score.insult", laid_finesse_score_insult), ("finesse/score.more", laid_finesse_score_more)] }
def AdjustOnceSaid : Prop := adjustOnceRow.holds Tryd.pinned (OpenSpec.ofChange adjustOnceSpec)

/-- ITS FALSE NEIGHBOUR: 'it returns false'. Refute it at one input. -/
def adjustOnceWrong : ChangeSpec := { name := "adjustOnce", fn := fun _ => fun
  | [d1, d2, d3, d4] => { results := [.lit (.bool false)], args := [d1, d2, d3, d4] }
  | _ => none }
def AdjustOnceWrongFalsely : Prop := adjustOnceRow.holds Tryd.pinned (OpenSpec.ofChange adjustOnceWrong)

/-- 'finesselaw22.AdjustWrong': WHATEVER THE INPUT: true; the input reads as it did. -/
def adjustWrongSpec : ChangeSpec := { name := "adjustWrong", fn := fun _ => fun
  | [d1, d2] => { results := [.lit (.bool true)], args := [d1, d2] }
  | _ => none }
def adjustWrongRow : OpenClaim := { program := "ytgfnggdjjigomaadoor", sum := "65d40d072213988176babf5965a0b2f7777d41ffba5165e609aad09e313d2ac6", func := "finesse/finesselaw22.AdjustWrong", spec := "adjustWrong", unfollowed := true, recurses := true, named := ["finesse/score.value", "finesse/score.factor", "finesse/score.more", "finesse/score.insult"], apart := false, laid := [("finesse/score.value", laid_finesse_score_value), ("finesse/score.factor", laid_finesse_score_factor), ("finesse/score.insult", laid_finesse_score_insult), ("finesse/score.more", laid_finesse_score_more)] }
def AdjustWrongSaid : Prop := adjustWrongRow.holds Tryd.pinned (OpenSpec.ofChange adjustWrongSpec)

/-- ITS FALSE NEIGHBOUR: 'it returns false'. Refute it at one input. -/
def adjustWrongWrong : ChangeSpec := { name := "adjustWrong", fn := fun _ => fun
  | [d1, d2] => { results := [.lit (.bool false)], args := [d1, d2] }
  | _ => none }
def AdjustWrongWrongFalsely : Prop := adjustWrongRow.holds Tryd.pinned (OpenSpec.ofChange adjustWrongWrong)

/-- 'finesselaw22.AdjustMeans': WHATEVER THE INPUT: true; the input reads as it did. -/
def adjustMeansSpec : ChangeSpec := { name := "adjustMeans", fn := fun _ => fun
  | [d1, d2] => { results := [.lit (.bool true)], args := [d1, d2] }
  | _ => none }
def adjustMeansRow : OpenClaim := { program := "ytgfnggdjjigomaadoor", sum := "65d40d072213988176babf5965a0b2f7777d41ffba5165e609aad09e313d2ac6", func := "finesse/finesselaw22.AdjustMeans", spec := "adjustMeans", unfollowed := true, recurses := true, named := ["finesse/score.value", "finesse/score.factor", "finesse/score.more", "finesse/score.insult"], apart := false, laid := [("finesse/score.value", laid_finesse_score_value), ("finesse/score.factor", laid_finesse_score_factor), ("finesse/score.insult", laid_finesse_score_insult), ("finesse/score.more", laid_finesse_score_more)] }
def AdjustMeansSaid : Prop := adjustMeansRow.holds Tryd.pinned (OpenSpec.ofChange adjustMeansSpec)

/-- ITS FALSE NEIGHBOUR: 'it returns false'. Refute it at one input. -/
def adjustMeansWrong : ChangeSpec := { name := "adjustMeans", fn := fun _ => fun
  | [d1, d2] => { results := [.lit (.bool false)], args := [d1, d2] }
  | _ => none }
def AdjustMeansWrongFalsely : Prop := adjustMeansRow.holds Tryd.pinned (OpenSpec.ofChange adjustMeansWrong)

/-- 'finesselaw22.AdjustAwards': WHATEVER THE INPUT: true; the input reads as it did. -/
def adjustAwardsSpec : ChangeSpec := { name := "adjustAwards", fn := fun _ => fun
  | [d1, d2] => { results := [.lit (.bool true)], args := [d1, d2] }
  | _ => none }
def adjustAwardsRow : OpenClaim := { program := "ytgfnggdjjigomaadoor", sum := "65d40d072213988176babf5965a0b2f7777d41ffba5165e609aad09e313d2ac6", func := "finesse/finesselaw22.AdjustAwards", spec := "adjustAwards", inPlace := ["math/bits.Add64", "math/bits.Sub64"], unfollowed := true, recurses := true, named := ["finesse/score.value", "finesse/score.factor", "finesse/score.more", "finesse/score.insult", "math/bits.divideError", "math/bits.overflowError"], apart := false, laid := [("finesse/score.value", laid_finesse_score_value), ("finesse/score.factor", laid_finesse_score_factor), ("finesse/score.insult", laid_finesse_score_insult), ("finesse/score.more", laid_finesse_score_more)] }
def AdjustAwardsSaid : Prop := adjustAwardsRow.holds Tryd.pinned (OpenSpec.ofChange adjustAwardsSpec)

/-- ITS FALSE NEIGHBOUR: 'it returns false'. Refute it at one input. -/
def adjustAwardsWrong : ChangeSpec := { name := "adjustAwards", fn := fun _ => fun
  | [d1, d2] => { results := [.lit (.bool false)], args := [d1, d2] }
  | _ => none }
def AdjustAwardsWrongFalsely : Prop := adjustAwardsRow.holds Tryd.pinned (OpenSpec.ofChange adjustAwardsWrong)

/-- 'finesselaw22.AdjustSides': WHATEVER THE INPUT: true; the input reads as it did. -/
def adjustSidesSpec : ChangeSpec := { name := "adjustSides", fn := fun _ => fun
  | [d1, d2, d3] => { results := [.lit (.bool true)], args := [d1, d2, d3] }
  | _ => none }
def adjustSidesRow : OpenClaim := { program := "ytgfnggdjjigomaadoor", sum := "65d40d072213988176babf5965a0b2f7777d41ffba5165e609aad09e313d2ac6", func := "finesse/finesselaw22.AdjustSides", spec := "adjustSides", inPlace := ["math/bits.Add64", "math/bits.Sub64"], unfollowed := true, recurses := true, named := ["finesse/score.value", "finesse/score.factor", "finesse/score.more", "finesse/score.insult", "math/bits.divideError", "math/bits.overflowError", "finesse/match.gets"], apart := false, laid := [("finesse/match.gets", laid_finesse_match_gets), ("finesse/score.value", laid_finesse_score_value), ("finesse/score.factor", laid_finesse_score_factor), ("finesse/score.insult", laid_finesse_score_insult), ("finesse/score.more", laid_finesse_score_more)] }
def AdjustSidesSaid : Prop := adjustSidesRow.holds Tryd.pinned (OpenSpec.ofChange adjustSidesSpec)

/-- ITS FALSE NEIGHBOUR: 'it returns false'. Refute it at one input. -/
def adjustSidesWrong : ChangeSpec := { name := "adjustSides", fn := fun _ => fun
  | [d1, d2, d3] => { results := [.lit (.bool false)], args := [d1, d2, d3] }
  | _ => none }
def AdjustSidesWrongFalsely : Prop := adjustSidesRow.holds Tryd.pinned (OpenSpec.ofChange adjustSidesWrong)

/- THE SECOND FORM. 'bulk': how many values and letters a reading holds, each counted each time it is reached (what is shared counts as often as it is met; a slice's spare places count too). A statement '..UptoSaid' is the law's where the arguments, and the package variables that the reading takes, are together of bulk at most 1048576: NARROWER than '..Said'. Prove '..Said' where nothing that the law and all that it calls make is longer than what came in: it says more and counts as full. Else prove '..UptoSaid'. A law counts once. -/
mutual
def uptoBulk {H : Type} : DataW H → Nat
  | .lit (.string bytes) => bytes.length + 1
  | .lit _ => 1
  | .nil => 1
  | .ptr d => uptoBulk d + 1
  | .slice elems spare => uptoBulkAll elems + uptoBulkAll spare + 1
  | .agg parts => uptoBulkAll parts + 1
  | .iface _ d => uptoBulk d + 1
  | .map entries => uptoBulkEntries entries + 1
  | .held _ => 1
def uptoBulkAll {H : Type} : List (DataW H) → Nat
  | [] => 0
  | d :: r => uptoBulk d + uptoBulkAll r
def uptoBulkEntries {H : Type} : List (Lit × DataW H) → Nat
  | [] => 0
  | x :: r => uptoBulkEntry x + uptoBulkEntries r
def uptoBulkEntry {H : Type} : Lit × DataW H → Nat
  | (.string bytes, d) => bytes.length + uptoBulk d + 1
  | (_, d) => uptoBulk d + 1
 end
def uptoSmall : (H : Type) → List (DataW H) → Bool := fun _ ds => decide (uptoBulkAll ds ≤ 1048576)
def OpenSpec.upto (s : _root_.Go.ChangeSpec) : _root_.Go.OpenSpec := { _root_.Go.OpenSpec.ofChange s with cond := some uptoSmall }

/-- 'finesselaw22.AdjustTells', WHERE WHAT IT READS IS OF BULK AT MOST 1048576: true; the input reads as it did. -/
def adjustTellsUptoRow : OpenClaim := { program := "ytgfnggdjjigomaadoor", sum := "65d40d072213988176babf5965a0b2f7777d41ffba5165e609aad09e313d2ac6", func := "finesse/finesselaw22.AdjustTells", spec := "adjustTells", unfollowed := true, recurses := true, named := ["finesse/score.value", "finesse/score.factor", "finesse/score.more", "finesse/score.insult"], apart := false, laid := [("finesse/score.value", laid_finesse_score_value), ("finesse/score.factor", laid_finesse_score_factor), ("finesse/score.insult", laid_finesse_score_insult), ("finesse/score.more", laid_finesse_score_more)], narrowed := true }
def AdjustTellsUptoSaid : Prop := adjustTellsUptoRow.holds Tryd.pinned (OpenSpec.upto adjustTellsSpec)

/-- 'finesselaw22.AdjustWeighted', WHERE WHAT IT READS IS OF BULK AT MOST 1048576: true; the input reads as it did. -/
def adjustWeightedUptoRow : OpenClaim := { program := "ytgfnggdjjigomaadoor", sum := "65d40d072213988176babf5965a0b2f7777d41ffba5165e609aad09e313d2ac6", func := "finesse/finesselaw22.AdjustWeighted", spec := "adjustWeighted", unfollowed := true, recurses := true, named := ["finesse/score.value", "finesse/score.factor", "finesse/score.more", "finesse/score.insult"], apart := false, laid := [("finesse/score.value", laid_finesse_score_value), ("finesse/score.factor", laid_finesse_score_factor), ("finesse/score.insult", laid_finesse_score_insult), ("finesse/score.more", laid_finesse_score_more)], narrowed := true }
def AdjustWeightedUptoSaid : Prop := adjustWeightedUptoRow.holds Tryd.pinned (OpenSpec.upto adjustWeightedSpec)

/-- 'finesselaw22.AdjustOnce', WHERE WHAT IT READS IS OF BULK AT MOST 1048576: true; the input reads as it did. -/
def adjustOnceUptoRow : OpenClaim := { program := "ytgfnggdjjigomaadoor", sum := "65d40d072213988176babf5965a0b2f7777d41ffba5165e609aad09e313d2ac6", func := "finesse/finesselaw22.AdjustOnce", spec := "adjustOnce", unfollowed := true, recurses := true, named := ["finesse/score.value", "finesse/score.factor", "finesse/score.more", "finesse/score.insult"], apart := false, laid := [("finesse/score.value", laid_finesse_score_value), ("finesse/score.factor", laid_finesse_score_factor), ("finesse/score.insult", laid_finesse_score_insult), ("finesse/score.more", laid_finesse_score_more)], narrowed := true }
def AdjustOnceUptoSaid : Prop := adjustOnceUptoRow.holds Tryd.pinned (OpenSpec.upto adjustOnceSpec)

/-- 'finesselaw22.AdjustWrong', WHERE WHAT IT READS IS OF BULK AT MOST 1048576: true; the input reads as it did. -/
def adjustWrongUptoRow : OpenClaim := { program := "ytgfnggdjjigomaadoor", sum := "65d40d072213988176babf5965a0b2f7777d41ffba5165e609aad09e313d2ac6", func := "finesse/finesselaw22.AdjustWrong", spec := "adjustWrong", unfollowed := true, recurses := true, named := ["finesse/score.value", "finesse/score.factor", "finesse/score.more", "finesse/score.insult"], apart := false, laid := [("finesse/score.value", laid_finesse_score_value), ("finesse/score.factor", laid_finesse_score_factor), ("finesse/score.insult", laid_finesse_score_insult), ("finesse/score.more", laid_finesse_score_more)], narrowed := true }
def AdjustWrongUptoSaid : Prop := adjustWrongUptoRow.holds Tryd.pinned (OpenSpec.upto adjustWrongSpec)

/-- 'finesselaw22.AdjustMeans', WHERE WHAT IT READS IS OF BULK AT MOST 1048576: true; the input reads as it did. -/
def adjustMeansUptoRow : OpenClaim := { program := "ytgfnggdjjigomaadoor", sum := "65d40d072213988176babf5965a0b2f7777d41ffba5165e609aad09e313d2ac6", func := "finesse/finesselaw22.AdjustMeans", spec := "adjustMeans", unfollowed := true, recurses := true, named := ["finesse/score.value", "finesse/score.factor", "finesse/score.more", "finesse/score.insult"], apart := false, laid := [("finesse/score.value", laid_finesse_score_value), ("finesse/score.factor", laid_finesse_score_factor), ("finesse/score.insult", laid_finesse_score_insult), ("finesse/score.more", laid_finesse_score_more)], narrowed := true }
def AdjustMeansUptoSaid : Prop := adjustMeansUptoRow.holds Tryd.pinned (OpenSpec.upto adjustMeansSpec)

/-- 'finesselaw22.AdjustAwards', WHERE WHAT IT READS IS OF BULK AT MOST 1048576: true; the input reads as it did. -/
def adjustAwardsUptoRow : OpenClaim := { program := "ytgfnggdjjigomaadoor", sum := "65d40d072213988176babf5965a0b2f7777d41ffba5165e609aad09e313d2ac6", func := "finesse/finesselaw22.AdjustAwards", spec := "adjustAwards", inPlace := ["math/bits.Add64", "math/bits.Sub64"], unfollowed := true, recurses := true, named := ["finesse/score.value", "finesse/score.factor", "finesse/score.more", "finesse/score.insult", "math/bits.divideError", "math/bits.overflowError"], apart := false, laid := [("finesse/score.value", laid_finesse_score_value), ("finesse/score.factor", laid_finesse_score_factor), ("finesse/score.insult", laid_finesse_score_insult), ("finesse/score.more", laid_finesse_score_more)], narrowed := true }
def AdjustAwardsUptoSaid : Prop := adjustAwardsUptoRow.holds Tryd.pinned (OpenSpec.upto adjustAwardsSpec)

/-- 'finesselaw22.AdjustSides', WHERE WHAT IT READS IS OF BULK AT MOST 1048576: true; the input reads as it did. -/
def adjustSidesUptoRow : OpenClaim := { program := "ytgfnggdjjigomaadoor", sum := "65d40d072213988176babf5965a0b2f7777d41ffba5165e609aad09e313d2ac6", func := "finesse/finesselaw22.AdjustSides", spec := "adjustSides", inPlace := ["math/bits.Add64", "math/bits.Sub64"], unfollowed := true, recurses := true, named := ["finesse/score.value", "finesse/score.factor", "finesse/score.more", "finesse/score.insult", "math/bits.divideError", "math/bits.overflowError", "finesse/match.gets"], apart := false, laid := [("finesse/match.gets", laid_finesse_match_gets), ("finesse/score.value", laid_finesse_score_value), ("finesse/score.factor", laid_finesse_score_factor), ("finesse/score.insult", laid_finesse_score_insult), ("finesse/score.more", laid_finesse_score_more)], narrowed := true }
def AdjustSidesUptoSaid : Prop := adjustSidesUptoRow.holds Tryd.pinned (OpenSpec.upto adjustSidesSpec)

end Rows
end Go.Proofs.YtgfnggdjjigomaaDoor
