/-
  DERIVED. GIVEN WITH THE SEED: THE PROGRAM's TIES (one call each: nine closed facts by the kernel) AND EACH ROW's TIE, after the 31st guide's Derived/Test/Toyas{Tie, Card}.lean. No idea stands in it: it is a product of the set-up. Laid BY PROGRAM, IN A SANDBOX (cutbox-door.mjs). By AI agents, Wed Nov 11 2026. No macro, syntax, notation, axiom, sorry.
-/
import Derived.Test.YtgfnggdjjigomaaDoorRows
import Derived.LaidByTextLater
import Derived.SevenTiedAt
import Derived.LaidSub
import Derived.LaidOnce
namespace Go.Proofs.YtgfnggdjjigomaaDoor
open Go
set_option maxRecDepth 100000
theorem seatTie1 : Tryd.prog.laidByTextLater [("finesse/match.gets", Rows.laid_finesse_match_gets), ("finesse/score.value", Rows.laid_finesse_score_value), ("finesse/score.factor", Rows.laid_finesse_score_factor), ("finesse/score.insult", Rows.laid_finesse_score_insult), ("finesse/score.more", Rows.laid_finesse_score_more)] [.data, .data, .data, .data, .data] true :=
  Program.laidByTextLater_by_one 37 8 7 (by kernel_rfl) (by kernel_rfl) (by kernel_rfl) (by kernel_rfl) (by kernel_rfl) (by kernel_rfl) (fun _ _ => by kernel_rfl)
theorem noOwnUnsafe : Tryd.pinned.checked.prog.headLifts.contains "ownunsafe" = false := by kernel_rfl
theorem tie : Tryd.prog.laidByTextLater [("finesse/score.value", Rows.laid_finesse_score_value), ("finesse/score.factor", Rows.laid_finesse_score_factor), ("finesse/score.insult", Rows.laid_finesse_score_insult), ("finesse/score.more", Rows.laid_finesse_score_more)] [.data, .data, .data, .data] true :=
  Program.laidByTextLater.sub seatTie1 ["finesse/score.value", "finesse/score.factor", "finesse/score.insult", "finesse/score.more"] (by kernel_rfl) (by kernel_rfl)
theorem adjustTells_row_tie : Rows.adjustTellsRow.laidByTextAt .later Tryd.pinned [.data, .data, .data, .data] true :=
  OpenClaim.laidByTextAt_later rfl rfl tie noOwnUnsafe
theorem adjustWeighted_row_tie : Rows.adjustWeightedRow.laidByTextAt .later Tryd.pinned [.data, .data, .data, .data] true :=
  OpenClaim.laidByTextAt_later rfl rfl tie noOwnUnsafe
theorem adjustOnce_row_tie : Rows.adjustOnceRow.laidByTextAt .later Tryd.pinned [.data, .data, .data, .data] true :=
  OpenClaim.laidByTextAt_later rfl rfl tie noOwnUnsafe
theorem adjustWrong_row_tie : Rows.adjustWrongRow.laidByTextAt .later Tryd.pinned [.data, .data, .data, .data] true :=
  OpenClaim.laidByTextAt_later rfl rfl tie noOwnUnsafe
theorem adjustMeans_row_tie : Rows.adjustMeansRow.laidByTextAt .later Tryd.pinned [.data, .data, .data, .data] true :=
  OpenClaim.laidByTextAt_later rfl rfl tie noOwnUnsafe
theorem adjustAwards_row_tie : Rows.adjustAwardsRow.laidByTextAt .later Tryd.pinned [.data, .data, .data, .data] true :=
  OpenClaim.laidByTextAt_later rfl rfl tie noOwnUnsafe
theorem tie2 : Tryd.prog.laidByTextLater [("finesse/match.gets", Rows.laid_finesse_match_gets), ("finesse/score.value", Rows.laid_finesse_score_value), ("finesse/score.factor", Rows.laid_finesse_score_factor), ("finesse/score.insult", Rows.laid_finesse_score_insult), ("finesse/score.more", Rows.laid_finesse_score_more)] [.data, .data, .data, .data, .data] true :=
  Program.laidByTextLater.sub seatTie1 ["finesse/match.gets", "finesse/score.value", "finesse/score.factor", "finesse/score.insult", "finesse/score.more"] (by kernel_rfl) (by kernel_rfl)
theorem adjustSides_row_tie : Rows.adjustSidesRow.laidByTextAt .later Tryd.pinned [.data, .data, .data, .data, .data] true :=
  OpenClaim.laidByTextAt_later rfl rfl tie2 noOwnUnsafe
theorem adjustTellsUpto_row_tie : Rows.adjustTellsUptoRow.laidByTextAt .later Tryd.pinned [.data, .data, .data, .data] true :=
  OpenClaim.laidByTextAt_later rfl rfl tie noOwnUnsafe
theorem adjustWeightedUpto_row_tie : Rows.adjustWeightedUptoRow.laidByTextAt .later Tryd.pinned [.data, .data, .data, .data] true :=
  OpenClaim.laidByTextAt_later rfl rfl tie noOwnUnsafe
theorem adjustOnceUpto_row_tie : Rows.adjustOnceUptoRow.laidByTextAt .later Tryd.pinned [.data, .data, .data, .data] true :=
  OpenClaim.laidByTextAt_later rfl rfl tie noOwnUnsafe
theorem adjustWrongUpto_row_tie : Rows.adjustWrongUptoRow.laidByTextAt .later Tryd.pinned [.data, .data, .data, .data] true :=
  OpenClaim.laidByTextAt_later rfl rfl tie noOwnUnsafe
theorem adjustMeansUpto_row_tie : Rows.adjustMeansUptoRow.laidByTextAt .later Tryd.pinned [.data, .data, .data, .data] true :=
  OpenClaim.laidByTextAt_later rfl rfl tie noOwnUnsafe
theorem adjustAwardsUpto_row_tie : Rows.adjustAwardsUptoRow.laidByTextAt .later Tryd.pinned [.data, .data, .data, .data] true :=
  OpenClaim.laidByTextAt_later rfl rfl tie noOwnUnsafe
theorem adjustSidesUpto_row_tie : Rows.adjustSidesUptoRow.laidByTextAt .later Tryd.pinned [.data, .data, .data, .data, .data] true :=
  OpenClaim.laidByTextAt_later rfl rfl tie2 noOwnUnsafe
end Go.Proofs.YtgfnggdjjigomaaDoor
