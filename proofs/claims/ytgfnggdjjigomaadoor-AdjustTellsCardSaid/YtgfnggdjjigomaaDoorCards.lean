/-
  DERIVED. GIVEN WITH THE SEED: THE CARDS: each row of YtgfnggdjjigomaaDoorRows.lean that lists a variable, with what it lists TIED to the program's text (the seventh form; the later family's looks); each row that meets fmt, with fmt's text TOLD by the authors' own Lean function (tested against real Go, not proved from fmt's source: count such statements apart). THE CARD IS WHAT COUNTS. Prove the row's statement (the work); the ties are given (YtgfnggdjjigomaaDoorTie.lean); close each card by the builder's one call (the guide's Derived/Test/ToyasCard.lean, 'card_holds'). Laid BY PROGRAM, IN A SANDBOX (cutbox-door.mjs). By AI agents, Wed Nov 11 2026. No macro, syntax, notation, axiom, sorry.
-/
import Derived.Test.YtgfnggdjjigomaaDoorRows
import GoSem.ClaimSeven
namespace Go.Proofs.YtgfnggdjjigomaaDoor
namespace Rows

/-- THE TIED CARD OF 'finesselaw22.AdjustTells'. -/
def adjustTellsCard : Claim7 := { stood := { row := adjustTellsRow, standIns := [], harness := (true, "d83a21ec5ece7273d2e076a1a758866a05b3398fa1bfac0c6a640f9a76dce9ee"), looks := false }, kinds := [], alts := [], laidByText := true, laidKinds := [.data, .data, .data, .data], laidTests := true, laidLooks := .later }
def AdjustTellsCardSaid : Prop := Claim7.holds Tryd.pinned (.plain (OpenSpec.ofChange adjustTellsSpec)) adjustTellsCard

/-- THE TIED CARD OF 'finesselaw22.AdjustWeighted'. -/
def adjustWeightedCard : Claim7 := { stood := { row := adjustWeightedRow, standIns := [], harness := (true, "d83a21ec5ece7273d2e076a1a758866a05b3398fa1bfac0c6a640f9a76dce9ee"), looks := false }, kinds := [], alts := [], laidByText := true, laidKinds := [.data, .data, .data, .data], laidTests := true, laidLooks := .later }
def AdjustWeightedCardSaid : Prop := Claim7.holds Tryd.pinned (.plain (OpenSpec.ofChange adjustWeightedSpec)) adjustWeightedCard

/-- THE TIED CARD OF 'finesselaw22.AdjustOnce'. -/
def adjustOnceCard : Claim7 := { stood := { row := adjustOnceRow, standIns := [], harness := (true, "d83a21ec5ece7273d2e076a1a758866a05b3398fa1bfac0c6a640f9a76dce9ee"), looks := false }, kinds := [], alts := [], laidByText := true, laidKinds := [.data, .data, .data, .data], laidTests := true, laidLooks := .later }
def AdjustOnceCardSaid : Prop := Claim7.holds Tryd.pinned (.plain (OpenSpec.ofChange adjustOnceSpec)) adjustOnceCard

/-- THE TIED CARD OF 'finesselaw22.AdjustWrong'. -/
def adjustWrongCard : Claim7 := { stood := { row := adjustWrongRow, standIns := [], harness := (true, "d83a21ec5ece7273d2e076a1a758866a05b3398fa1bfac0c6a640f9a76dce9ee"), looks := false }, kinds := [], alts := [], laidByText := true, laidKinds := [.data, .data, .data, .data], laidTests := true, laidLooks := .later }
def AdjustWrongCardSaid : Prop := Claim7.holds Tryd.pinned (.plain (OpenSpec.ofChange adjustWrongSpec)) adjustWrongCard

/-- THE TIED CARD OF 'finesselaw22.AdjustMeans'. -/
def adjustMeansCard : Claim7 := { stood := { row := adjustMeansRow, standIns := [], harness := (true, "d83a21ec5ece7273d2e076a1a758866a05b3398fa1bfac0c6a640f9a76dce9ee"), looks := false }, kinds := [], alts := [], laidByText := true, laidKinds := [.data, .data, .data, .data], laidTests := true, laidLooks := .later }
def AdjustMeansCardSaid : Prop := Claim7.holds Tryd.pinned (.plain (OpenSpec.ofChange adjustMeansSpec)) adjustMeansCard

/-- THE TIED CARD OF 'finesselaw22.AdjustAwards'. -/
def adjustAwardsCard : Claim7 := { stood := { row := adjustAwardsRow, standIns := [], harness := (true, "d83a21ec5ece7273d2e076a1a758866a05b3398fa1bfac0c6a640f9a76dce9ee"), looks := false }, kinds := [], alts := [], laidByText := true, laidKinds := [.data, .data, .data, .data], laidTests := true, laidLooks := .later }
def AdjustAwardsCardSaid : Prop := Claim7.holds Tryd.pinned (.plain (OpenSpec.ofChange adjustAwardsSpec)) adjustAwardsCard

/-- THE TIED CARD OF 'finesselaw22.AdjustSides'. -/
def adjustSidesCard : Claim7 := { stood := { row := adjustSidesRow, standIns := [], harness := (true, "d83a21ec5ece7273d2e076a1a758866a05b3398fa1bfac0c6a640f9a76dce9ee"), looks := false }, kinds := [], alts := [], laidByText := true, laidKinds := [.data, .data, .data, .data, .data], laidTests := true, laidLooks := .later }
def AdjustSidesCardSaid : Prop := Claim7.holds Tryd.pinned (.plain (OpenSpec.ofChange adjustSidesSpec)) adjustSidesCard

/-- THE SECOND FORM's CARD OF 'finesselaw22.AdjustTells'. -/
def adjustTellsUptoCard : Claim7 := { stood := { row := adjustTellsUptoRow, standIns := [], harness := (true, "d83a21ec5ece7273d2e076a1a758866a05b3398fa1bfac0c6a640f9a76dce9ee"), looks := false }, kinds := [], alts := [], laidByText := true, laidKinds := [.data, .data, .data, .data], laidTests := true, laidLooks := .later }
def AdjustTellsUptoCardSaid : Prop := Claim7.holds Tryd.pinned (.plain (OpenSpec.upto adjustTellsSpec)) adjustTellsUptoCard

/-- THE SECOND FORM's CARD OF 'finesselaw22.AdjustWeighted'. -/
def adjustWeightedUptoCard : Claim7 := { stood := { row := adjustWeightedUptoRow, standIns := [], harness := (true, "d83a21ec5ece7273d2e076a1a758866a05b3398fa1bfac0c6a640f9a76dce9ee"), looks := false }, kinds := [], alts := [], laidByText := true, laidKinds := [.data, .data, .data, .data], laidTests := true, laidLooks := .later }
def AdjustWeightedUptoCardSaid : Prop := Claim7.holds Tryd.pinned (.plain (OpenSpec.upto adjustWeightedSpec)) adjustWeightedUptoCard

/-- THE SECOND FORM's CARD OF 'finesselaw22.AdjustOnce'. -/
def adjustOnceUptoCard : Claim7 := { stood := { row := adjustOnceUptoRow, standIns := [], harness := (true, "d83a21ec5ece7273d2e076a1a758866a05b3398fa1bfac0c6a640f9a76dce9ee"), looks := false }, kinds := [], alts := [], laidByText := true, laidKinds := [.data, .data, .data, .data], laidTests := true, laidLooks := .later }
def AdjustOnceUptoCardSaid : Prop := Claim7.holds Tryd.pinned (.plain (OpenSpec.upto adjustOnceSpec)) adjustOnceUptoCard

/-- THE SECOND FORM's CARD OF 'finesselaw22.AdjustWrong'. -/
def adjustWrongUptoCard : Claim7 := { stood := { row := adjustWrongUptoRow, standIns := [], harness := (true, "d83a21ec5ece7273d2e076a1a758866a05b3398fa1bfac0c6a640f9a76dce9ee"), looks := false }, kinds := [], alts := [], laidByText := true, laidKinds := [.data, .data, .data, .data], laidTests := true, laidLooks := .later }
def AdjustWrongUptoCardSaid : Prop := Claim7.holds Tryd.pinned (.plain (OpenSpec.upto adjustWrongSpec)) adjustWrongUptoCard

/-- THE SECOND FORM's CARD OF 'finesselaw22.AdjustMeans'. -/
def adjustMeansUptoCard : Claim7 := { stood := { row := adjustMeansUptoRow, standIns := [], harness := (true, "d83a21ec5ece7273d2e076a1a758866a05b3398fa1bfac0c6a640f9a76dce9ee"), looks := false }, kinds := [], alts := [], laidByText := true, laidKinds := [.data, .data, .data, .data], laidTests := true, laidLooks := .later }
def AdjustMeansUptoCardSaid : Prop := Claim7.holds Tryd.pinned (.plain (OpenSpec.upto adjustMeansSpec)) adjustMeansUptoCard

/-- THE SECOND FORM's CARD OF 'finesselaw22.AdjustAwards'. -/
def adjustAwardsUptoCard : Claim7 := { stood := { row := adjustAwardsUptoRow, standIns := [], harness := (true, "d83a21ec5ece7273d2e076a1a758866a05b3398fa1bfac0c6a640f9a76dce9ee"), looks := false }, kinds := [], alts := [], laidByText := true, laidKinds := [.data, .data, .data, .data], laidTests := true, laidLooks := .later }
def AdjustAwardsUptoCardSaid : Prop := Claim7.holds Tryd.pinned (.plain (OpenSpec.upto adjustAwardsSpec)) adjustAwardsUptoCard

/-- THE SECOND FORM's CARD OF 'finesselaw22.AdjustSides'. -/
def adjustSidesUptoCard : Claim7 := { stood := { row := adjustSidesUptoRow, standIns := [], harness := (true, "d83a21ec5ece7273d2e076a1a758866a05b3398fa1bfac0c6a640f9a76dce9ee"), looks := false }, kinds := [], alts := [], laidByText := true, laidKinds := [.data, .data, .data, .data, .data], laidTests := true, laidLooks := .later }
def AdjustSidesUptoCardSaid : Prop := Claim7.holds Tryd.pinned (.plain (OpenSpec.upto adjustSidesSpec)) adjustSidesUptoCard
end Rows
end Go.Proofs.YtgfnggdjjigomaaDoor
