/-
  DERIVED. GIVEN WITH THE SEED: THE CARDS: each row of YteemknjnlocgpaaDoorRows.lean that lists a variable, with what it lists TIED to the program's text (the seventh form; the later family's looks); each row that meets fmt, with fmt's text TOLD by the authors' own Lean function (tested against real Go, not proved from fmt's source: count such statements apart). THE CARD IS WHAT COUNTS. Prove the row's statement (the work); the ties are given (YteemknjnlocgpaaDoorTie.lean); close each card by the builder's one call (the guide's Derived/Test/ToyasCard.lean, 'card_holds'). Laid BY PROGRAM, IN A SANDBOX (cutbox-door.mjs). By AI agents, Wed Nov 11 2026. No macro, syntax, notation, axiom, sorry.
-/
import Derived.Test.YteemknjnlocgpaaDoorRows
import GoSem.ClaimSeven
namespace Go.Proofs.YteemknjnlocgpaaDoor
namespace Rows

/-- THE TIED CARD OF 'finesselaw20.MatchPoints'. -/
def matchPointsCard : Claim7 := { stood := { row := matchPointsRow, standIns := [], harness := (true, "4730c0772b95275ea09ea363ff2a14b87d68003f77a754f587614aece61dc744"), looks := false }, kinds := [], alts := [], laidByText := true, laidKinds := [.data], laidTests := true, laidLooks := .later }
def MatchPointsCardSaid : Prop := Claim7.holds Tryd.pinned (.plain (OpenSpec.ofChange matchPointsSpec)) matchPointsCard

/-- THE TIED CARD OF 'finesselaw20.MatchSplit'. -/
def matchSplitCard : Claim7 := { stood := { row := matchSplitRow, standIns := [], harness := (true, "4730c0772b95275ea09ea363ff2a14b87d68003f77a754f587614aece61dc744"), looks := false }, kinds := [], alts := [], laidByText := true, laidKinds := [.data], laidTests := true, laidLooks := .later }
def MatchSplitCardSaid : Prop := Claim7.holds Tryd.pinned (.plain (OpenSpec.ofChange matchSplitSpec)) matchSplitCard

/-- THE TIED CARD OF 'finesselaw20.MatchTells'. -/
def matchTellsCard : Claim7 := { stood := { row := matchTellsRow, standIns := [], harness := (true, "4730c0772b95275ea09ea363ff2a14b87d68003f77a754f587614aece61dc744"), looks := false }, kinds := [], alts := [], laidByText := true, laidKinds := [.data], laidTests := true, laidLooks := .later }
def MatchTellsCardSaid : Prop := Claim7.holds Tryd.pinned (.plain (OpenSpec.ofChange matchTellsSpec)) matchTellsCard

/-- THE TIED CARD OF 'finesselaw20.MatchWrong'. -/
def matchWrongCard : Claim7 := { stood := { row := matchWrongRow, standIns := [], harness := (true, "4730c0772b95275ea09ea363ff2a14b87d68003f77a754f587614aece61dc744"), looks := false }, kinds := [], alts := [], laidByText := true, laidKinds := [.data], laidTests := true, laidLooks := .later }
def MatchWrongCardSaid : Prop := Claim7.holds Tryd.pinned (.plain (OpenSpec.ofChange matchWrongSpec)) matchWrongCard

/-- THE TIED CARD OF 'finesselaw20.MatchOrder'. -/
def matchOrderCard : Claim7 := { stood := { row := matchOrderRow, standIns := [], harness := (true, "4730c0772b95275ea09ea363ff2a14b87d68003f77a754f587614aece61dc744"), looks := false }, kinds := [], alts := [], laidByText := true, laidKinds := [.data], laidTests := true, laidLooks := .later }
def MatchOrderCardSaid : Prop := Claim7.holds Tryd.pinned (.plain (OpenSpec.ofChange matchOrderSpec)) matchOrderCard

/-- THE TIED CARD OF 'finesselaw20.MatchPairs'. -/
def matchPairsCard : Claim7 := { stood := { row := matchPairsRow, standIns := [], harness := (true, "4730c0772b95275ea09ea363ff2a14b87d68003f77a754f587614aece61dc744"), looks := false }, kinds := [], alts := [], laidByText := true, laidKinds := [.data], laidTests := true, laidLooks := .later }
def MatchPairsCardSaid : Prop := Claim7.holds Tryd.pinned (.plain (OpenSpec.ofChange matchPairsSpec)) matchPairsCard

/-- THE TIED CARD OF 'finesselaw20.MatchSums'. -/
def matchSumsCard : Claim7 := { stood := { row := matchSumsRow, standIns := [], harness := (true, "4730c0772b95275ea09ea363ff2a14b87d68003f77a754f587614aece61dc744"), looks := false }, kinds := [], alts := [], laidByText := true, laidKinds := [.data], laidTests := true, laidLooks := .later }
def MatchSumsCardSaid : Prop := Claim7.holds Tryd.pinned (.plain (OpenSpec.ofChange matchSumsSpec)) matchSumsCard

/-- THE SECOND FORM's CARD OF 'finesselaw20.MatchPoints'. -/
def matchPointsUptoCard : Claim7 := { stood := { row := matchPointsUptoRow, standIns := [], harness := (true, "4730c0772b95275ea09ea363ff2a14b87d68003f77a754f587614aece61dc744"), looks := false }, kinds := [], alts := [], laidByText := true, laidKinds := [.data], laidTests := true, laidLooks := .later }
def MatchPointsUptoCardSaid : Prop := Claim7.holds Tryd.pinned (.plain (OpenSpec.upto matchPointsSpec)) matchPointsUptoCard

/-- THE SECOND FORM's CARD OF 'finesselaw20.MatchSplit'. -/
def matchSplitUptoCard : Claim7 := { stood := { row := matchSplitUptoRow, standIns := [], harness := (true, "4730c0772b95275ea09ea363ff2a14b87d68003f77a754f587614aece61dc744"), looks := false }, kinds := [], alts := [], laidByText := true, laidKinds := [.data], laidTests := true, laidLooks := .later }
def MatchSplitUptoCardSaid : Prop := Claim7.holds Tryd.pinned (.plain (OpenSpec.upto matchSplitSpec)) matchSplitUptoCard

/-- THE SECOND FORM's CARD OF 'finesselaw20.MatchTells'. -/
def matchTellsUptoCard : Claim7 := { stood := { row := matchTellsUptoRow, standIns := [], harness := (true, "4730c0772b95275ea09ea363ff2a14b87d68003f77a754f587614aece61dc744"), looks := false }, kinds := [], alts := [], laidByText := true, laidKinds := [.data], laidTests := true, laidLooks := .later }
def MatchTellsUptoCardSaid : Prop := Claim7.holds Tryd.pinned (.plain (OpenSpec.upto matchTellsSpec)) matchTellsUptoCard

/-- THE SECOND FORM's CARD OF 'finesselaw20.MatchWrong'. -/
def matchWrongUptoCard : Claim7 := { stood := { row := matchWrongUptoRow, standIns := [], harness := (true, "4730c0772b95275ea09ea363ff2a14b87d68003f77a754f587614aece61dc744"), looks := false }, kinds := [], alts := [], laidByText := true, laidKinds := [.data], laidTests := true, laidLooks := .later }
def MatchWrongUptoCardSaid : Prop := Claim7.holds Tryd.pinned (.plain (OpenSpec.upto matchWrongSpec)) matchWrongUptoCard

/-- THE SECOND FORM's CARD OF 'finesselaw20.MatchOrder'. -/
def matchOrderUptoCard : Claim7 := { stood := { row := matchOrderUptoRow, standIns := [], harness := (true, "4730c0772b95275ea09ea363ff2a14b87d68003f77a754f587614aece61dc744"), looks := false }, kinds := [], alts := [], laidByText := true, laidKinds := [.data], laidTests := true, laidLooks := .later }
def MatchOrderUptoCardSaid : Prop := Claim7.holds Tryd.pinned (.plain (OpenSpec.upto matchOrderSpec)) matchOrderUptoCard

/-- THE SECOND FORM's CARD OF 'finesselaw20.MatchPairs'. -/
def matchPairsUptoCard : Claim7 := { stood := { row := matchPairsUptoRow, standIns := [], harness := (true, "4730c0772b95275ea09ea363ff2a14b87d68003f77a754f587614aece61dc744"), looks := false }, kinds := [], alts := [], laidByText := true, laidKinds := [.data], laidTests := true, laidLooks := .later }
def MatchPairsUptoCardSaid : Prop := Claim7.holds Tryd.pinned (.plain (OpenSpec.upto matchPairsSpec)) matchPairsUptoCard

/-- THE SECOND FORM's CARD OF 'finesselaw20.MatchSums'. -/
def matchSumsUptoCard : Claim7 := { stood := { row := matchSumsUptoRow, standIns := [], harness := (true, "4730c0772b95275ea09ea363ff2a14b87d68003f77a754f587614aece61dc744"), looks := false }, kinds := [], alts := [], laidByText := true, laidKinds := [.data], laidTests := true, laidLooks := .later }
def MatchSumsUptoCardSaid : Prop := Claim7.holds Tryd.pinned (.plain (OpenSpec.upto matchSumsSpec)) matchSumsUptoCard
end Rows
end Go.Proofs.YteemknjnlocgpaaDoor
