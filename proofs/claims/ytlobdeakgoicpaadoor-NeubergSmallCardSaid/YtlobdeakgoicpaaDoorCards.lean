/-
  DERIVED. GIVEN WITH THE SEED: THE CARDS: each row of YtlobdeakgoicpaaDoorRows.lean that lists a variable, with what it lists TIED to the program's text (the seventh form; the later family's looks); each row that meets fmt, with fmt's text TOLD by the authors' own Lean function (tested against real Go, not proved from fmt's source: count such statements apart). THE CARD IS WHAT COUNTS. Prove the row's statement (the work); the ties are given (YtlobdeakgoicpaaDoorTie.lean); close each card by the builder's one call (the guide's Derived/Test/ToyasCard.lean, 'card_holds'). Laid BY PROGRAM, IN A SANDBOX (cutbox-door.mjs). By AI agents, Wed Nov 11 2026. No macro, syntax, notation, axiom, sorry.
-/
import Derived.Test.YtlobdeakgoicpaaDoorRows
import GoSem.ClaimSeven
namespace Go.Proofs.YtlobdeakgoicpaaDoor
namespace Rows

/-- THE TIED CARD OF 'finesselaw21.NeubergTells'. -/
def neubergTellsCard : Claim7 := { stood := { row := neubergTellsRow, standIns := [], harness := (true, "cde218a6f6f04c21613c4272b47daef18a936b77419d4640e32262032b460050"), looks := false }, kinds := [], alts := [], laidByText := true, laidKinds := [.data], laidTests := true, laidLooks := .later }
def NeubergTellsCardSaid : Prop := Claim7.holds Tryd.pinned (.plain (OpenSpec.ofChange neubergTellsSpec)) neubergTellsCard

/-- THE TIED CARD OF 'finesselaw21.NeubergFields'. -/
def neubergFieldsCard : Claim7 := { stood := { row := neubergFieldsRow, standIns := [], harness := (true, "cde218a6f6f04c21613c4272b47daef18a936b77419d4640e32262032b460050"), looks := false }, kinds := [], alts := [], laidByText := true, laidKinds := [.data], laidTests := true, laidLooks := .later }
def NeubergFieldsCardSaid : Prop := Claim7.holds Tryd.pinned (.plain (OpenSpec.ofChange neubergFieldsSpec)) neubergFieldsCard

/-- THE TIED CARD OF 'finesselaw21.NeubergSmall'. -/
def neubergSmallCard : Claim7 := { stood := { row := neubergSmallRow, standIns := [], harness := (true, "cde218a6f6f04c21613c4272b47daef18a936b77419d4640e32262032b460050"), looks := false }, kinds := [], alts := [], laidByText := true, laidKinds := [.data], laidTests := true, laidLooks := .later }
def NeubergSmallCardSaid : Prop := Claim7.holds Tryd.pinned (.plain (OpenSpec.ofChange neubergSmallSpec)) neubergSmallCard

/-- THE TIED CARD OF 'finesselaw21.NeubergShares'. -/
def neubergSharesCard : Claim7 := { stood := { row := neubergSharesRow, standIns := [], harness := (true, "cde218a6f6f04c21613c4272b47daef18a936b77419d4640e32262032b460050"), looks := false }, kinds := [], alts := [], laidByText := true, laidKinds := [.data], laidTests := true, laidLooks := .later }
def NeubergSharesCardSaid : Prop := Claim7.holds Tryd.pinned (.plain (OpenSpec.ofChange neubergSharesSpec)) neubergSharesCard

/-- THE TIED CARD OF 'finesselaw21.NeubergWrong'. -/
def neubergWrongCard : Claim7 := { stood := { row := neubergWrongRow, standIns := [], harness := (true, "cde218a6f6f04c21613c4272b47daef18a936b77419d4640e32262032b460050"), looks := false }, kinds := [], alts := [], laidByText := true, laidKinds := [.data], laidTests := true, laidLooks := .later }
def NeubergWrongCardSaid : Prop := Claim7.holds Tryd.pinned (.plain (OpenSpec.ofChange neubergWrongSpec)) neubergWrongCard

/-- THE TIED CARD OF 'finesselaw21.NeubergFull'. -/
def neubergFullCard : Claim7 := { stood := { row := neubergFullRow, standIns := [], harness := (true, "cde218a6f6f04c21613c4272b47daef18a936b77419d4640e32262032b460050"), looks := false }, kinds := [], alts := [], laidByText := true, laidKinds := [.data], laidTests := true, laidLooks := .later }
def NeubergFullCardSaid : Prop := Claim7.holds Tryd.pinned (.plain (OpenSpec.ofChange neubergFullSpec)) neubergFullCard

/-- THE TIED CARD OF 'finesselaw21.NeubergDivided'. -/
def neubergDividedCard : Claim7 := { stood := { row := neubergDividedRow, standIns := [], harness := (true, "cde218a6f6f04c21613c4272b47daef18a936b77419d4640e32262032b460050"), looks := false }, kinds := [], alts := [], laidByText := true, laidKinds := [.data], laidTests := true, laidLooks := .later }
def NeubergDividedCardSaid : Prop := Claim7.holds Tryd.pinned (.plain (OpenSpec.ofChange neubergDividedSpec)) neubergDividedCard

/-- THE TIED CARD OF 'finesselaw21.NeubergSums'. -/
def neubergSumsCard : Claim7 := { stood := { row := neubergSumsRow, standIns := [], harness := (true, "cde218a6f6f04c21613c4272b47daef18a936b77419d4640e32262032b460050"), looks := false }, kinds := [], alts := [], laidByText := true, laidKinds := [.data], laidTests := true, laidLooks := .later }
def NeubergSumsCardSaid : Prop := Claim7.holds Tryd.pinned (.plain (OpenSpec.ofChange neubergSumsSpec)) neubergSumsCard

/-- THE SECOND FORM's CARD OF 'finesselaw21.NeubergTells'. -/
def neubergTellsUptoCard : Claim7 := { stood := { row := neubergTellsUptoRow, standIns := [], harness := (true, "cde218a6f6f04c21613c4272b47daef18a936b77419d4640e32262032b460050"), looks := false }, kinds := [], alts := [], laidByText := true, laidKinds := [.data], laidTests := true, laidLooks := .later }
def NeubergTellsUptoCardSaid : Prop := Claim7.holds Tryd.pinned (.plain (OpenSpec.upto neubergTellsSpec)) neubergTellsUptoCard

/-- THE SECOND FORM's CARD OF 'finesselaw21.NeubergFields'. -/
def neubergFieldsUptoCard : Claim7 := { stood := { row := neubergFieldsUptoRow, standIns := [], harness := (true, "cde218a6f6f04c21613c4272b47daef18a936b77419d4640e32262032b460050"), looks := false }, kinds := [], alts := [], laidByText := true, laidKinds := [.data], laidTests := true, laidLooks := .later }
def NeubergFieldsUptoCardSaid : Prop := Claim7.holds Tryd.pinned (.plain (OpenSpec.upto neubergFieldsSpec)) neubergFieldsUptoCard

/-- THE SECOND FORM's CARD OF 'finesselaw21.NeubergSmall'. -/
def neubergSmallUptoCard : Claim7 := { stood := { row := neubergSmallUptoRow, standIns := [], harness := (true, "cde218a6f6f04c21613c4272b47daef18a936b77419d4640e32262032b460050"), looks := false }, kinds := [], alts := [], laidByText := true, laidKinds := [.data], laidTests := true, laidLooks := .later }
def NeubergSmallUptoCardSaid : Prop := Claim7.holds Tryd.pinned (.plain (OpenSpec.upto neubergSmallSpec)) neubergSmallUptoCard

/-- THE SECOND FORM's CARD OF 'finesselaw21.NeubergShares'. -/
def neubergSharesUptoCard : Claim7 := { stood := { row := neubergSharesUptoRow, standIns := [], harness := (true, "cde218a6f6f04c21613c4272b47daef18a936b77419d4640e32262032b460050"), looks := false }, kinds := [], alts := [], laidByText := true, laidKinds := [.data], laidTests := true, laidLooks := .later }
def NeubergSharesUptoCardSaid : Prop := Claim7.holds Tryd.pinned (.plain (OpenSpec.upto neubergSharesSpec)) neubergSharesUptoCard

/-- THE SECOND FORM's CARD OF 'finesselaw21.NeubergWrong'. -/
def neubergWrongUptoCard : Claim7 := { stood := { row := neubergWrongUptoRow, standIns := [], harness := (true, "cde218a6f6f04c21613c4272b47daef18a936b77419d4640e32262032b460050"), looks := false }, kinds := [], alts := [], laidByText := true, laidKinds := [.data], laidTests := true, laidLooks := .later }
def NeubergWrongUptoCardSaid : Prop := Claim7.holds Tryd.pinned (.plain (OpenSpec.upto neubergWrongSpec)) neubergWrongUptoCard

/-- THE SECOND FORM's CARD OF 'finesselaw21.NeubergFull'. -/
def neubergFullUptoCard : Claim7 := { stood := { row := neubergFullUptoRow, standIns := [], harness := (true, "cde218a6f6f04c21613c4272b47daef18a936b77419d4640e32262032b460050"), looks := false }, kinds := [], alts := [], laidByText := true, laidKinds := [.data], laidTests := true, laidLooks := .later }
def NeubergFullUptoCardSaid : Prop := Claim7.holds Tryd.pinned (.plain (OpenSpec.upto neubergFullSpec)) neubergFullUptoCard

/-- THE SECOND FORM's CARD OF 'finesselaw21.NeubergDivided'. -/
def neubergDividedUptoCard : Claim7 := { stood := { row := neubergDividedUptoRow, standIns := [], harness := (true, "cde218a6f6f04c21613c4272b47daef18a936b77419d4640e32262032b460050"), looks := false }, kinds := [], alts := [], laidByText := true, laidKinds := [.data], laidTests := true, laidLooks := .later }
def NeubergDividedUptoCardSaid : Prop := Claim7.holds Tryd.pinned (.plain (OpenSpec.upto neubergDividedSpec)) neubergDividedUptoCard

/-- THE SECOND FORM's CARD OF 'finesselaw21.NeubergSums'. -/
def neubergSumsUptoCard : Claim7 := { stood := { row := neubergSumsUptoRow, standIns := [], harness := (true, "cde218a6f6f04c21613c4272b47daef18a936b77419d4640e32262032b460050"), looks := false }, kinds := [], alts := [], laidByText := true, laidKinds := [.data], laidTests := true, laidLooks := .later }
def NeubergSumsUptoCardSaid : Prop := Claim7.holds Tryd.pinned (.plain (OpenSpec.upto neubergSumsSpec)) neubergSumsUptoCard
end Rows
end Go.Proofs.YtlobdeakgoicpaaDoor
