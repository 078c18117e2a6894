/-
  DERIVED. GIVEN WITH THE SEED: THE CARDS: each row of YtilekdjjfdehcaaDoorRows.lean that lists a variable, with what it lists TIED to the program's text (the seventh form; the later family's looks); each row that meets fmt, with fmt's text TOLD by the authors' own Lean function (tested against real Go, not proved from fmt's source: count such statements apart). THE CARD IS WHAT COUNTS. Prove the row's statement (the work); the ties are given (YtilekdjjfdehcaaDoorTie.lean); close each card by the builder's one call (the guide's Derived/Test/ToyasCard.lean, 'card_holds'). Laid BY PROGRAM, IN A SANDBOX (cutbox-door.mjs). By AI agents, Wed Nov 11 2026. No macro, syntax, notation, axiom, sorry.
-/
import Derived.Test.YtilekdjjfdehcaaDoorRows
import GoSem.ClaimSeven
namespace Go.Proofs.YtilekdjjfdehcaaDoor
namespace Rows

/-- THE TIED CARD OF 'finesselaw18.ParTurned'. -/
def parTurnedCard : Claim7 := { stood := { row := parTurnedRow, standIns := [], harness := (true, "870c83798a0219e72aaf64fec37279ad594c42029affdd09086a1cce8cff36a5"), looks := false }, kinds := [], alts := [], laidByText := true, laidKinds := [.data, .data, .data, .data], laidTests := true, laidLooks := .later }
def ParTurnedCardSaid : Prop := Claim7.holds Tryd.pinned (.plain (OpenSpec.ofChange parTurnedSpec)) parTurnedCard

/-- THE TIED CARD OF 'finesselaw18.ParMore'. -/
def parMoreCard : Claim7 := { stood := { row := parMoreRow, standIns := [], harness := (true, "870c83798a0219e72aaf64fec37279ad594c42029affdd09086a1cce8cff36a5"), looks := false }, kinds := [], alts := [], laidByText := true, laidKinds := [.data, .data, .data, .data], laidTests := true, laidLooks := .later }
def ParMoreCardSaid : Prop := Claim7.holds Tryd.pinned (.plain (OpenSpec.ofChange parMoreSpec)) parMoreCard

/-- THE TIED CARD OF 'finesselaw18.ParNone'. -/
def parNoneCard : Claim7 := { stood := { row := parNoneRow, standIns := [], harness := (true, "870c83798a0219e72aaf64fec37279ad594c42029affdd09086a1cce8cff36a5"), looks := false }, kinds := [], alts := [], laidByText := true, laidKinds := [.data, .data, .data, .data], laidTests := true, laidLooks := .later }
def ParNoneCardSaid : Prop := Claim7.holds Tryd.pinned (.plain (OpenSpec.ofChange parNoneSpec)) parNoneCard

/-- THE TIED CARD OF 'finesselaw18.ParTells'. -/
def parTellsCard : Claim7 := { stood := { row := parTellsRow, standIns := [], harness := (true, "870c83798a0219e72aaf64fec37279ad594c42029affdd09086a1cce8cff36a5"), looks := false }, kinds := [], alts := [], laidByText := true, laidKinds := [.data, .data, .data, .data], laidTests := true, laidLooks := .later }
def ParTellsCardSaid : Prop := Claim7.holds Tryd.pinned (.plain (OpenSpec.ofChange parTellsSpec)) parTellsCard

/-- THE TIED CARD OF 'finesselaw18.ParSmall'. -/
def parSmallCard : Claim7 := { stood := { row := parSmallRow, standIns := [], harness := (true, "870c83798a0219e72aaf64fec37279ad594c42029affdd09086a1cce8cff36a5"), looks := false }, kinds := [], alts := [], laidByText := true, laidKinds := [.data, .data, .data, .data], laidTests := true, laidLooks := .later }
def ParSmallCardSaid : Prop := Claim7.holds Tryd.pinned (.plain (OpenSpec.ofChange parSmallSpec)) parSmallCard

/-- THE TIED CARD OF 'finesselaw18.ParStable'. -/
def parStableCard : Claim7 := { stood := { row := parStableRow, standIns := [], harness := (true, "870c83798a0219e72aaf64fec37279ad594c42029affdd09086a1cce8cff36a5"), looks := false }, kinds := [], alts := [], laidByText := true, laidKinds := [.data, .data, .data, .data], laidTests := true, laidLooks := .later }
def ParStableCardSaid : Prop := Claim7.holds Tryd.pinned (.plain (OpenSpec.ofChange parStableSpec)) parStableCard

/-- THE TIED CARD OF 'finesselaw18.ParFinal'. -/
def parFinalCard : Claim7 := { stood := { row := parFinalRow, standIns := [], harness := (true, "870c83798a0219e72aaf64fec37279ad594c42029affdd09086a1cce8cff36a5"), looks := false }, kinds := [], alts := [], laidByText := true, laidKinds := [.data, .data, .data, .data], laidTests := true, laidLooks := .later }
def ParFinalCardSaid : Prop := Claim7.holds Tryd.pinned (.plain (OpenSpec.ofChange parFinalSpec)) parFinalCard

/-- THE TIED CARD OF 'finesselaw18.ParWrong'. -/
def parWrongCard : Claim7 := { stood := { row := parWrongRow, standIns := [], harness := (true, "870c83798a0219e72aaf64fec37279ad594c42029affdd09086a1cce8cff36a5"), looks := false }, kinds := [], alts := [], laidByText := true, laidKinds := [.data, .data, .data, .data], laidTests := true, laidLooks := .later }
def ParWrongCardSaid : Prop := Claim7.holds Tryd.pinned (.plain (OpenSpec.ofChange parWrongSpec)) parWrongCard

/-- THE SECOND FORM's CARD OF 'finesselaw18.ParTurned'. -/
def parTurnedUptoCard : Claim7 := { stood := { row := parTurnedUptoRow, standIns := [], harness := (true, "870c83798a0219e72aaf64fec37279ad594c42029affdd09086a1cce8cff36a5"), looks := false }, kinds := [], alts := [], laidByText := true, laidKinds := [.data, .data, .data, .data], laidTests := true, laidLooks := .later }
def ParTurnedUptoCardSaid : Prop := Claim7.holds Tryd.pinned (.plain (OpenSpec.upto parTurnedSpec)) parTurnedUptoCard

/-- THE SECOND FORM's CARD OF 'finesselaw18.ParMore'. -/
def parMoreUptoCard : Claim7 := { stood := { row := parMoreUptoRow, standIns := [], harness := (true, "870c83798a0219e72aaf64fec37279ad594c42029affdd09086a1cce8cff36a5"), looks := false }, kinds := [], alts := [], laidByText := true, laidKinds := [.data, .data, .data, .data], laidTests := true, laidLooks := .later }
def ParMoreUptoCardSaid : Prop := Claim7.holds Tryd.pinned (.plain (OpenSpec.upto parMoreSpec)) parMoreUptoCard

/-- THE SECOND FORM's CARD OF 'finesselaw18.ParNone'. -/
def parNoneUptoCard : Claim7 := { stood := { row := parNoneUptoRow, standIns := [], harness := (true, "870c83798a0219e72aaf64fec37279ad594c42029affdd09086a1cce8cff36a5"), looks := false }, kinds := [], alts := [], laidByText := true, laidKinds := [.data, .data, .data, .data], laidTests := true, laidLooks := .later }
def ParNoneUptoCardSaid : Prop := Claim7.holds Tryd.pinned (.plain (OpenSpec.upto parNoneSpec)) parNoneUptoCard

/-- THE SECOND FORM's CARD OF 'finesselaw18.ParTells'. -/
def parTellsUptoCard : Claim7 := { stood := { row := parTellsUptoRow, standIns := [], harness := (true, "870c83798a0219e72aaf64fec37279ad594c42029affdd09086a1cce8cff36a5"), looks := false }, kinds := [], alts := [], laidByText := true, laidKinds := [.data, .data, .data, .data], laidTests := true, laidLooks := .later }
def ParTellsUptoCardSaid : Prop := Claim7.holds Tryd.pinned (.plain (OpenSpec.upto parTellsSpec)) parTellsUptoCard

/-- THE SECOND FORM's CARD OF 'finesselaw18.ParSmall'. -/
def parSmallUptoCard : Claim7 := { stood := { row := parSmallUptoRow, standIns := [], harness := (true, "870c83798a0219e72aaf64fec37279ad594c42029affdd09086a1cce8cff36a5"), looks := false }, kinds := [], alts := [], laidByText := true, laidKinds := [.data, .data, .data, .data], laidTests := true, laidLooks := .later }
def ParSmallUptoCardSaid : Prop := Claim7.holds Tryd.pinned (.plain (OpenSpec.upto parSmallSpec)) parSmallUptoCard

/-- THE SECOND FORM's CARD OF 'finesselaw18.ParStable'. -/
def parStableUptoCard : Claim7 := { stood := { row := parStableUptoRow, standIns := [], harness := (true, "870c83798a0219e72aaf64fec37279ad594c42029affdd09086a1cce8cff36a5"), looks := false }, kinds := [], alts := [], laidByText := true, laidKinds := [.data, .data, .data, .data], laidTests := true, laidLooks := .later }
def ParStableUptoCardSaid : Prop := Claim7.holds Tryd.pinned (.plain (OpenSpec.upto parStableSpec)) parStableUptoCard

/-- THE SECOND FORM's CARD OF 'finesselaw18.ParFinal'. -/
def parFinalUptoCard : Claim7 := { stood := { row := parFinalUptoRow, standIns := [], harness := (true, "870c83798a0219e72aaf64fec37279ad594c42029affdd09086a1cce8cff36a5"), looks := false }, kinds := [], alts := [], laidByText := true, laidKinds := [.data, .data, .data, .data], laidTests := true, laidLooks := .later }
def ParFinalUptoCardSaid : Prop := Claim7.holds Tryd.pinned (.plain (OpenSpec.upto parFinalSpec)) parFinalUptoCard

/-- THE SECOND FORM's CARD OF 'finesselaw18.ParWrong'. -/
def parWrongUptoCard : Claim7 := { stood := { row := parWrongUptoRow, standIns := [], harness := (true, "870c83798a0219e72aaf64fec37279ad594c42029affdd09086a1cce8cff36a5"), looks := false }, kinds := [], alts := [], laidByText := true, laidKinds := [.data, .data, .data, .data], laidTests := true, laidLooks := .later }
def ParWrongUptoCardSaid : Prop := Claim7.holds Tryd.pinned (.plain (OpenSpec.upto parWrongSpec)) parWrongUptoCard
end Rows
end Go.Proofs.YtilekdjjfdehcaaDoor
