/-
  DERIVED. GIVEN WITH THE SEED: THE CARDS: each row of YtchklobblkddhaaGreatDoorRows.lean that lists a variable, with what it lists TIED to the program's text (the seventh form; the later family's looks); each row that meets fmt, with fmt's text TOLD by the authors' own Lean function (tested against real Go, not proved from fmt's source: count such statements apart). THE CARD IS WHAT COUNTS. Prove the row's statement (the work); the ties are given (YtchklobblkddhaaGreatDoorTie.lean); close each card by the builder's one call (the guide's Derived/Test/ToyasCard.lean, 'card_holds'). Laid BY PROGRAM, IN A SANDBOX (cutbox-door.mjs). By AI agents, Wed Nov 11 2026. No macro, syntax, notation, axiom, sorry.
-/
import Derived.Test.YtchklobblkddhaaGreatDoorRows
import GoSem.ClaimSeven
namespace Go.Proofs.YtchklobblkddhaaGreatDoor
namespace Rows

/-- THE TIED CARD OF 'finesselaw23.FoulTells'. -/
def foulTellsCard : Claim7 := { stood := { row := foulTellsRow, standIns := [], harness := (true, "10ac6ba5f2babcd4118b23f9b5fcd6120fbc4e5215dbc44d81727a2d6774115d"), looks := false }, kinds := [], alts := [], laidByText := true, laidKinds := [.data, .data, .data, .data, .data], laidTests := true, laidLooks := .later }
def FoulTellsCardSaid : Prop := Claim7.holds Tryz.pinned (.plain (OpenSpec.ofChange foulTellsSpec)) foulTellsCard

/-- THE SECOND FORM's CARD OF 'finesselaw23.FoulTells'. -/
def foulTellsUptoCard : Claim7 := { stood := { row := foulTellsUptoRow, standIns := [], harness := (true, "10ac6ba5f2babcd4118b23f9b5fcd6120fbc4e5215dbc44d81727a2d6774115d"), looks := false }, kinds := [], alts := [], laidByText := true, laidKinds := [.data, .data, .data, .data, .data], laidTests := true, laidLooks := .later }
def FoulTellsUptoCardSaid : Prop := Claim7.holds Tryz.pinned (.plain (OpenSpec.upto foulTellsSpec)) foulTellsUptoCard
end Rows
end Go.Proofs.YtchklobblkddhaaGreatDoor
