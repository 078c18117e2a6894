/-
  DERIVED. GIVEN WITH THE SEED: THE CARDS: each row of YtchklobblkddhaaDoorRows.lean that lists a variable, with what it lists TIED to the program's text (the seventh form; the later family's looks); each row that meets fmt, with fmt's text TOLD by the authors' own Lean function (tested against real Go, not proved from fmt's source: count such statements apart). THE CARD IS WHAT COUNTS. Prove the row's statement (the work); the ties are given (YtchklobblkddhaaDoorTie.lean); close each card by the builder's one call (the guide's Derived/Test/ToyasCard.lean, 'card_holds'). Laid BY PROGRAM, IN A SANDBOX (cutbox-door.mjs). By AI agents, Wed Nov 11 2026. No macro, syntax, notation, axiom, sorry.
-/
import Derived.Test.YtchklobblkddhaaDoorRows
import GoSem.ClaimSeven
namespace Go.Proofs.YtchklobblkddhaaDoor
namespace Rows

/-- THE TIED CARD OF 'finesselaw23.FoulWrong'. -/
def foulWrongCard : Claim7 := { stood := { row := foulWrongRow, standIns := [], harness := (true, "77008f539801017a5c9e7864a45d0e3446a8f766f911b5d67a6117c58f981f10"), looks := false }, kinds := [], alts := [], laidByText := true, laidKinds := [.data, .data, .data, .data, .data], laidTests := true, laidLooks := .later }
def FoulWrongCardSaid : Prop := Claim7.holds Tryd.pinned (.plain (OpenSpec.ofChange foulWrongSpec)) foulWrongCard

/-- THE TIED CARD OF 'finesselaw23.FoulSums'. -/
def foulSumsCard : Claim7 := { stood := { row := foulSumsRow, standIns := [], harness := (true, "77008f539801017a5c9e7864a45d0e3446a8f766f911b5d67a6117c58f981f10"), looks := false }, kinds := [], alts := [], laidByText := true, laidKinds := [.data, .data, .data, .data, .data], laidTests := true, laidLooks := .later }
def FoulSumsCardSaid : Prop := Claim7.holds Tryd.pinned (.plain (OpenSpec.ofChange foulSumsSpec)) foulSumsCard

/-- THE TIED CARD OF 'finesselaw23.FoulOrder'. -/
def foulOrderCard : Claim7 := { stood := { row := foulOrderRow, standIns := [], harness := (true, "77008f539801017a5c9e7864a45d0e3446a8f766f911b5d67a6117c58f981f10"), looks := false }, kinds := [], alts := [], laidByText := true, laidKinds := [.data, .data, .data, .data, .data], laidTests := true, laidLooks := .later }
def FoulOrderCardSaid : Prop := Claim7.holds Tryd.pinned (.plain (OpenSpec.ofChange foulOrderSpec)) foulOrderCard

/-- THE TIED CARD OF 'finesselaw23.FoulClean'. -/
def foulCleanCard : Claim7 := { stood := { row := foulCleanRow, standIns := [], harness := (true, "77008f539801017a5c9e7864a45d0e3446a8f766f911b5d67a6117c58f981f10"), looks := false }, kinds := [], alts := [], laidByText := true, laidKinds := [.data, .data, .data, .data, .data], laidTests := true, laidLooks := .later }
def FoulCleanCardSaid : Prop := Claim7.holds Tryd.pinned (.plain (OpenSpec.ofChange foulCleanSpec)) foulCleanCard

/-- THE TIED CARD OF 'finesselaw23.FoulApart'. -/
def foulApartCard : Claim7 := { stood := { row := foulApartRow, standIns := [], harness := (true, "77008f539801017a5c9e7864a45d0e3446a8f766f911b5d67a6117c58f981f10"), looks := false }, kinds := [], alts := [], laidByText := true, laidKinds := [.data, .data, .data, .data, .data], laidTests := true, laidLooks := .later }
def FoulApartCardSaid : Prop := Claim7.holds Tryd.pinned (.plain (OpenSpec.ofChange foulApartSpec)) foulApartCard

/-- THE SECOND FORM's CARD OF 'finesselaw23.FoulWrong'. -/
def foulWrongUptoCard : Claim7 := { stood := { row := foulWrongUptoRow, standIns := [], harness := (true, "77008f539801017a5c9e7864a45d0e3446a8f766f911b5d67a6117c58f981f10"), looks := false }, kinds := [], alts := [], laidByText := true, laidKinds := [.data, .data, .data, .data, .data], laidTests := true, laidLooks := .later }
def FoulWrongUptoCardSaid : Prop := Claim7.holds Tryd.pinned (.plain (OpenSpec.upto foulWrongSpec)) foulWrongUptoCard

/-- THE SECOND FORM's CARD OF 'finesselaw23.FoulSums'. -/
def foulSumsUptoCard : Claim7 := { stood := { row := foulSumsUptoRow, standIns := [], harness := (true, "77008f539801017a5c9e7864a45d0e3446a8f766f911b5d67a6117c58f981f10"), looks := false }, kinds := [], alts := [], laidByText := true, laidKinds := [.data, .data, .data, .data, .data], laidTests := true, laidLooks := .later }
def FoulSumsUptoCardSaid : Prop := Claim7.holds Tryd.pinned (.plain (OpenSpec.upto foulSumsSpec)) foulSumsUptoCard

/-- THE SECOND FORM's CARD OF 'finesselaw23.FoulOrder'. -/
def foulOrderUptoCard : Claim7 := { stood := { row := foulOrderUptoRow, standIns := [], harness := (true, "77008f539801017a5c9e7864a45d0e3446a8f766f911b5d67a6117c58f981f10"), looks := false }, kinds := [], alts := [], laidByText := true, laidKinds := [.data, .data, .data, .data, .data], laidTests := true, laidLooks := .later }
def FoulOrderUptoCardSaid : Prop := Claim7.holds Tryd.pinned (.plain (OpenSpec.upto foulOrderSpec)) foulOrderUptoCard

/-- THE SECOND FORM's CARD OF 'finesselaw23.FoulClean'. -/
def foulCleanUptoCard : Claim7 := { stood := { row := foulCleanUptoRow, standIns := [], harness := (true, "77008f539801017a5c9e7864a45d0e3446a8f766f911b5d67a6117c58f981f10"), looks := false }, kinds := [], alts := [], laidByText := true, laidKinds := [.data, .data, .data, .data, .data], laidTests := true, laidLooks := .later }
def FoulCleanUptoCardSaid : Prop := Claim7.holds Tryd.pinned (.plain (OpenSpec.upto foulCleanSpec)) foulCleanUptoCard

/-- THE SECOND FORM's CARD OF 'finesselaw23.FoulApart'. -/
def foulApartUptoCard : Claim7 := { stood := { row := foulApartUptoRow, standIns := [], harness := (true, "77008f539801017a5c9e7864a45d0e3446a8f766f911b5d67a6117c58f981f10"), looks := false }, kinds := [], alts := [], laidByText := true, laidKinds := [.data, .data, .data, .data, .data], laidTests := true, laidLooks := .later }
def FoulApartUptoCardSaid : Prop := Claim7.holds Tryd.pinned (.plain (OpenSpec.upto foulApartSpec)) foulApartUptoCard
end Rows
end Go.Proofs.YtchklobblkddhaaDoor
