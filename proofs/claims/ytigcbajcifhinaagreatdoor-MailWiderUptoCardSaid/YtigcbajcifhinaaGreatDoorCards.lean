/-
  DERIVED. GIVEN WITH THE SEED: THE CARDS: each row of YtigcbajcifhinaaGreatDoorRows.lean that lists a variable, with what it lists TIED to the program's text (the seventh form; the later family's looks); each row that meets fmt, with fmt's text TOLD by the authors' own Lean function (tested against real Go, not proved from fmt's source: count such statements apart). THE CARD IS WHAT COUNTS. Prove the row's statement (the work); the ties are given (YtigcbajcifhinaaGreatDoorTie.lean); close each card by the builder's one call (the guide's Derived/Test/ToyasCard.lean, 'card_holds'). Laid BY PROGRAM, IN A SANDBOX (cutbox-door.mjs). By AI agents, Wed Nov 11 2026. No macro, syntax, notation, axiom, sorry.
-/
import Derived.Test.YtigcbajcifhinaaGreatDoorRows
import GoSem.ClaimSeven
namespace Go.Proofs.YtigcbajcifhinaaGreatDoor
namespace Rows

/-- THE TIED CARD OF 'missivelaw12.MailParts'. -/
def mailPartsCard : Claim7 := { stood := { row := mailPartsRow, standIns := [], harness := (true, "0d06adb741dee42ba8e285b3ca3652772a73fe3e3b1c044744294d72ef949007"), looks := true }, kinds := [], alts := [], laidByText := true, laidKinds := [.data, .data, .data, .data, .sentinel, .sentinel, .data, .pinned], laidTests := true, laidLooks := .later }
def MailPartsCardSaid : Prop := Claim7.holds Tryz.pinned (.plain (OpenSpec.ofChange mailPartsSpec)) mailPartsCard

/-- THE TIED CARD OF 'missivelaw12.MailWider'. -/
def mailWiderCard : Claim7 := { stood := { row := mailWiderRow, standIns := [], harness := (true, "0d06adb741dee42ba8e285b3ca3652772a73fe3e3b1c044744294d72ef949007"), looks := true }, kinds := [], alts := [], laidByText := true, laidKinds := [.data, .data, .data, .data, .sentinel, .sentinel, .data, .pinned], laidTests := true, laidLooks := .later }
def MailWiderCardSaid : Prop := Claim7.holds Tryz.pinned (.plain (OpenSpec.ofChange mailWiderSpec)) mailWiderCard

/-- THE TIED CARD OF 'missivelaw12.MailFolded'. -/
def mailFoldedCard : Claim7 := { stood := { row := mailFoldedRow, standIns := [], harness := (true, "0d06adb741dee42ba8e285b3ca3652772a73fe3e3b1c044744294d72ef949007"), looks := true }, kinds := [], alts := [], laidByText := true, laidKinds := [.data, .data, .data, .data, .sentinel, .sentinel, .data, .pinned], laidTests := true, laidLooks := .later }
def MailFoldedCardSaid : Prop := Claim7.holds Tryz.pinned (.plain (OpenSpec.ofChange mailFoldedSpec)) mailFoldedCard

/-- THE SECOND FORM's CARD OF 'missivelaw12.MailParts'. -/
def mailPartsUptoCard : Claim7 := { stood := { row := mailPartsUptoRow, standIns := [], harness := (true, "0d06adb741dee42ba8e285b3ca3652772a73fe3e3b1c044744294d72ef949007"), looks := true }, kinds := [], alts := [], laidByText := true, laidKinds := [.data, .data, .data, .data, .sentinel, .sentinel, .data, .pinned], laidTests := true, laidLooks := .later }
def MailPartsUptoCardSaid : Prop := Claim7.holds Tryz.pinned (.plain (OpenSpec.upto mailPartsSpec)) mailPartsUptoCard

/-- THE SECOND FORM's CARD OF 'missivelaw12.MailWider'. -/
def mailWiderUptoCard : Claim7 := { stood := { row := mailWiderUptoRow, standIns := [], harness := (true, "0d06adb741dee42ba8e285b3ca3652772a73fe3e3b1c044744294d72ef949007"), looks := true }, kinds := [], alts := [], laidByText := true, laidKinds := [.data, .data, .data, .data, .sentinel, .sentinel, .data, .pinned], laidTests := true, laidLooks := .later }
def MailWiderUptoCardSaid : Prop := Claim7.holds Tryz.pinned (.plain (OpenSpec.upto mailWiderSpec)) mailWiderUptoCard

/-- THE SECOND FORM's CARD OF 'missivelaw12.MailFolded'. -/
def mailFoldedUptoCard : Claim7 := { stood := { row := mailFoldedUptoRow, standIns := [], harness := (true, "0d06adb741dee42ba8e285b3ca3652772a73fe3e3b1c044744294d72ef949007"), looks := true }, kinds := [], alts := [], laidByText := true, laidKinds := [.data, .data, .data, .data, .sentinel, .sentinel, .data, .pinned], laidTests := true, laidLooks := .later }
def MailFoldedUptoCardSaid : Prop := Claim7.holds Tryz.pinned (.plain (OpenSpec.upto mailFoldedSpec)) mailFoldedUptoCard
end Rows
end Go.Proofs.YtigcbajcifhinaaGreatDoor
