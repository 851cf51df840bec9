/-
  DERIVED. GIVEN WITH THE SEED: THE CARDS: each row of YtfkckhliffbcjaaGreatDoorRows.lean that lists a variable, with what it lists TIED to the program's text (the seventh form; the later family's looks); each row that meets fmt, with fmt's text TOLD by the authors' own Lean function (tested against real Go, not proved from fmt's source: count such statements apart). THE CARD IS WHAT COUNTS. Prove the row's statement (the work); the ties are given (YtfkckhliffbcjaaGreatDoorTie.lean); close each card by the builder's one call (the guide's Derived/Test/ToyasCard.lean, 'card_holds'). Laid BY PROGRAM, IN A SANDBOX (cutbox-door.mjs). By AI agents, Wed Nov 11 2026. No macro, syntax, notation, axiom, sorry.
-/
import Derived.Test.YtfkckhliffbcjaaGreatDoorRows
import GoSem.ClaimSeven
namespace Go.Proofs.YtfkckhliffbcjaaGreatDoor
namespace Rows

/-- THE TIED CARD OF 'missivelaw34.MeasGauges'. -/
def measGaugesCard : Claim7 := { stood := { row := measGaugesRow, standIns := [], harness := (true, "4d31867547d4b39fbb6478eacb1ab19289dca0f136f2f868899fdc8b3e526231"), looks := true }, kinds := [], alts := [], laidByText := true, laidKinds := [.data, .data, .data], laidTests := true, laidLooks := .later }
def MeasGaugesCardSaid : Prop := Claim7.holds Tryz.pinned (.plain (OpenSpec.ofChange measGaugesSpec)) measGaugesCard

/-- THE TIED CARD OF 'missivelaw34.MeasItems'. -/
def measItemsCard : Claim7 := { stood := { row := measItemsRow, standIns := [], harness := (true, "4d31867547d4b39fbb6478eacb1ab19289dca0f136f2f868899fdc8b3e526231"), looks := true }, kinds := [], alts := [], laidByText := true, laidKinds := [.data, .data, .data], laidTests := true, laidLooks := .later }
def MeasItemsCardSaid : Prop := Claim7.holds Tryz.pinned (.plain (OpenSpec.ofChange measItemsSpec)) measItemsCard

/-- THE TIED CARD OF 'missivelaw34.MeasTogether'. -/
def measTogetherCard : Claim7 := { stood := { row := measTogetherRow, standIns := [], harness := (true, "4d31867547d4b39fbb6478eacb1ab19289dca0f136f2f868899fdc8b3e526231"), looks := true }, kinds := [], alts := [], laidByText := true, laidKinds := [.data, .data, .data], laidTests := true, laidLooks := .later }
def MeasTogetherCardSaid : Prop := Claim7.holds Tryz.pinned (.plain (OpenSpec.ofChange measTogetherSpec)) measTogetherCard

/-- THE TIED CARD OF 'missivelaw12.MailParts'. -/
def mailPartsCard : Claim7 := { stood := { row := mailPartsRow, standIns := [], harness := (true, "4d31867547d4b39fbb6478eacb1ab19289dca0f136f2f868899fdc8b3e526231"), looks := true }, kinds := [], alts := [], laidByText := true, laidKinds := [.data, .data, .data, .data, .sentinel, .sentinel, .data, .pinned], laidTests := true, laidLooks := .later }
def MailPartsCardSaid : Prop := Claim7.holds Tryz.pinned (.plain (OpenSpec.ofChange mailPartsSpec)) mailPartsCard

/-- THE TIED CARD OF 'missivelaw12.MailWider'. -/
def mailWiderCard : Claim7 := { stood := { row := mailWiderRow, standIns := [], harness := (true, "4d31867547d4b39fbb6478eacb1ab19289dca0f136f2f868899fdc8b3e526231"), looks := true }, kinds := [], alts := [], laidByText := true, laidKinds := [.data, .data, .data, .data, .sentinel, .sentinel, .data, .pinned], laidTests := true, laidLooks := .later }
def MailWiderCardSaid : Prop := Claim7.holds Tryz.pinned (.plain (OpenSpec.ofChange mailWiderSpec)) mailWiderCard

/-- THE SECOND FORM's CARD OF 'missivelaw34.MeasGauges'. -/
def measGaugesUptoCard : Claim7 := { stood := { row := measGaugesUptoRow, standIns := [], harness := (true, "4d31867547d4b39fbb6478eacb1ab19289dca0f136f2f868899fdc8b3e526231"), looks := true }, kinds := [], alts := [], laidByText := true, laidKinds := [.data, .data, .data], laidTests := true, laidLooks := .later }
def MeasGaugesUptoCardSaid : Prop := Claim7.holds Tryz.pinned (.plain (OpenSpec.upto measGaugesSpec)) measGaugesUptoCard

/-- THE SECOND FORM's CARD OF 'missivelaw34.MeasItems'. -/
def measItemsUptoCard : Claim7 := { stood := { row := measItemsUptoRow, standIns := [], harness := (true, "4d31867547d4b39fbb6478eacb1ab19289dca0f136f2f868899fdc8b3e526231"), looks := true }, kinds := [], alts := [], laidByText := true, laidKinds := [.data, .data, .data], laidTests := true, laidLooks := .later }
def MeasItemsUptoCardSaid : Prop := Claim7.holds Tryz.pinned (.plain (OpenSpec.upto measItemsSpec)) measItemsUptoCard

/-- THE SECOND FORM's CARD OF 'missivelaw34.MeasTogether'. -/
def measTogetherUptoCard : Claim7 := { stood := { row := measTogetherUptoRow, standIns := [], harness := (true, "4d31867547d4b39fbb6478eacb1ab19289dca0f136f2f868899fdc8b3e526231"), looks := true }, kinds := [], alts := [], laidByText := true, laidKinds := [.data, .data, .data], laidTests := true, laidLooks := .later }
def MeasTogetherUptoCardSaid : Prop := Claim7.holds Tryz.pinned (.plain (OpenSpec.upto measTogetherSpec)) measTogetherUptoCard

/-- THE SECOND FORM's CARD OF 'missivelaw12.MailParts'. -/
def mailPartsUptoCard : Claim7 := { stood := { row := mailPartsUptoRow, standIns := [], harness := (true, "4d31867547d4b39fbb6478eacb1ab19289dca0f136f2f868899fdc8b3e526231"), looks := true }, kinds := [], alts := [], laidByText := true, laidKinds := [.data, .data, .data, .data, .sentinel, .sentinel, .data, .pinned], laidTests := true, laidLooks := .later }
def MailPartsUptoCardSaid : Prop := Claim7.holds Tryz.pinned (.plain (OpenSpec.upto mailPartsSpec)) mailPartsUptoCard

/-- THE SECOND FORM's CARD OF 'missivelaw12.MailWider'. -/
def mailWiderUptoCard : Claim7 := { stood := { row := mailWiderUptoRow, standIns := [], harness := (true, "4d31867547d4b39fbb6478eacb1ab19289dca0f136f2f868899fdc8b3e526231"), looks := true }, kinds := [], alts := [], laidByText := true, laidKinds := [.data, .data, .data, .data, .sentinel, .sentinel, .data, .pinned], laidTests := true, laidLooks := .later }
def MailWiderUptoCardSaid : Prop := Claim7.holds Tryz.pinned (.plain (OpenSpec.upto mailWiderSpec)) mailWiderUptoCard
end Rows
end Go.Proofs.YtfkckhliffbcjaaGreatDoor
