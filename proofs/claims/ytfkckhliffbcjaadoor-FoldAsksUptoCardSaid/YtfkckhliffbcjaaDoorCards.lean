/-
  DERIVED. GIVEN WITH THE SEED: THE CARDS: each row of YtfkckhliffbcjaaDoorRows.lean that lists a variable, with what it lists TIED to the program's text (the seventh form; the later family's looks); each row that meets fmt, with fmt's text TOLD by the authors' own Lean function (tested against real Go, not proved from fmt's source: count such statements apart). THE CARD IS WHAT COUNTS. Prove the row's statement (the work); the ties are given (YtfkckhliffbcjaaDoorTie.lean); close each card by the builder's one call (the guide's Derived/Test/ToyasCard.lean, 'card_holds'). Laid BY PROGRAM, IN A SANDBOX (cutbox-door.mjs). By AI agents, Wed Nov 11 2026. No macro, syntax, notation, axiom, sorry.
-/
import Derived.Test.YtfkckhliffbcjaaDoorRows
import GoSem.ClaimSeven
namespace Go.Proofs.YtfkckhliffbcjaaDoor
namespace Rows

/-- THE TIED CARD OF 'missivelaw07.FoldLetters'. -/
def foldLettersCard : Claim7 := { stood := { row := foldLettersRow, standIns := [], harness := (true, "3d6d814892d3b3d7289ea8b3d70cdd6cdcf19a37e4c8a5c7e48692e63e93e106"), looks := false }, kinds := [], alts := [], laidByText := true, laidKinds := [.data, .pinned], laidTests := true, laidLooks := .later }
def FoldLettersCardSaid : Prop := Claim7.holds Tryd.pinned (.plain (OpenSpec.ofChange foldLettersSpec)) foldLettersCard

/-- THE TIED CARD OF 'missivelaw07.FoldAsks'. -/
def foldAsksCard : Claim7 := { stood := { row := foldAsksRow, standIns := [], harness := (true, "3d6d814892d3b3d7289ea8b3d70cdd6cdcf19a37e4c8a5c7e48692e63e93e106"), looks := false }, kinds := [], alts := [], laidByText := true, laidKinds := [.data, .pinned], laidTests := true, laidLooks := .later }
def FoldAsksCardSaid : Prop := Claim7.holds Tryd.pinned (.plain (OpenSpec.ofChange foldAsksSpec)) foldAsksCard

/-- THE TIED CARD OF 'missivelaw07.FoldOnce'. -/
def foldOnceCard : Claim7 := { stood := { row := foldOnceRow, standIns := [], harness := (true, "3d6d814892d3b3d7289ea8b3d70cdd6cdcf19a37e4c8a5c7e48692e63e93e106"), looks := false }, kinds := [], alts := [], laidByText := true, laidKinds := [.data, .pinned], laidTests := true, laidLooks := .later }
def FoldOnceCardSaid : Prop := Claim7.holds Tryd.pinned (.plain (OpenSpec.ofChange foldOnceSpec)) foldOnceCard

/-- THE TIED CARD OF 'missivelaw07.FoldParts'. -/
def foldPartsCard : Claim7 := { stood := { row := foldPartsRow, standIns := [], harness := (true, "3d6d814892d3b3d7289ea8b3d70cdd6cdcf19a37e4c8a5c7e48692e63e93e106"), looks := false }, kinds := [], alts := [], laidByText := true, laidKinds := [.data, .pinned], laidTests := true, laidLooks := .later }
def FoldPartsCardSaid : Prop := Claim7.holds Tryd.pinned (.plain (OpenSpec.ofChange foldPartsSpec)) foldPartsCard

/-- THE TIED CARD OF 'missivelaw07.FoldPlaces'. -/
def foldPlacesCard : Claim7 := { stood := { row := foldPlacesRow, standIns := [], harness := (true, "3d6d814892d3b3d7289ea8b3d70cdd6cdcf19a37e4c8a5c7e48692e63e93e106"), looks := false }, kinds := [], alts := [], laidByText := true, laidKinds := [.data, .pinned], laidTests := true, laidLooks := .later }
def FoldPlacesCardSaid : Prop := Claim7.holds Tryd.pinned (.plain (OpenSpec.ofChange foldPlacesSpec)) foldPlacesCard

/-- THE SECOND FORM's CARD OF 'missivelaw07.FoldLetters'. -/
def foldLettersUptoCard : Claim7 := { stood := { row := foldLettersUptoRow, standIns := [], harness := (true, "3d6d814892d3b3d7289ea8b3d70cdd6cdcf19a37e4c8a5c7e48692e63e93e106"), looks := false }, kinds := [], alts := [], laidByText := true, laidKinds := [.data, .pinned], laidTests := true, laidLooks := .later }
def FoldLettersUptoCardSaid : Prop := Claim7.holds Tryd.pinned (.plain (OpenSpec.upto foldLettersSpec)) foldLettersUptoCard

/-- THE SECOND FORM's CARD OF 'missivelaw07.FoldAsks'. -/
def foldAsksUptoCard : Claim7 := { stood := { row := foldAsksUptoRow, standIns := [], harness := (true, "3d6d814892d3b3d7289ea8b3d70cdd6cdcf19a37e4c8a5c7e48692e63e93e106"), looks := false }, kinds := [], alts := [], laidByText := true, laidKinds := [.data, .pinned], laidTests := true, laidLooks := .later }
def FoldAsksUptoCardSaid : Prop := Claim7.holds Tryd.pinned (.plain (OpenSpec.upto foldAsksSpec)) foldAsksUptoCard

/-- THE SECOND FORM's CARD OF 'missivelaw07.FoldOnce'. -/
def foldOnceUptoCard : Claim7 := { stood := { row := foldOnceUptoRow, standIns := [], harness := (true, "3d6d814892d3b3d7289ea8b3d70cdd6cdcf19a37e4c8a5c7e48692e63e93e106"), looks := false }, kinds := [], alts := [], laidByText := true, laidKinds := [.data, .pinned], laidTests := true, laidLooks := .later }
def FoldOnceUptoCardSaid : Prop := Claim7.holds Tryd.pinned (.plain (OpenSpec.upto foldOnceSpec)) foldOnceUptoCard

/-- THE SECOND FORM's CARD OF 'missivelaw07.FoldParts'. -/
def foldPartsUptoCard : Claim7 := { stood := { row := foldPartsUptoRow, standIns := [], harness := (true, "3d6d814892d3b3d7289ea8b3d70cdd6cdcf19a37e4c8a5c7e48692e63e93e106"), looks := false }, kinds := [], alts := [], laidByText := true, laidKinds := [.data, .pinned], laidTests := true, laidLooks := .later }
def FoldPartsUptoCardSaid : Prop := Claim7.holds Tryd.pinned (.plain (OpenSpec.upto foldPartsSpec)) foldPartsUptoCard

/-- THE SECOND FORM's CARD OF 'missivelaw07.FoldPlaces'. -/
def foldPlacesUptoCard : Claim7 := { stood := { row := foldPlacesUptoRow, standIns := [], harness := (true, "3d6d814892d3b3d7289ea8b3d70cdd6cdcf19a37e4c8a5c7e48692e63e93e106"), looks := false }, kinds := [], alts := [], laidByText := true, laidKinds := [.data, .pinned], laidTests := true, laidLooks := .later }
def FoldPlacesUptoCardSaid : Prop := Claim7.holds Tryd.pinned (.plain (OpenSpec.upto foldPlacesSpec)) foldPlacesUptoCard
end Rows
end Go.Proofs.YtfkckhliffbcjaaDoor
