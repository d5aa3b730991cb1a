/-
  DERIVED. GIVEN WITH THE SEED: THE CARDS: each row of YtimnmfjbfbkooaaGreatDoorRows.lean that lists a variable, with what it lists TIED to the program's text (the seventh form; the later family's looks); each row that meets fmt, with fmt's text TOLD by the authors' own Lean function (tested against real Go, not proved from fmt's source: count such statements apart). THE CARD IS WHAT COUNTS. Prove the row's statement (the work); the ties are given (YtimnmfjbfbkooaaGreatDoorTie.lean); close each card by the builder's one call (the guide's Derived/Test/ToyasCard.lean, 'card_holds'). Laid BY PROGRAM, IN A SANDBOX (cutbox-door.mjs). By AI agents, Wed Nov 11 2026. No macro, syntax, notation, axiom, sorry.
-/
import Derived.Test.YtimnmfjbfbkooaaGreatDoorRows
import GoSem.ClaimSeven
namespace Go.Proofs.YtimnmfjbfbkooaaGreatDoor
namespace Rows

/-- THE TIED CARD OF 'chitilaw05.BrickPlaces'. -/
def brickPlacesCard : Claim7 := { stood := { row := brickPlacesRow, standIns := [], harness := (true, "c832c58d5cd1d28ae644e4ff124baf23e6239fdf769d85179f4ad7da8b7d2fcf"), looks := false }, kinds := [], alts := [], laidByText := true, laidKinds := [.data, .data, .pinned], laidTests := true, laidLooks := .later }
def BrickPlacesCardSaid : Prop := Claim7.holds Tryz.pinned (.plain (OpenSpec.ofChange brickPlacesSpec)) brickPlacesCard

/-- THE TIED CARD OF 'chitilaw05.BrickTexts'. -/
def brickTextsCard : Claim7 := { stood := { row := brickTextsRow, standIns := [], harness := (true, "c832c58d5cd1d28ae644e4ff124baf23e6239fdf769d85179f4ad7da8b7d2fcf"), looks := false }, kinds := [], alts := [], laidByText := true, laidKinds := [.data, .data, .pinned], laidTests := true, laidLooks := .later }
def BrickTextsCardSaid : Prop := Claim7.holds Tryz.pinned (.plain (OpenSpec.ofChange brickTextsSpec)) brickTextsCard

/-- THE TIED CARD OF 'chitilaw05.BrickEdges'. -/
def brickEdgesCard : Claim7 := { stood := { row := brickEdgesRow, standIns := [], harness := (true, "c832c58d5cd1d28ae644e4ff124baf23e6239fdf769d85179f4ad7da8b7d2fcf"), looks := false }, kinds := [], alts := [], laidByText := true, laidKinds := [.data, .data, .pinned], laidTests := true, laidLooks := .later }
def BrickEdgesCardSaid : Prop := Claim7.holds Tryz.pinned (.plain (OpenSpec.ofChange brickEdgesSpec)) brickEdgesCard

/-- THE TIED CARD OF 'chitilaw05.BrickPuts'. -/
def brickPutsCard : Claim7 := { stood := { row := brickPutsRow, standIns := [], harness := (true, "c832c58d5cd1d28ae644e4ff124baf23e6239fdf769d85179f4ad7da8b7d2fcf"), looks := false }, kinds := [], alts := [], laidByText := true, laidKinds := [.data, .data, .pinned], laidTests := true, laidLooks := .later }
def BrickPutsCardSaid : Prop := Claim7.holds Tryz.pinned (.plain (OpenSpec.ofChange brickPutsSpec)) brickPutsCard

/-- THE TIED CARD OF 'chitilaw05.BrickNames'. -/
def brickNamesCard : Claim7 := { stood := { row := brickNamesRow, standIns := [], harness := (true, "c832c58d5cd1d28ae644e4ff124baf23e6239fdf769d85179f4ad7da8b7d2fcf"), looks := false }, kinds := [], alts := [], laidByText := true, laidKinds := [.data, .data, .pinned], laidTests := true, laidLooks := .later }
def BrickNamesCardSaid : Prop := Claim7.holds Tryz.pinned (.plain (OpenSpec.ofChange brickNamesSpec)) brickNamesCard

/-- THE TIED CARD OF 'chitilaw05.BrickBorders'. -/
def brickBordersCard : Claim7 := { stood := { row := brickBordersRow, standIns := [], harness := (true, "c832c58d5cd1d28ae644e4ff124baf23e6239fdf769d85179f4ad7da8b7d2fcf"), looks := false }, kinds := [], alts := [], laidByText := true, laidKinds := [.data, .data, .pinned], laidTests := true, laidLooks := .later }
def BrickBordersCardSaid : Prop := Claim7.holds Tryz.pinned (.plain (OpenSpec.ofChange brickBordersSpec)) brickBordersCard

/-- THE TIED CARD OF 'chitilaw05.BrickImages'. -/
def brickImagesCard : Claim7 := { stood := { row := brickImagesRow, standIns := [], harness := (true, "c832c58d5cd1d28ae644e4ff124baf23e6239fdf769d85179f4ad7da8b7d2fcf"), looks := false }, kinds := [], alts := [], laidByText := true, laidKinds := [.data, .data, .pinned], laidTests := true, laidLooks := .later }
def BrickImagesCardSaid : Prop := Claim7.holds Tryz.pinned (.plain (OpenSpec.ofChange brickImagesSpec)) brickImagesCard

/-- THE TIED CARD OF 'chitilaw05.BrickTurned'. -/
def brickTurnedCard : Claim7 := { stood := { row := brickTurnedRow, standIns := [], harness := (true, "c832c58d5cd1d28ae644e4ff124baf23e6239fdf769d85179f4ad7da8b7d2fcf"), looks := false }, kinds := [], alts := [], laidByText := true, laidKinds := [.data, .data, .pinned], laidTests := true, laidLooks := .later }
def BrickTurnedCardSaid : Prop := Claim7.holds Tryz.pinned (.plain (OpenSpec.ofChange brickTurnedSpec)) brickTurnedCard

/-- THE SECOND FORM's CARD OF 'chitilaw05.BrickPlaces'. -/
def brickPlacesUptoCard : Claim7 := { stood := { row := brickPlacesUptoRow, standIns := [], harness := (true, "c832c58d5cd1d28ae644e4ff124baf23e6239fdf769d85179f4ad7da8b7d2fcf"), looks := false }, kinds := [], alts := [], laidByText := true, laidKinds := [.data, .data, .pinned], laidTests := true, laidLooks := .later }
def BrickPlacesUptoCardSaid : Prop := Claim7.holds Tryz.pinned (.plain (OpenSpec.upto brickPlacesSpec)) brickPlacesUptoCard

/-- THE SECOND FORM's CARD OF 'chitilaw05.BrickTexts'. -/
def brickTextsUptoCard : Claim7 := { stood := { row := brickTextsUptoRow, standIns := [], harness := (true, "c832c58d5cd1d28ae644e4ff124baf23e6239fdf769d85179f4ad7da8b7d2fcf"), looks := false }, kinds := [], alts := [], laidByText := true, laidKinds := [.data, .data, .pinned], laidTests := true, laidLooks := .later }
def BrickTextsUptoCardSaid : Prop := Claim7.holds Tryz.pinned (.plain (OpenSpec.upto brickTextsSpec)) brickTextsUptoCard

/-- THE SECOND FORM's CARD OF 'chitilaw05.BrickEdges'. -/
def brickEdgesUptoCard : Claim7 := { stood := { row := brickEdgesUptoRow, standIns := [], harness := (true, "c832c58d5cd1d28ae644e4ff124baf23e6239fdf769d85179f4ad7da8b7d2fcf"), looks := false }, kinds := [], alts := [], laidByText := true, laidKinds := [.data, .data, .pinned], laidTests := true, laidLooks := .later }
def BrickEdgesUptoCardSaid : Prop := Claim7.holds Tryz.pinned (.plain (OpenSpec.upto brickEdgesSpec)) brickEdgesUptoCard

/-- THE SECOND FORM's CARD OF 'chitilaw05.BrickPuts'. -/
def brickPutsUptoCard : Claim7 := { stood := { row := brickPutsUptoRow, standIns := [], harness := (true, "c832c58d5cd1d28ae644e4ff124baf23e6239fdf769d85179f4ad7da8b7d2fcf"), looks := false }, kinds := [], alts := [], laidByText := true, laidKinds := [.data, .data, .pinned], laidTests := true, laidLooks := .later }
def BrickPutsUptoCardSaid : Prop := Claim7.holds Tryz.pinned (.plain (OpenSpec.upto brickPutsSpec)) brickPutsUptoCard

/-- THE SECOND FORM's CARD OF 'chitilaw05.BrickNames'. -/
def brickNamesUptoCard : Claim7 := { stood := { row := brickNamesUptoRow, standIns := [], harness := (true, "c832c58d5cd1d28ae644e4ff124baf23e6239fdf769d85179f4ad7da8b7d2fcf"), looks := false }, kinds := [], alts := [], laidByText := true, laidKinds := [.data, .data, .pinned], laidTests := true, laidLooks := .later }
def BrickNamesUptoCardSaid : Prop := Claim7.holds Tryz.pinned (.plain (OpenSpec.upto brickNamesSpec)) brickNamesUptoCard

/-- THE SECOND FORM's CARD OF 'chitilaw05.BrickBorders'. -/
def brickBordersUptoCard : Claim7 := { stood := { row := brickBordersUptoRow, standIns := [], harness := (true, "c832c58d5cd1d28ae644e4ff124baf23e6239fdf769d85179f4ad7da8b7d2fcf"), looks := false }, kinds := [], alts := [], laidByText := true, laidKinds := [.data, .data, .pinned], laidTests := true, laidLooks := .later }
def BrickBordersUptoCardSaid : Prop := Claim7.holds Tryz.pinned (.plain (OpenSpec.upto brickBordersSpec)) brickBordersUptoCard

/-- THE SECOND FORM's CARD OF 'chitilaw05.BrickImages'. -/
def brickImagesUptoCard : Claim7 := { stood := { row := brickImagesUptoRow, standIns := [], harness := (true, "c832c58d5cd1d28ae644e4ff124baf23e6239fdf769d85179f4ad7da8b7d2fcf"), looks := false }, kinds := [], alts := [], laidByText := true, laidKinds := [.data, .data, .pinned], laidTests := true, laidLooks := .later }
def BrickImagesUptoCardSaid : Prop := Claim7.holds Tryz.pinned (.plain (OpenSpec.upto brickImagesSpec)) brickImagesUptoCard

/-- THE SECOND FORM's CARD OF 'chitilaw05.BrickTurned'. -/
def brickTurnedUptoCard : Claim7 := { stood := { row := brickTurnedUptoRow, standIns := [], harness := (true, "c832c58d5cd1d28ae644e4ff124baf23e6239fdf769d85179f4ad7da8b7d2fcf"), looks := false }, kinds := [], alts := [], laidByText := true, laidKinds := [.data, .data, .pinned], laidTests := true, laidLooks := .later }
def BrickTurnedUptoCardSaid : Prop := Claim7.holds Tryz.pinned (.plain (OpenSpec.upto brickTurnedSpec)) brickTurnedUptoCard
end Rows
end Go.Proofs.YtimnmfjbfbkooaaGreatDoor
