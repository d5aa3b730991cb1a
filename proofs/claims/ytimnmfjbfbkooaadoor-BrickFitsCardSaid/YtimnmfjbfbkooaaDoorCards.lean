/-
  DERIVED. GIVEN WITH THE SEED: THE CARDS: each row of YtimnmfjbfbkooaaDoorRows.lean that lists a variable, with what it lists TIED to the program's text (the seventh form; the later family's looks); each row that meets fmt, with fmt's text TOLD by the authors' own Lean function (tested against real Go, not proved from fmt's source: count such statements apart). THE CARD IS WHAT COUNTS. Prove the row's statement (the work); the ties are given (YtimnmfjbfbkooaaDoorTie.lean); close each card by the builder's one call (the guide's Derived/Test/ToyasCard.lean, 'card_holds'). Laid BY PROGRAM, IN A SANDBOX (cutbox-door.mjs). By AI agents, Wed Nov 11 2026. No macro, syntax, notation, axiom, sorry.
-/
import Derived.Test.YtimnmfjbfbkooaaDoorRows
import GoSem.ClaimSeven
namespace Go.Proofs.YtimnmfjbfbkooaaDoor
namespace Rows

/-- THE TIED CARD OF 'chitilaw05.BrickFits'. -/
def brickFitsCard : Claim7 := { stood := { row := brickFitsRow, standIns := [], harness := (true, "33a60ebd43b1f8e9970b39533645d4bb67aee1b5df72497773fb8153a9020d12"), looks := false }, kinds := [], alts := [], laidByText := true, laidKinds := [.data, .data, .pinned], laidTests := true, laidLooks := .later }
def BrickFitsCardSaid : Prop := Claim7.holds Tryd.pinned (.plain (OpenSpec.ofChange brickFitsSpec)) brickFitsCard

/-- THE TIED CARD OF 'chitilaw05.BrickSpelled'. -/
def brickSpelledCard : Claim7 := { stood := { row := brickSpelledRow, standIns := [], harness := (true, "33a60ebd43b1f8e9970b39533645d4bb67aee1b5df72497773fb8153a9020d12"), looks := false }, kinds := [], alts := [], laidByText := true, laidKinds := [.data, .data, .pinned], laidTests := true, laidLooks := .later }
def BrickSpelledCardSaid : Prop := Claim7.holds Tryd.pinned (.plain (OpenSpec.ofChange brickSpelledSpec)) brickSpelledCard

/-- THE SECOND FORM's CARD OF 'chitilaw05.BrickFits'. -/
def brickFitsUptoCard : Claim7 := { stood := { row := brickFitsUptoRow, standIns := [], harness := (true, "33a60ebd43b1f8e9970b39533645d4bb67aee1b5df72497773fb8153a9020d12"), looks := false }, kinds := [], alts := [], laidByText := true, laidKinds := [.data, .data, .pinned], laidTests := true, laidLooks := .later }
def BrickFitsUptoCardSaid : Prop := Claim7.holds Tryd.pinned (.plain (OpenSpec.upto brickFitsSpec)) brickFitsUptoCard

/-- THE SECOND FORM's CARD OF 'chitilaw05.BrickSpelled'. -/
def brickSpelledUptoCard : Claim7 := { stood := { row := brickSpelledUptoRow, standIns := [], harness := (true, "33a60ebd43b1f8e9970b39533645d4bb67aee1b5df72497773fb8153a9020d12"), looks := false }, kinds := [], alts := [], laidByText := true, laidKinds := [.data, .data, .pinned], laidTests := true, laidLooks := .later }
def BrickSpelledUptoCardSaid : Prop := Claim7.holds Tryd.pinned (.plain (OpenSpec.upto brickSpelledSpec)) brickSpelledUptoCard
end Rows
end Go.Proofs.YtimnmfjbfbkooaaDoor
