/-
  DERIVED. GIVEN WITH THE SEED: THE CARDS: each row of YtiinlplgloaanaaGreatDoorRows.lean that lists a variable, with what it lists TIED to the program's text (the seventh form; the later family's looks); each row that meets fmt, with fmt's text TOLD by the authors' own Lean function (tested against real Go, not proved from fmt's source: count such statements apart). THE CARD IS WHAT COUNTS. Prove the row's statement (the work); the ties are given (YtiinlplgloaanaaGreatDoorTie.lean); close each card by the builder's one call (the guide's Derived/Test/ToyasCard.lean, 'card_holds'). Laid BY PROGRAM, IN A SANDBOX (cutbox-door.mjs). By AI agents, Wed Nov 11 2026. No macro, syntax, notation, axiom, sorry.
-/
import Derived.Test.YtiinlplgloaanaaGreatDoorRows
import GoSem.ClaimSeven
namespace Go.Proofs.YtiinlplgloaanaaGreatDoor
namespace Rows

/-- THE TIED CARD OF 'chititop.TopHalved'. -/
def topHalvedCard : Claim7 := { stood := { row := topHalvedRow, standIns := [], harness := (true, "e0fc8d7b793b6232d9be9bb2f03906ca99e3ebd6b3ed8fe59878d18fc15cc5be"), looks := false }, kinds := [], alts := [], laidByText := true, laidKinds := [.data, .data, .data, .data, .data, .pinned], laidTests := true, laidLooks := .later }
def TopHalvedCardSaid : Prop := Claim7.holds Tryz.pinned (.plain (OpenSpec.ofChange topHalvedSpec)) topHalvedCard

/-- THE TIED CARD OF 'chititop.TopLikeGrounds'. -/
def topLikeGroundsCard : Claim7 := { stood := { row := topLikeGroundsRow, standIns := [], harness := (true, "e0fc8d7b793b6232d9be9bb2f03906ca99e3ebd6b3ed8fe59878d18fc15cc5be"), looks := false }, kinds := [], alts := [], laidByText := true, laidKinds := [.data, .data, .data, .data, .data, .pinned], laidTests := true, laidLooks := .later }
def TopLikeGroundsCardSaid : Prop := Claim7.holds Tryz.pinned (.plain (OpenSpec.ofChange topLikeGroundsSpec)) topLikeGroundsCard

/-- THE TIED CARD OF 'chititop.TopLessOne'. -/
def topLessOneCard : Claim7 := { stood := { row := topLessOneRow, standIns := [], harness := (true, "e0fc8d7b793b6232d9be9bb2f03906ca99e3ebd6b3ed8fe59878d18fc15cc5be"), looks := false }, kinds := [], alts := [], laidByText := true, laidKinds := [.data, .data, .data, .data, .data, .pinned], laidTests := true, laidLooks := .later }
def TopLessOneCardSaid : Prop := Claim7.holds Tryz.pinned (.plain (OpenSpec.ofChange topLessOneSpec)) topLessOneCard

/-- THE TIED CARD OF 'chitilaw07.LayerAll'. -/
def layerAllCard : Claim7 := { stood := { row := layerAllRow, standIns := [], harness := (true, "e0fc8d7b793b6232d9be9bb2f03906ca99e3ebd6b3ed8fe59878d18fc15cc5be"), looks := false }, kinds := [], alts := [], laidByText := true, laidKinds := [.data, .data, .data], laidTests := true, laidLooks := .later }
def LayerAllCardSaid : Prop := Claim7.holds Tryz.pinned (.plain (OpenSpec.ofChange layerAllSpec)) layerAllCard

/-- THE TIED CARD OF 'chitilaw07.LayerNever'. -/
def layerNeverCard : Claim7 := { stood := { row := layerNeverRow, standIns := [], harness := (true, "e0fc8d7b793b6232d9be9bb2f03906ca99e3ebd6b3ed8fe59878d18fc15cc5be"), looks := false }, kinds := [], alts := [], laidByText := true, laidKinds := [.data, .data, .data], laidTests := true, laidLooks := .later }
def LayerNeverCardSaid : Prop := Claim7.holds Tryz.pinned (.plain (OpenSpec.ofChange layerNeverSpec)) layerNeverCard

/-- THE TIED CARD OF 'chitilaw07.LayerOver'. -/
def layerOverCard : Claim7 := { stood := { row := layerOverRow, standIns := [], harness := (true, "e0fc8d7b793b6232d9be9bb2f03906ca99e3ebd6b3ed8fe59878d18fc15cc5be"), looks := false }, kinds := [], alts := [], laidByText := true, laidKinds := [.data, .data, .data], laidTests := true, laidLooks := .later }
def LayerOverCardSaid : Prop := Claim7.holds Tryz.pinned (.plain (OpenSpec.ofChange layerOverSpec)) layerOverCard

/-- THE TIED CARD OF 'chitilaw07.LayerTouches'. -/
def layerTouchesCard : Claim7 := { stood := { row := layerTouchesRow, standIns := [], harness := (true, "e0fc8d7b793b6232d9be9bb2f03906ca99e3ebd6b3ed8fe59878d18fc15cc5be"), looks := false }, kinds := [], alts := [], laidByText := true, laidKinds := [.data, .data, .data], laidTests := true, laidLooks := .later }
def LayerTouchesCardSaid : Prop := Claim7.holds Tryz.pinned (.plain (OpenSpec.ofChange layerTouchesSpec)) layerTouchesCard

/-- THE SECOND FORM's CARD OF 'chititop.TopHalved'. -/
def topHalvedUptoCard : Claim7 := { stood := { row := topHalvedUptoRow, standIns := [], harness := (true, "e0fc8d7b793b6232d9be9bb2f03906ca99e3ebd6b3ed8fe59878d18fc15cc5be"), looks := false }, kinds := [], alts := [], laidByText := true, laidKinds := [.data, .data, .data, .data, .data, .pinned], laidTests := true, laidLooks := .later }
def TopHalvedUptoCardSaid : Prop := Claim7.holds Tryz.pinned (.plain (OpenSpec.upto topHalvedSpec)) topHalvedUptoCard

/-- THE SECOND FORM's CARD OF 'chititop.TopLikeGrounds'. -/
def topLikeGroundsUptoCard : Claim7 := { stood := { row := topLikeGroundsUptoRow, standIns := [], harness := (true, "e0fc8d7b793b6232d9be9bb2f03906ca99e3ebd6b3ed8fe59878d18fc15cc5be"), looks := false }, kinds := [], alts := [], laidByText := true, laidKinds := [.data, .data, .data, .data, .data, .pinned], laidTests := true, laidLooks := .later }
def TopLikeGroundsUptoCardSaid : Prop := Claim7.holds Tryz.pinned (.plain (OpenSpec.upto topLikeGroundsSpec)) topLikeGroundsUptoCard

/-- THE SECOND FORM's CARD OF 'chititop.TopLessOne'. -/
def topLessOneUptoCard : Claim7 := { stood := { row := topLessOneUptoRow, standIns := [], harness := (true, "e0fc8d7b793b6232d9be9bb2f03906ca99e3ebd6b3ed8fe59878d18fc15cc5be"), looks := false }, kinds := [], alts := [], laidByText := true, laidKinds := [.data, .data, .data, .data, .data, .pinned], laidTests := true, laidLooks := .later }
def TopLessOneUptoCardSaid : Prop := Claim7.holds Tryz.pinned (.plain (OpenSpec.upto topLessOneSpec)) topLessOneUptoCard

/-- THE SECOND FORM's CARD OF 'chitilaw07.LayerAll'. -/
def layerAllUptoCard : Claim7 := { stood := { row := layerAllUptoRow, standIns := [], harness := (true, "e0fc8d7b793b6232d9be9bb2f03906ca99e3ebd6b3ed8fe59878d18fc15cc5be"), looks := false }, kinds := [], alts := [], laidByText := true, laidKinds := [.data, .data, .data], laidTests := true, laidLooks := .later }
def LayerAllUptoCardSaid : Prop := Claim7.holds Tryz.pinned (.plain (OpenSpec.upto layerAllSpec)) layerAllUptoCard

/-- THE SECOND FORM's CARD OF 'chitilaw07.LayerNever'. -/
def layerNeverUptoCard : Claim7 := { stood := { row := layerNeverUptoRow, standIns := [], harness := (true, "e0fc8d7b793b6232d9be9bb2f03906ca99e3ebd6b3ed8fe59878d18fc15cc5be"), looks := false }, kinds := [], alts := [], laidByText := true, laidKinds := [.data, .data, .data], laidTests := true, laidLooks := .later }
def LayerNeverUptoCardSaid : Prop := Claim7.holds Tryz.pinned (.plain (OpenSpec.upto layerNeverSpec)) layerNeverUptoCard

/-- THE SECOND FORM's CARD OF 'chitilaw07.LayerOver'. -/
def layerOverUptoCard : Claim7 := { stood := { row := layerOverUptoRow, standIns := [], harness := (true, "e0fc8d7b793b6232d9be9bb2f03906ca99e3ebd6b3ed8fe59878d18fc15cc5be"), looks := false }, kinds := [], alts := [], laidByText := true, laidKinds := [.data, .data, .data], laidTests := true, laidLooks := .later }
def LayerOverUptoCardSaid : Prop := Claim7.holds Tryz.pinned (.plain (OpenSpec.upto layerOverSpec)) layerOverUptoCard

/-- THE SECOND FORM's CARD OF 'chitilaw07.LayerTouches'. -/
def layerTouchesUptoCard : Claim7 := { stood := { row := layerTouchesUptoRow, standIns := [], harness := (true, "e0fc8d7b793b6232d9be9bb2f03906ca99e3ebd6b3ed8fe59878d18fc15cc5be"), looks := false }, kinds := [], alts := [], laidByText := true, laidKinds := [.data, .data, .data], laidTests := true, laidLooks := .later }
def LayerTouchesUptoCardSaid : Prop := Claim7.holds Tryz.pinned (.plain (OpenSpec.upto layerTouchesSpec)) layerTouchesUptoCard
end Rows
end Go.Proofs.YtiinlplgloaanaaGreatDoor
