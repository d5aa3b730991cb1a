/-
  NARROWER THAN 'FOR EVERY INPUT', by the rows' own cells (each row's printed sentence says how): BrickPlaces: laid · BrickTexts: laid · BrickEdges: laid · BrickPuts: laid · BrickNames: laid · BrickBorders: laid · BrickImages: laid · BrickTurned: laid.
  DERIVED. THE GIVEN ROWS OF THIS SEAT. 8 by the template 'for every input the law returns true; each argument reads behind the call as it read before'; 0 by the template 'total and deterministic' (their statements: YtimnmfjbfbkooaaGreatDoorTotals.lean).
  GIVEN WITH THE SEED: the statements are not yours to turn. If you find one false, say at which input.
  Laid BY PROGRAM, IN A SANDBOX (cutbox-rows.mjs): the forced cells as the released guide's own fill.sh prints them over the translation 801de1f2d97ba904… (all of the seat's roots in one cut). By AI agents, Wed Nov 11 2026. No macro, syntax, notation, axiom, sorry.
-/
import Derived.Test.YtimnmfjbfbkooaaGreatDoorChecked
import GoSem.PinnedTables
import GoSem.Claim
import GoSem.ClaimJoined
import GoSem.ClaimMapViews
import Derived.JoinedTies
import Derived.KernelRfl
namespace Go.Proofs.YtimnmfjbfbkooaaGreatDoor
/- THE CELL 'sum', in the pinned program and in every row, IS THE sha256 OF THE DUMP (.gsa) THAT YtimnmfjbfbkooaaGreatDoorProg.lean LOADS. Nothing in Lean hashes anything: it is a label: what it is worth is what the hold of that sum in a sandbox is worth. -/
noncomputable def Tryz.pinned : Pinned := { name := "ytimnmfjbfbkooaagreatdoor", sum := "801de1f2d97ba90426374ebcd48556afcaeddd0db695159abf400fe8143bbbcc", checked := Tryz.checked }
namespace Rows
def none {H : Type} : Left H := { results := [], args := [] }

/- WHAT THE LISTED PACKAGE-LEVEL VARIABLES READ AS WHEN THE CALL BEGINS. Each datum BY PROGRAM (the guide's laid-datum.mjs) off the statement by which the dump's own 'gosem.cut.vars' lays the variable. In a bare row this is a premise. The card (YtimnmfjbfbkooaaGreatDoorCards.lean) ties it to the program's text. -/
def laid_unicode_utf8_acceptRanges {H : Type} : DataW H := .agg [.agg [.lit (.int .u8 128), .lit (.int .u8 191)], .agg [.lit (.int .u8 160), .lit (.int .u8 191)], .agg [.lit (.int .u8 128), .lit (.int .u8 159)], .agg [.lit (.int .u8 144), .lit (.int .u8 191)], .agg [.lit (.int .u8 128), .lit (.int .u8 143)], .agg [.lit (.int .u8 0), .lit (.int .u8 0)], .agg [.lit (.int .u8 0), .lit (.int .u8 0)], .agg [.lit (.int .u8 0), .lit (.int .u8 0)], .agg [.lit (.int .u8 0), .lit (.int .u8 0)], .agg [.lit (.int .u8 0), .lit (.int .u8 0)], .agg [.lit (.int .u8 0), .lit (.int .u8 0)], .agg [.lit (.int .u8 0), .lit (.int .u8 0)], .agg [.lit (.int .u8 0), .lit (.int .u8 0)], .agg [.lit (.int .u8 0), .lit (.int .u8 0)], .agg [.lit (.int .u8 0), .lit (.int .u8 0)], .agg [.lit (.int .u8 0), .lit (.int .u8 0)]]
def laid_chiti_brick_kinds {H : Type} : DataW H := .agg [.agg [.lit (.string [115, 113, 117, 97, 114, 101]), .lit (.string [102])], .agg [.lit (.string [111, 98, 108, 111, 110, 103]), .lit (.string [102, 102])], .agg [.lit (.string [103, 114, 101, 97, 116]), .lit (.string [102, 102, 47, 102, 102])], .agg [.lit (.string [104, 97, 108, 102]), .lit (.string [51])], .agg [.lit (.string [113, 117, 97, 114, 116, 101, 114]), .lit (.string [49])], .agg [.lit (.string [116, 114, 105, 97, 110, 103, 108, 101]), .lit (.string [54, 99])], .agg [.lit (.string [100, 105, 97, 109, 111, 110, 100]), .lit (.string [54, 99, 47, 51, 57])], .agg [.lit (.string [98, 101, 110, 116]), .lit (.string [102, 48, 47, 102, 102])]]
/-- One of Go's own tables, pinned by name: the form's constant. -/
def laid_unicode_utf8_first : DataW Unit := Go.Pinned.utf8First

/-- 'chitilaw05.BrickPlaces': WHATEVER THE INPUT: true; the input reads as it did. -/
def brickPlacesSpec : ChangeSpec := { name := "brickPlaces", fn := fun _ => fun
  | [d1, d2] => { results := [.lit (.bool true)], args := [d1, d2] }
  | _ => none }
def brickPlacesRow : OpenClaim := { program := "ytimnmfjbfbkooaagreatdoor", sum := "801de1f2d97ba90426374ebcd48556afcaeddd0db695159abf400fe8143bbbcc", func := "chiti/chitilaw05.BrickPlaces", spec := "brickPlaces", inPlace := ["internal/bytealg.CountString", "internal/bytealg.IndexByteString", "internal/bytealg.IndexString", "internal/abi.NoEscape"], unfollowed := true, recurses := true, named := ["chiti/brick.kinds", "unicode/utf8.first", "unicode/utf8.acceptRanges", "internal/bytealg.MaxLen"], plainKeys := false, apart := false, laid := [("unicode/utf8.acceptRanges", laid_unicode_utf8_acceptRanges), ("chiti/brick.kinds", laid_chiti_brick_kinds), ("unicode/utf8.first", laid_unicode_utf8_first)] }
def BrickPlacesSaid : Prop := brickPlacesRow.holds Tryz.pinned (OpenSpec.ofChange brickPlacesSpec)

/-- ITS FALSE NEIGHBOUR: 'it returns false'. Refute it at one input. -/
def brickPlacesWrong : ChangeSpec := { name := "brickPlaces", fn := fun _ => fun
  | [d1, d2] => { results := [.lit (.bool false)], args := [d1, d2] }
  | _ => none }
def BrickPlacesWrongFalsely : Prop := brickPlacesRow.holds Tryz.pinned (OpenSpec.ofChange brickPlacesWrong)

/-- 'chitilaw05.BrickTexts': WHATEVER THE INPUT: true; the input reads as it did. -/
def brickTextsSpec : ChangeSpec := { name := "brickTexts", fn := fun _ => fun
  | [d1, d2] => { results := [.lit (.bool true)], args := [d1, d2] }
  | _ => none }
def brickTextsRow : OpenClaim := { program := "ytimnmfjbfbkooaagreatdoor", sum := "801de1f2d97ba90426374ebcd48556afcaeddd0db695159abf400fe8143bbbcc", func := "chiti/chitilaw05.BrickTexts", spec := "brickTexts", inPlace := ["internal/bytealg.CountString", "internal/bytealg.IndexByteString", "internal/bytealg.IndexString", "internal/abi.NoEscape"], unfollowed := true, recurses := true, named := ["chiti/brick.kinds", "unicode/utf8.first", "unicode/utf8.acceptRanges", "internal/bytealg.MaxLen"], plainKeys := false, apart := false, laid := [("unicode/utf8.acceptRanges", laid_unicode_utf8_acceptRanges), ("chiti/brick.kinds", laid_chiti_brick_kinds), ("unicode/utf8.first", laid_unicode_utf8_first)] }
def BrickTextsSaid : Prop := brickTextsRow.holds Tryz.pinned (OpenSpec.ofChange brickTextsSpec)

/-- ITS FALSE NEIGHBOUR: 'it returns false'. Refute it at one input. -/
def brickTextsWrong : ChangeSpec := { name := "brickTexts", fn := fun _ => fun
  | [d1, d2] => { results := [.lit (.bool false)], args := [d1, d2] }
  | _ => none }
def BrickTextsWrongFalsely : Prop := brickTextsRow.holds Tryz.pinned (OpenSpec.ofChange brickTextsWrong)

/-- 'chitilaw05.BrickEdges': WHATEVER THE INPUT: true; the input reads as it did. -/
def brickEdgesSpec : ChangeSpec := { name := "brickEdges", fn := fun _ => fun
  | [d1, d2] => { results := [.lit (.bool true)], args := [d1, d2] }
  | _ => none }
def brickEdgesRow : OpenClaim := { program := "ytimnmfjbfbkooaagreatdoor", sum := "801de1f2d97ba90426374ebcd48556afcaeddd0db695159abf400fe8143bbbcc", func := "chiti/chitilaw05.BrickEdges", spec := "brickEdges", inPlace := ["internal/bytealg.CountString", "internal/bytealg.IndexByteString", "internal/bytealg.IndexString", "internal/abi.NoEscape"], unfollowed := true, recurses := true, named := ["chiti/brick.kinds", "unicode/utf8.first", "unicode/utf8.acceptRanges", "internal/bytealg.MaxLen"], plainKeys := false, apart := false, laid := [("unicode/utf8.acceptRanges", laid_unicode_utf8_acceptRanges), ("chiti/brick.kinds", laid_chiti_brick_kinds), ("unicode/utf8.first", laid_unicode_utf8_first)] }
def BrickEdgesSaid : Prop := brickEdgesRow.holds Tryz.pinned (OpenSpec.ofChange brickEdgesSpec)

/-- ITS FALSE NEIGHBOUR: 'it returns false'. Refute it at one input. -/
def brickEdgesWrong : ChangeSpec := { name := "brickEdges", fn := fun _ => fun
  | [d1, d2] => { results := [.lit (.bool false)], args := [d1, d2] }
  | _ => none }
def BrickEdgesWrongFalsely : Prop := brickEdgesRow.holds Tryz.pinned (OpenSpec.ofChange brickEdgesWrong)

/-- 'chitilaw05.BrickPuts': WHATEVER THE INPUT: true; the input reads as it did. -/
def brickPutsSpec : ChangeSpec := { name := "brickPuts", fn := fun _ => fun
  | [d1, d2] => { results := [.lit (.bool true)], args := [d1, d2] }
  | _ => none }
def brickPutsRow : OpenClaim := { program := "ytimnmfjbfbkooaagreatdoor", sum := "801de1f2d97ba90426374ebcd48556afcaeddd0db695159abf400fe8143bbbcc", func := "chiti/chitilaw05.BrickPuts", spec := "brickPuts", inPlace := ["internal/bytealg.CountString", "internal/bytealg.IndexByteString", "internal/bytealg.IndexString", "internal/abi.NoEscape"], unfollowed := true, recurses := true, named := ["chiti/brick.kinds", "unicode/utf8.first", "unicode/utf8.acceptRanges", "internal/bytealg.MaxLen"], plainKeys := false, apart := false, laid := [("unicode/utf8.acceptRanges", laid_unicode_utf8_acceptRanges), ("chiti/brick.kinds", laid_chiti_brick_kinds), ("unicode/utf8.first", laid_unicode_utf8_first)] }
def BrickPutsSaid : Prop := brickPutsRow.holds Tryz.pinned (OpenSpec.ofChange brickPutsSpec)

/-- ITS FALSE NEIGHBOUR: 'it returns false'. Refute it at one input. -/
def brickPutsWrong : ChangeSpec := { name := "brickPuts", fn := fun _ => fun
  | [d1, d2] => { results := [.lit (.bool false)], args := [d1, d2] }
  | _ => none }
def BrickPutsWrongFalsely : Prop := brickPutsRow.holds Tryz.pinned (OpenSpec.ofChange brickPutsWrong)

/-- 'chitilaw05.BrickNames': WHATEVER THE INPUT: true; the input reads as it did. -/
def brickNamesSpec : ChangeSpec := { name := "brickNames", fn := fun _ => fun
  | [d1, d2] => { results := [.lit (.bool true)], args := [d1, d2] }
  | _ => none }
def brickNamesRow : OpenClaim := { program := "ytimnmfjbfbkooaagreatdoor", sum := "801de1f2d97ba90426374ebcd48556afcaeddd0db695159abf400fe8143bbbcc", func := "chiti/chitilaw05.BrickNames", spec := "brickNames", inPlace := ["internal/bytealg.CountString", "internal/bytealg.IndexByteString", "internal/bytealg.IndexString", "internal/abi.NoEscape"], unfollowed := true, recurses := true, named := ["chiti/brick.kinds", "unicode/utf8.first", "unicode/utf8.acceptRanges", "internal/bytealg.MaxLen"], plainKeys := false, apart := false, laid := [("unicode/utf8.acceptRanges", laid_unicode_utf8_acceptRanges), ("chiti/brick.kinds", laid_chiti_brick_kinds), ("unicode/utf8.first", laid_unicode_utf8_first)] }
def BrickNamesSaid : Prop := brickNamesRow.holds Tryz.pinned (OpenSpec.ofChange brickNamesSpec)

/-- ITS FALSE NEIGHBOUR: 'it returns false'. Refute it at one input. -/
def brickNamesWrong : ChangeSpec := { name := "brickNames", fn := fun _ => fun
  | [d1, d2] => { results := [.lit (.bool false)], args := [d1, d2] }
  | _ => none }
def BrickNamesWrongFalsely : Prop := brickNamesRow.holds Tryz.pinned (OpenSpec.ofChange brickNamesWrong)

/-- 'chitilaw05.BrickBorders': WHATEVER THE INPUT: true; the input reads as it did. -/
def brickBordersSpec : ChangeSpec := { name := "brickBorders", fn := fun _ => fun
  | [d] => { results := [.lit (.bool true)], args := [d] }
  | _ => none }
def brickBordersRow : OpenClaim := { program := "ytimnmfjbfbkooaagreatdoor", sum := "801de1f2d97ba90426374ebcd48556afcaeddd0db695159abf400fe8143bbbcc", func := "chiti/chitilaw05.BrickBorders", spec := "brickBorders", inPlace := ["internal/bytealg.CountString", "internal/bytealg.IndexByteString", "internal/bytealg.IndexString", "internal/abi.NoEscape"], unfollowed := true, recurses := true, named := ["chiti/brick.kinds", "unicode/utf8.first", "unicode/utf8.acceptRanges", "internal/bytealg.MaxLen"], plainKeys := false, apart := false, laid := [("unicode/utf8.acceptRanges", laid_unicode_utf8_acceptRanges), ("chiti/brick.kinds", laid_chiti_brick_kinds), ("unicode/utf8.first", laid_unicode_utf8_first)] }
def BrickBordersSaid : Prop := brickBordersRow.holds Tryz.pinned (OpenSpec.ofChange brickBordersSpec)

/-- ITS FALSE NEIGHBOUR: 'it returns false'. Refute it at one input. -/
def brickBordersWrong : ChangeSpec := { name := "brickBorders", fn := fun _ => fun
  | [d] => { results := [.lit (.bool false)], args := [d] }
  | _ => none }
def BrickBordersWrongFalsely : Prop := brickBordersRow.holds Tryz.pinned (OpenSpec.ofChange brickBordersWrong)

/-- 'chitilaw05.BrickImages': WHATEVER THE INPUT: true; the input reads as it did. -/
def brickImagesSpec : ChangeSpec := { name := "brickImages", fn := fun _ => fun
  | [d1, d2] => { results := [.lit (.bool true)], args := [d1, d2] }
  | _ => none }
def brickImagesRow : OpenClaim := { program := "ytimnmfjbfbkooaagreatdoor", sum := "801de1f2d97ba90426374ebcd48556afcaeddd0db695159abf400fe8143bbbcc", func := "chiti/chitilaw05.BrickImages", spec := "brickImages", inPlace := ["internal/bytealg.CountString", "internal/bytealg.IndexByteString", "internal/bytealg.IndexString", "internal/abi.NoEscape"], unfollowed := true, recurses := true, named := ["chiti/brick.kinds", "unicode/utf8.first", "unicode/utf8.acceptRanges", "internal/bytealg.MaxLen"], plainKeys := false, apart := false, laid := [("unicode/utf8.acceptRanges", laid_unicode_utf8_acceptRanges), ("chiti/brick.kinds", laid_chiti_brick_kinds), ("unicode/utf8.first", laid_unicode_utf8_first)] }
def BrickImagesSaid : Prop := brickImagesRow.holds Tryz.pinned (OpenSpec.ofChange brickImagesSpec)

/-- ITS FALSE NEIGHBOUR: 'it returns false'. Refute it at one input. -/
def brickImagesWrong : ChangeSpec := { name := "brickImages", fn := fun _ => fun
  | [d1, d2] => { results := [.lit (.bool false)], args := [d1, d2] }
  | _ => none }
def BrickImagesWrongFalsely : Prop := brickImagesRow.holds Tryz.pinned (OpenSpec.ofChange brickImagesWrong)

/-- 'chitilaw05.BrickTurned': WHATEVER THE INPUT: true; the input reads as it did. -/
def brickTurnedSpec : ChangeSpec := { name := "brickTurned", fn := fun _ => fun
  | [d1, d2] => { results := [.lit (.bool true)], args := [d1, d2] }
  | _ => none }
def brickTurnedRow : OpenClaim := { program := "ytimnmfjbfbkooaagreatdoor", sum := "801de1f2d97ba90426374ebcd48556afcaeddd0db695159abf400fe8143bbbcc", func := "chiti/chitilaw05.BrickTurned", spec := "brickTurned", inPlace := ["internal/bytealg.CountString", "internal/bytealg.IndexByteString", "internal/bytealg.IndexString", "internal/abi.NoEscape"], unfollowed := true, recurses := true, named := ["chiti/brick.kinds", "unicode/utf8.first", "unicode/utf8.acceptRanges", "internal/bytealg.MaxLen"], plainKeys := false, apart := false, laid := [("unicode/utf8.acceptRanges", laid_unicode_utf8_acceptRanges), ("chiti/brick.kinds", laid_chiti_brick_kinds), ("unicode/utf8.first", laid_unicode_utf8_first)] }
def BrickTurnedSaid : Prop := brickTurnedRow.holds Tryz.pinned (OpenSpec.ofChange brickTurnedSpec)

/-- ITS FALSE NEIGHBOUR: 'it returns false'. Refute it at one input. -/
def brickTurnedWrong : ChangeSpec := { name := "brickTurned", fn := fun _ => fun
  | [d1, d2] => { results := [.lit (.bool false)], args := [d1, d2] }
  | _ => none }
def BrickTurnedWrongFalsely : Prop := brickTurnedRow.holds Tryz.pinned (OpenSpec.ofChange brickTurnedWrong)

/- THE SECOND FORM. 'bulk': how many values and letters a reading holds, each counted each time it is reached (what is shared counts as often as it is met; a slice's spare places count too). A statement '..UptoSaid' is the law's where the arguments, and the package variables that the reading takes, are together of bulk at most 1048576: NARROWER than '..Said'. Prove '..Said' where nothing that the law and all that it calls make is longer than what came in: it says more and counts as full. Else prove '..UptoSaid'. A law counts once. -/
mutual
def uptoBulk {H : Type} : DataW H → Nat
  | .lit (.string bytes) => bytes.length + 1
  | .lit _ => 1
  | .nil => 1
  | .ptr d => uptoBulk d + 1
  | .slice elems spare => uptoBulkAll elems + uptoBulkAll spare + 1
  | .agg parts => uptoBulkAll parts + 1
  | .iface _ d => uptoBulk d + 1
  | .map entries => uptoBulkEntries entries + 1
  | .held _ => 1
def uptoBulkAll {H : Type} : List (DataW H) → Nat
  | [] => 0
  | d :: r => uptoBulk d + uptoBulkAll r
def uptoBulkEntries {H : Type} : List (Lit × DataW H) → Nat
  | [] => 0
  | x :: r => uptoBulkEntry x + uptoBulkEntries r
def uptoBulkEntry {H : Type} : Lit × DataW H → Nat
  | (.string bytes, d) => bytes.length + uptoBulk d + 1
  | (_, d) => uptoBulk d + 1
 end
def uptoSmall : (H : Type) → List (DataW H) → Bool := fun _ ds => decide (uptoBulkAll ds ≤ 1048576)
def OpenSpec.upto (s : _root_.Go.ChangeSpec) : _root_.Go.OpenSpec := { _root_.Go.OpenSpec.ofChange s with cond := some uptoSmall }

/-- 'chitilaw05.BrickPlaces', WHERE WHAT IT READS IS OF BULK AT MOST 1048576: true; the input reads as it did. -/
def brickPlacesUptoRow : OpenClaim := { program := "ytimnmfjbfbkooaagreatdoor", sum := "801de1f2d97ba90426374ebcd48556afcaeddd0db695159abf400fe8143bbbcc", func := "chiti/chitilaw05.BrickPlaces", spec := "brickPlaces", inPlace := ["internal/bytealg.CountString", "internal/bytealg.IndexByteString", "internal/bytealg.IndexString", "internal/abi.NoEscape"], unfollowed := true, recurses := true, named := ["chiti/brick.kinds", "unicode/utf8.first", "unicode/utf8.acceptRanges", "internal/bytealg.MaxLen"], plainKeys := false, apart := false, laid := [("unicode/utf8.acceptRanges", laid_unicode_utf8_acceptRanges), ("chiti/brick.kinds", laid_chiti_brick_kinds), ("unicode/utf8.first", laid_unicode_utf8_first)], narrowed := true }
def BrickPlacesUptoSaid : Prop := brickPlacesUptoRow.holds Tryz.pinned (OpenSpec.upto brickPlacesSpec)

/-- 'chitilaw05.BrickTexts', WHERE WHAT IT READS IS OF BULK AT MOST 1048576: true; the input reads as it did. -/
def brickTextsUptoRow : OpenClaim := { program := "ytimnmfjbfbkooaagreatdoor", sum := "801de1f2d97ba90426374ebcd48556afcaeddd0db695159abf400fe8143bbbcc", func := "chiti/chitilaw05.BrickTexts", spec := "brickTexts", inPlace := ["internal/bytealg.CountString", "internal/bytealg.IndexByteString", "internal/bytealg.IndexString", "internal/abi.NoEscape"], unfollowed := true, recurses := true, named := ["chiti/brick.kinds", "unicode/utf8.first", "unicode/utf8.acceptRanges", "internal/bytealg.MaxLen"], plainKeys := false, apart := false, laid := [("unicode/utf8.acceptRanges", laid_unicode_utf8_acceptRanges), ("chiti/brick.kinds", laid_chiti_brick_kinds), ("unicode/utf8.first", laid_unicode_utf8_first)], narrowed := true }
def BrickTextsUptoSaid : Prop := brickTextsUptoRow.holds Tryz.pinned (OpenSpec.upto brickTextsSpec)

/-- 'chitilaw05.BrickEdges', WHERE WHAT IT READS IS OF BULK AT MOST 1048576: true; the input reads as it did. -/
def brickEdgesUptoRow : OpenClaim := { program := "ytimnmfjbfbkooaagreatdoor", sum := "801de1f2d97ba90426374ebcd48556afcaeddd0db695159abf400fe8143bbbcc", func := "chiti/chitilaw05.BrickEdges", spec := "brickEdges", inPlace := ["internal/bytealg.CountString", "internal/bytealg.IndexByteString", "internal/bytealg.IndexString", "internal/abi.NoEscape"], unfollowed := true, recurses := true, named := ["chiti/brick.kinds", "unicode/utf8.first", "unicode/utf8.acceptRanges", "internal/bytealg.MaxLen"], plainKeys := false, apart := false, laid := [("unicode/utf8.acceptRanges", laid_unicode_utf8_acceptRanges), ("chiti/brick.kinds", laid_chiti_brick_kinds), ("unicode/utf8.first", laid_unicode_utf8_first)], narrowed := true }
def BrickEdgesUptoSaid : Prop := brickEdgesUptoRow.holds Tryz.pinned (OpenSpec.upto brickEdgesSpec)

/-- 'chitilaw05.BrickPuts', WHERE WHAT IT READS IS OF BULK AT MOST 1048576: true; the input reads as it did. -/
def brickPutsUptoRow : OpenClaim := { program := "ytimnmfjbfbkooaagreatdoor", sum := "801de1f2d97ba90426374ebcd48556afcaeddd0db695159abf400fe8143bbbcc", func := "chiti/chitilaw05.BrickPuts", spec := "brickPuts", inPlace := ["internal/bytealg.CountString", "internal/bytealg.IndexByteString", "internal/bytealg.IndexString", "internal/abi.NoEscape"], unfollowed := true, recurses := true, named := ["chiti/brick.kinds", "unicode/utf8.first", "unicode/utf8.acceptRanges", "internal/bytealg.MaxLen"], plainKeys := false, apart := false, laid := [("unicode/utf8.acceptRanges", laid_unicode_utf8_acceptRanges), ("chiti/brick.kinds", laid_chiti_brick_kinds), ("unicode/utf8.first", laid_unicode_utf8_first)], narrowed := true }
def BrickPutsUptoSaid : Prop := brickPutsUptoRow.holds Tryz.pinned (OpenSpec.upto brickPutsSpec)

/-- 'chitilaw05.BrickNames', WHERE WHAT IT READS IS OF BULK AT MOST 1048576: true; the input reads as it did. -/
def brickNamesUptoRow : OpenClaim := { program := "ytimnmfjbfbkooaagreatdoor", sum := "801de1f2d97ba90426374ebcd48556afcaeddd0db695159abf400fe8143bbbcc", func := "chiti/chitilaw05.BrickNames", spec := "brickNames", inPlace := ["internal/bytealg.CountString", "internal/bytealg.IndexByteString", "internal/bytealg.IndexString", "internal/abi.NoEscape"], unfollowed := true, recurses := true, named := ["chiti/brick.kinds", "unicode/utf8.first", "unicode/utf8.acceptRanges", "internal/bytealg.MaxLen"], plainKeys := false, apart := false, laid := [("unicode/utf8.acceptRanges", laid_unicode_utf8_acceptRanges), ("chiti/brick.kinds", laid_chiti_brick_kinds), ("unicode/utf8.first", laid_unicode_utf8_first)], narrowed := true }
def BrickNamesUptoSaid : Prop := brickNamesUptoRow.holds Tryz.pinned (OpenSpec.upto brickNamesSpec)

/-- 'chitilaw05.BrickBorders', WHERE WHAT IT READS IS OF BULK AT MOST 1048576: true; the input reads as it did. -/
def brickBordersUptoRow : OpenClaim := { program := "ytimnmfjbfbkooaagreatdoor", sum := "801de1f2d97ba90426374ebcd48556afcaeddd0db695159abf400fe8143bbbcc", func := "chiti/chitilaw05.BrickBorders", spec := "brickBorders", inPlace := ["internal/bytealg.CountString", "internal/bytealg.IndexByteString", "internal/bytealg.IndexString", "internal/abi.NoEscape"], unfollowed := true, recurses := true, named := ["chiti/brick.kinds", "unicode/utf8.first", "unicode/utf8.acceptRanges", "internal/bytealg.MaxLen"], plainKeys := false, apart := false, laid := [("unicode/utf8.acceptRanges", laid_unicode_utf8_acceptRanges), ("chiti/brick.kinds", laid_chiti_brick_kinds), ("unicode/utf8.first", laid_unicode_utf8_first)], narrowed := true }
def BrickBordersUptoSaid : Prop := brickBordersUptoRow.holds Tryz.pinned (OpenSpec.upto brickBordersSpec)

/-- 'chitilaw05.BrickImages', WHERE WHAT IT READS IS OF BULK AT MOST 1048576: true; the input reads as it did. -/
def brickImagesUptoRow : OpenClaim := { program := "ytimnmfjbfbkooaagreatdoor", sum := "801de1f2d97ba90426374ebcd48556afcaeddd0db695159abf400fe8143bbbcc", func := "chiti/chitilaw05.BrickImages", spec := "brickImages", inPlace := ["internal/bytealg.CountString", "internal/bytealg.IndexByteString", "internal/bytealg.IndexString", "internal/abi.NoEscape"], unfollowed := true, recurses := true, named := ["chiti/brick.kinds", "unicode/utf8.first", "unicode/utf8.acceptRanges", "internal/bytealg.MaxLen"], plainKeys := false, apart := false, laid := [("unicode/utf8.acceptRanges", laid_unicode_utf8_acceptRanges), ("chiti/brick.kinds", laid_chiti_brick_kinds), ("unicode/utf8.first", laid_unicode_utf8_first)], narrowed := true }
def BrickImagesUptoSaid : Prop := brickImagesUptoRow.holds Tryz.pinned (OpenSpec.upto brickImagesSpec)

/-- 'chitilaw05.BrickTurned', WHERE WHAT IT READS IS OF BULK AT MOST 1048576: true; the input reads as it did. -/
def brickTurnedUptoRow : OpenClaim := { program := "ytimnmfjbfbkooaagreatdoor", sum := "801de1f2d97ba90426374ebcd48556afcaeddd0db695159abf400fe8143bbbcc", func := "chiti/chitilaw05.BrickTurned", spec := "brickTurned", inPlace := ["internal/bytealg.CountString", "internal/bytealg.IndexByteString", "internal/bytealg.IndexString", "internal/abi.NoEscape"], unfollowed := true, recurses := true, named := ["chiti/brick.kinds", "unicode/utf8.first", "unicode/utf8.acceptRanges", "internal/bytealg.MaxLen"], plainKeys := false, apart := false, laid := [("unicode/utf8.acceptRanges", laid_unicode_utf8_acceptRanges), ("chiti/brick.kinds", laid_chiti_brick_kinds), ("unicode/utf8.first", laid_unicode_utf8_first)], narrowed := true }
def BrickTurnedUptoSaid : Prop := brickTurnedUptoRow.holds Tryz.pinned (OpenSpec.upto brickTurnedSpec)

end Rows
end Go.Proofs.YtimnmfjbfbkooaaGreatDoor
