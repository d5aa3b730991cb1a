/-
  NARROWER THAN 'FOR EVERY INPUT', by the rows' own cells (each row's printed sentence says how): BrickFits: laid · BrickSpelled: laid.
  DERIVED. THE GIVEN ROWS OF THIS SEAT. 2 by the template 'for every input the law returns true; each argument reads behind the call as it read before'; 0 by the template 'total and deterministic' (their statements: YtimnmfjbfbkooaaDoorTotals.lean).
  GIVEN WITH THE SEED: the statements are not yours to turn. If you find one false, say at which input.
  Laid BY PROGRAM, IN A SANDBOX (cutbox-rows.mjs): the forced cells as the released guide's own fill.sh prints them over the translation 3d931e7c5cac7fea… (all of the seat's roots in one cut). By AI agents, Wed Nov 11 2026. No macro, syntax, notation, axiom, sorry.
-/
import Derived.Test.YtimnmfjbfbkooaaDoorChecked
import GoSem.PinnedTables
import GoSem.Claim
import GoSem.ClaimJoined
import GoSem.ClaimMapViews
import Derived.JoinedTies
import Derived.KernelRfl
namespace Go.Proofs.YtimnmfjbfbkooaaDoor
/- THE CELL 'sum', in the pinned program and in every row, IS THE sha256 OF THE DUMP (.gsa) THAT YtimnmfjbfbkooaaDoorProg.lean LOADS. Nothing in Lean hashes anything: it is a label: what it is worth is what the hold of that sum in a sandbox is worth. -/
noncomputable def Tryd.pinned : Pinned := { name := "ytimnmfjbfbkooaadoor", sum := "3d931e7c5cac7fea13a294edc5e563ad41b6fb41cf56891bf89e8605d7fec966", checked := Tryd.checked }
namespace Rows
def none {H : Type} : Left H := { results := [], args := [] }

/- WHAT THE LISTED PACKAGE-LEVEL VARIABLES READ AS WHEN THE CALL BEGINS. Each datum BY PROGRAM (the guide's laid-datum.mjs) off the statement by which the dump's own 'gosem.cut.vars' lays the variable. In a bare row this is a premise. The card (YtimnmfjbfbkooaaDoorCards.lean) ties it to the program's text. -/
def laid_unicode_utf8_acceptRanges {H : Type} : DataW H := .agg [.agg [.lit (.int .u8 128), .lit (.int .u8 191)], .agg [.lit (.int .u8 160), .lit (.int .u8 191)], .agg [.lit (.int .u8 128), .lit (.int .u8 159)], .agg [.lit (.int .u8 144), .lit (.int .u8 191)], .agg [.lit (.int .u8 128), .lit (.int .u8 143)], .agg [.lit (.int .u8 0), .lit (.int .u8 0)], .agg [.lit (.int .u8 0), .lit (.int .u8 0)], .agg [.lit (.int .u8 0), .lit (.int .u8 0)], .agg [.lit (.int .u8 0), .lit (.int .u8 0)], .agg [.lit (.int .u8 0), .lit (.int .u8 0)], .agg [.lit (.int .u8 0), .lit (.int .u8 0)], .agg [.lit (.int .u8 0), .lit (.int .u8 0)], .agg [.lit (.int .u8 0), .lit (.int .u8 0)], .agg [.lit (.int .u8 0), .lit (.int .u8 0)], .agg [.lit (.int .u8 0), .lit (.int .u8 0)], .agg [.lit (.int .u8 0), .lit (.int .u8 0)]]
def laid_chiti_brick_kinds {H : Type} : DataW H := .agg [.agg [.lit (.string [115, 113, 117, 97, 114, 101]), .lit (.string [102])], .agg [.lit (.string [111, 98, 108, 111, 110, 103]), .lit (.string [102, 102])], .agg [.lit (.string [103, 114, 101, 97, 116]), .lit (.string [102, 102, 47, 102, 102])], .agg [.lit (.string [104, 97, 108, 102]), .lit (.string [51])], .agg [.lit (.string [113, 117, 97, 114, 116, 101, 114]), .lit (.string [49])], .agg [.lit (.string [116, 114, 105, 97, 110, 103, 108, 101]), .lit (.string [54, 99])], .agg [.lit (.string [100, 105, 97, 109, 111, 110, 100]), .lit (.string [54, 99, 47, 51, 57])], .agg [.lit (.string [98, 101, 110, 116]), .lit (.string [102, 48, 47, 102, 102])]]
/-- One of Go's own tables, pinned by name: the form's constant. -/
def laid_unicode_utf8_first : DataW Unit := Go.Pinned.utf8First

/-- 'chitilaw05.BrickFits': WHATEVER THE INPUT: true; the input reads as it did. -/
def brickFitsSpec : ChangeSpec := { name := "brickFits", fn := fun _ => fun
  | [d1, d2, d3] => { results := [.lit (.bool true)], args := [d1, d2, d3] }
  | _ => none }
def brickFitsRow : OpenClaim := { program := "ytimnmfjbfbkooaadoor", sum := "3d931e7c5cac7fea13a294edc5e563ad41b6fb41cf56891bf89e8605d7fec966", func := "chiti/chitilaw05.BrickFits", spec := "brickFits", inPlace := ["internal/bytealg.CountString", "internal/bytealg.IndexByteString", "internal/bytealg.IndexString", "internal/abi.NoEscape"], unfollowed := true, recurses := true, named := ["chiti/brick.kinds", "unicode/utf8.first", "unicode/utf8.acceptRanges", "internal/bytealg.MaxLen"], plainKeys := false, apart := false, laid := [("unicode/utf8.acceptRanges", laid_unicode_utf8_acceptRanges), ("chiti/brick.kinds", laid_chiti_brick_kinds), ("unicode/utf8.first", laid_unicode_utf8_first)] }
def BrickFitsSaid : Prop := brickFitsRow.holds Tryd.pinned (OpenSpec.ofChange brickFitsSpec)

/-- ITS FALSE NEIGHBOUR: 'it returns false'. Refute it at one input. -/
def brickFitsWrong : ChangeSpec := { name := "brickFits", fn := fun _ => fun
  | [d1, d2, d3] => { results := [.lit (.bool false)], args := [d1, d2, d3] }
  | _ => none }
def BrickFitsWrongFalsely : Prop := brickFitsRow.holds Tryd.pinned (OpenSpec.ofChange brickFitsWrong)

/-- 'chitilaw05.BrickSpelled': WHATEVER THE INPUT: true; the input reads as it did. -/
def brickSpelledSpec : ChangeSpec := { name := "brickSpelled", fn := fun _ => fun
  | [d1, d2] => { results := [.lit (.bool true)], args := [d1, d2] }
  | _ => none }
def brickSpelledRow : OpenClaim := { program := "ytimnmfjbfbkooaadoor", sum := "3d931e7c5cac7fea13a294edc5e563ad41b6fb41cf56891bf89e8605d7fec966", func := "chiti/chitilaw05.BrickSpelled", spec := "brickSpelled", inPlace := ["internal/bytealg.CountString", "internal/bytealg.IndexByteString", "internal/bytealg.IndexString", "internal/abi.NoEscape"], unfollowed := true, recurses := true, named := ["chiti/brick.kinds", "unicode/utf8.first", "unicode/utf8.acceptRanges", "internal/bytealg.MaxLen"], plainKeys := false, apart := false, laid := [("unicode/utf8.acceptRanges", laid_unicode_utf8_acceptRanges), ("chiti/brick.kinds", laid_chiti_brick_kinds), ("unicode/utf8.first", laid_unicode_utf8_first)] }
def BrickSpelledSaid : Prop := brickSpelledRow.holds Tryd.pinned (OpenSpec.ofChange brickSpelledSpec)

/-- ITS FALSE NEIGHBOUR: 'it returns false'. Refute it at one input. -/
def brickSpelledWrong : ChangeSpec := { name := "brickSpelled", fn := fun _ => fun
  | [d1, d2] => { results := [.lit (.bool false)], args := [d1, d2] }
  | _ => none }
def BrickSpelledWrongFalsely : Prop := brickSpelledRow.holds Tryd.pinned (OpenSpec.ofChange brickSpelledWrong)

/- THE SECOND FORM. 'bulk': how many values and letters a reading holds, each counted each time it is reached (what is shared counts as often as it is met; a slice's spare places count too). A statement '..UptoSaid' is the law's where the arguments, and the package variables that the reading takes, are together of bulk at most 1048576: NARROWER than '..Said'. Prove '..Said' where nothing that the law and all that it calls make is longer than what came in: it says more and counts as full. Else prove '..UptoSaid'. A law counts once. -/
mutual
def uptoBulk {H : Type} : DataW H → Nat
  | .lit (.string bytes) => bytes.length + 1
  | .lit _ => 1
  | .nil => 1
  | .ptr d => uptoBulk d + 1
  | .slice elems spare => uptoBulkAll elems + uptoBulkAll spare + 1
  | .agg parts => uptoBulkAll parts + 1
  | .iface _ d => uptoBulk d + 1
  | .map entries => uptoBulkEntries entries + 1
  | .held _ => 1
def uptoBulkAll {H : Type} : List (DataW H) → Nat
  | [] => 0
  | d :: r => uptoBulk d + uptoBulkAll r
def uptoBulkEntries {H : Type} : List (Lit × DataW H) → Nat
  | [] => 0
  | x :: r => uptoBulkEntry x + uptoBulkEntries r
def uptoBulkEntry {H : Type} : Lit × DataW H → Nat
  | (.string bytes, d) => bytes.length + uptoBulk d + 1
  | (_, d) => uptoBulk d + 1
 end
def uptoSmall : (H : Type) → List (DataW H) → Bool := fun _ ds => decide (uptoBulkAll ds ≤ 1048576)
def OpenSpec.upto (s : _root_.Go.ChangeSpec) : _root_.Go.OpenSpec := { _root_.Go.OpenSpec.ofChange s with cond := some uptoSmall }

/-- 'chitilaw05.BrickFits', WHERE WHAT IT READS IS OF BULK AT MOST 1048576: true; the input reads as it did. -/
def brickFitsUptoRow : OpenClaim := { program := "ytimnmfjbfbkooaadoor", sum := "3d931e7c5cac7fea13a294edc5e563ad41b6fb41cf56891bf89e8605d7fec966", func := "chiti/chitilaw05.BrickFits", spec := "brickFits", inPlace := ["internal/bytealg.CountString", "internal/bytealg.IndexByteString", "internal/bytealg.IndexString", "internal/abi.NoEscape"], unfollowed := true, recurses := true, named := ["chiti/brick.kinds", "unicode/utf8.first", "unicode/utf8.acceptRanges", "internal/bytealg.MaxLen"], plainKeys := false, apart := false, laid := [("unicode/utf8.acceptRanges", laid_unicode_utf8_acceptRanges), ("chiti/brick.kinds", laid_chiti_brick_kinds), ("unicode/utf8.first", laid_unicode_utf8_first)], narrowed := true }
def BrickFitsUptoSaid : Prop := brickFitsUptoRow.holds Tryd.pinned (OpenSpec.upto brickFitsSpec)

/-- 'chitilaw05.BrickSpelled', WHERE WHAT IT READS IS OF BULK AT MOST 1048576: true; the input reads as it did. -/
def brickSpelledUptoRow : OpenClaim := { program := "ytimnmfjbfbkooaadoor", sum := "3d931e7c5cac7fea13a294edc5e563ad41b6fb41cf56891bf89e8605d7fec966", func := "chiti/chitilaw05.BrickSpelled", spec := "brickSpelled", inPlace := ["internal/bytealg.CountString", "internal/bytealg.IndexByteString", "internal/bytealg.IndexString", "internal/abi.NoEscape"], unfollowed := true, recurses := true, named := ["chiti/brick.kinds", "unicode/utf8.first", "unicode/utf8.acceptRanges", "internal/bytealg.MaxLen"], plainKeys := false, apart := false, laid := [("unicode/utf8.acceptRanges", laid_unicode_utf8_acceptRanges), ("chiti/brick.kinds", laid_chiti_brick_kinds), ("unicode/utf8.first", laid_unicode_utf8_first)], narrowed := true }
def BrickSpelledUptoSaid : Prop := brickSpelledUptoRow.holds Tryd.pinned (OpenSpec.upto brickSpelledSpec)

end Rows
end Go.Proofs.YtimnmfjbfbkooaaDoor
