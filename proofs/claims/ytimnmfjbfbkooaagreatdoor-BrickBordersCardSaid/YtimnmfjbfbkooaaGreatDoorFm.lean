/- format. -/
import Derived.Test.YtimnmfjbfbkooaaGreatDoorSb
namespace Go.Proofs.YtimnmfjbfbkooaaGreatDoor
set_option linter.all false
set_option linter.unusedSimpArgs false
set_option linter.unusedVariables false
open Go.RowKit
attribute [local go_sem] Oper.semAt_some

def digB (n : Nat) : UInt8 := if n < 10 then UInt8.ofNat (48 + n) else UInt8.ofNat (87 + n)
def rowB (g : Grid) (y wd : Nat) : List UInt8 := (List.range wd).map fun x => digB (g (16 * y + x))
/-- The text of the rows below y. -/
def rowsB (g : Grid) (wd : Nat) : Nat → List UInt8
  | 0 => []
  | y + 1 => rowB g y wd ++ (if 0 < y then 47 :: rowsB g wd y else [])
def textG (g : Grid) : List UInt8 := rowsB g (widthG g) (heightG g)
theorem rowB_length (g : Grid) (y wd : Nat) : (rowB g y wd).length = wd := by simp [rowB]
theorem rowsB_length (g : Grid) (wd : Nat) : ∀ h, (rowsB g wd h).length ≤ h * (wd + 1)
  | 0 => by simp [rowsB]
  | y + 1 => by
    have := rowsB_length g wd y
    simp only [rowsB, List.length_append, rowB_length]
    rw [Nat.succ_mul]
    split
    · simp only [List.length_cons]; omega
    · simp only [List.length_nil]; omega

theorem slice_row (b off n : Nat) (hn : n ≤ 16) (W : World) : (Instr.sliceAt 74 (.pointer (some ⟨b, off, none⟩)) none (some (.int .i64 (n : Int))) none).run Tryz.prog W = .ok (.slice (some ⟨b, off, none⟩) n 16) W := by
  have hl : Tryz.prog.arrayLen 74 = 16 := by kernel_rfl
  have he : Tryz.prog.elem 74 = 5 := by kernel_rfl
  rw [run_sliceAt_array_h W 74 ⟨b, off, none⟩ (by rw [hl, he]; exact Tryz.underlying74) .i64 (n : Int) (by omega) (by rw [hl]; omega), he, hl, Tryz.sizeOf5]
  simp [Result.andThen, slicedAt, Addr.add]
theorem index_dig {n : Nat} (hn : n < 16) (W : World) : (Instr.index 9 (.string { data := #[48, 49, 50, 51, 52, 53, 54, 55, 56, 57, 97, 98, 99, 100, 101, 102] }) (.int .u8 (n : Int))).run Tryz.prog W = .ok (.int .u8 ((digB n).toNat : Nat)) W := by
  rcases (by omega : n = 0 ∨ n = 1 ∨ n = 2 ∨ n = 3 ∨ n = 4 ∨ n = 5 ∨ n = 6 ∨ n = 7 ∨ n = 8 ∨ n = 9 ∨ n = 10 ∨ n = 11 ∨ n = 12 ∨ n = 13 ∨ n = 14 ∨ n = 15) with rfl | rfl | rfl | rfl | rfl | rfl | rfl | rfl | rfl | rfl | rfl | rfl | rfl | rfl | rfl | rfl <;> kernel_rfl
theorem rowB_step (g : Grid) (y wd x : Nat) (h : x < wd) : (rowB g y wd).take (x + 1) = (rowB g y wd).take x ++ [digB (g (16 * y + x))] := by
  have hl : x < (rowB g y wd).length := by rw [rowB_length]; exact h
  rw [List.take_succ_eq_append_getElem hl]
  simp [rowB]
theorem byteCells_snoc (l : List UInt8) (b : UInt8) : Lib.byteCells (l ++ [b]) = Lib.byteCells l ++ [.int .u8 (b.toNat : Nat)] := by simp [Lib.byteCells]
set_option maxRecDepth 100000 in
set_option maxHeartbeats 4000000 in
theorem format_any (g : Grid) (hg : okG g) (w : World) :
    Calls Tryz.prog 56 #[gridV g] w fun e w' => e = .returned (.string ⟨(textG g).toArray⟩) ∧ Below w.heap.size w w' := by
  have HG := Lib.hid hg; clear hg
  have hwd := width_le g
  have hht := height_le g
  go_enter Tryz.func56, Tryz.ntmps56
  unfold gridV
  go_wp2_with (refine wpList_load_row rfl 76 _ rfl w.heap.size rfl 76 (gridA g) (0, 0) _ (HasG.new w g) Tryz.underlying76 rfl (by rw [size_gridA]; exact sizeG) ?_)
  have hG0 := HasG.new w g
  have hB0 : Below w.heap.size w (w.alloc (.cells (gridA g) 76)) := (Below.refl _ w).alloc (Nat.le_refl _) _
  have HM := Lib.hid (moved_any g (w.alloc (.cells (gridA g) 76)))
  refine HM.out.mono ?_
  rintro e w1 ⟨rfl, hB1⟩
  have hG1 := hG0.below hB1
  have hBw1 := hB0.trans (hB1.mono hB0.size)
  clear HM hG0 hB0 hB1
  unfold gridV
  go_upto_region 2 with (refine wpList_store_row rfl 76 _ _ rfl w1.heap.size rfl 76 _ (gridA (movedG g)) rfl (World.alloc_heap_new w1 _) (by rw [size_gridA]; exact sizeG) (by rw [gridA_zero, size_gridA, size_gridA]) (gridA_one _) ?_; rw [World.setRow_alloc_new])
  have hG2 := hG1.alloc (.cells (gridA (movedG g)) 76)
  have hBw2 := hBw1.alloc hBw1.size (.cells (gridA (movedG g)) 76)
  revert hG2 hBw2
  clear hG1 hBw1
  generalize w1.alloc (.cells (gridA (movedG g)) 76) = w2
  intro hG2 hBw2
  go_wp2_with fail
  have hbg : w.heap.size < w2.heap.size := hG2.lt
  have hB3 : IsB w2.heap.size w2.heap.size (Lib.byteCells []) (w2.alloc (.cells #[.pointer none, .slice none 0 0] 116)) := .inl ⟨Nat.le_refl _, .slice none 0 0, World.alloc_heap_new w2 _, World.ownsRow_nil _ _ _ 1, by simp [Value.ownBlock]⟩
  have hG3 := hG2.alloc (.cells #[.pointer none, .slice none 0 0] 116)
  have hBw3 := hBw2.alloc hBw2.size (.cells #[.pointer none, .slice none 0 0] 116)
  have hsz3 : w2.heap.size ≤ (w2.alloc (.cells #[.pointer none, .slice none 0 0] 116)).heap.size := by simp
  revert hB3 hG3 hBw3 hsz3
  clear hG2 hBw2
  generalize w2.alloc (.cells #[.pointer none, .slice none 0 0] 116) = w3
  revert hbg
  generalize w2.heap.size = bb
  intro hbg hB3 hG3 hBw3 hsz3
  have H3 := Lib.hid (And.intro hB3 (And.intro hG3 (And.intro hBw3 hsz3)))
  clear hB3 hG3 hBw3 hsz3
  go_loopw [7] (fun u wr => ∃ (n : Nat) (pre : List UInt8), n ≤ heightG g ∧ u = .int .i64 ((n : Int) - 1) ∧ Hid (IsB bb bb (Lib.byteCells pre) wr ∧ HasG wr w.heap.size g ∧ pre ++ rowsB g (widthG g) n = textG g ∧ Below w.heap.size w wr ∧ bb ≤ wr.heap.size)) (fun u _ => (intOf u + 1).toNat)
  case atStart => exact ⟨heightG g, [], Nat.le_refl _, rfl, Lib.hid ⟨H3.out.1, H3.out.2.1, rfl, H3.out.2.2.1, H3.out.2.2.2⟩⟩
  case round =>
    obtain ⟨n, pre, hn, rfl, HR⟩ := hrel
    by_cases h0 : n = 0
    · subst h0
      have hF := HR.out
      rw [rowsB, List.append_nil] at hF
      have HF := Lib.hid hF; clear hF HR
      have HSTR := Lib.hid (Tryz.Builder_String_any bb bb (textG g) wr (by have := HF.out.1; rw [HF.out.2.2.1] at this; exact this) HF.out.2.2.2.2)
      go_wp2_with fail
      refine HSTR.out.mono ?_
      rintro e w5 ⟨rfl, hB5⟩
      have hBF := HF.out.2.2.2.1.trans (hB5.mono (Nat.le_of_lt hbg))
      go_wp2_with fail
      go_ret
      exact ⟨rfl, hBF⟩
    · obtain ⟨y, rfl⟩ : ∃ y, n = y + 1 := ⟨n - 1, by omega⟩
      have hy : y < 16 := by omega
      have e1 : (((y + 1 : Nat) : Int) - 1) = (y : Int) := by omega
      rw [e1]
      clear e1
      have hsl := slice_row w.heap.size (y * 16) (widthG g) hwd wr
      go_wp2_with fail
      clear hsl
      have hpl : pre.length + (widthG g + 1) + 1 ≤ 1000 := by
        have h1 := congrArg List.length HR.out.2.2.1
        have h2 : (textG g).length ≤ heightG g * (widthG g + 1) := rowsB_length g _ _
        have h3 : heightG g * (widthG g + 1) ≤ 16 * 17 := Nat.mul_le_mul hht (by omega)
        rw [List.length_append] at h1
        omega
      go_loopw [27] (fun u wr => ∃ x : Nat, x ≤ widthG g ∧ u = .int .i64 x ∧ Hid (IsB bb bb (Lib.byteCells (pre ++ (rowB g y (widthG g)).take x)) wr ∧ HasG wr w.heap.size g ∧ Below w.heap.size w wr ∧ bb ≤ wr.heap.size)) (fun u _ => widthG g - (intOf u).toNat)
      case atStart => exact ⟨0, by omega, rfl, Lib.hid ⟨by simpa using HR.out.1, HR.out.2.1, HR.out.2.2.2.1, HR.out.2.2.2.2⟩⟩
      case round =>
        obtain ⟨x, hx, rfl, HI⟩ := hrel
        by_cases hlt : x < widthG g
        · have c0 := HI.out.2.1.cell (i := y * 16 + x) (by omega)
          have hix := index_dig (HG.out.1 (y * 16 + x))
          have HWB := Lib.hid (writeByte_any bb bb (Lib.byteCells (pre ++ (rowB g y (widthG g)).take x)) (digB (g (y * 16 + x))).toNat wr HI.out.1 (by rw [Lib.byteCells_length, List.length_append, List.length_take, rowB_length]; omega) HI.out.2.2.2)
          have h16 : g (y * 16 + x) < 16 := HG.out.1 _
          go_wp2_with fail
          refine HWB.out.mono ?_
          rintro e w5 ⟨rfl, hB5, hb5⟩
          have HN : Hid (IsB bb bb (Lib.byteCells (pre ++ (rowB g y (widthG g)).take (x + 1))) w5 ∧ HasG w5 w.heap.size g ∧ Below w.heap.size w w5 ∧ bb ≤ w5.heap.size) := Lib.hid ⟨by
              rw [rowB_step g y _ x hlt, ← List.append_assoc, byteCells_snoc]
              rw [show y * 16 + x = 16 * y + x by omega] at hB5
              exact hB5, (hb5.block _ hbg).trans HI.out.2.1, HI.out.2.2.1.trans (hb5.mono (Nat.le_of_lt hbg)), Nat.le_trans HI.out.2.2.2 hb5.size⟩
          clear hB5 hb5 HWB hix c0
          go_wp2_with fail
          go_roundw
          case rel => exact ⟨x + 1, by omega, by go_num, HN⟩
          case measure => simp [intOf]; omega
        · obtain rfl : x = widthG g := by omega
          have hF := HI.out
          rw [List.take_of_length_le (by rw [rowB_length]; exact Nat.le_refl _)] at hF
          have HF := Lib.hid hF; clear hF HI
          by_cases hy0 : y = 0
          · subst hy0
            go_wp2_with fail
            go_roundw
            case rel => exact ⟨0, pre ++ rowB g 0 (widthG g), Nat.zero_le _, by go_num, Lib.hid ⟨HF.out.1, HF.out.2.1, by rw [← HR.out.2.2.1]; simp [rowsB], HF.out.2.2.1, HF.out.2.2.2⟩⟩
            case measure => simp [intOf]
          · have hy1 : 0 < y := by omega
            have HWB := Lib.hid (writeByte_any bb bb (Lib.byteCells (pre ++ rowB g y (widthG g))) 47 wr HF.out.1 (by rw [Lib.byteCells_length, List.length_append, rowB_length]; omega) HF.out.2.2.2)
            go_wp2_with fail
            refine HWB.out.mono ?_
            rintro e w5 ⟨rfl, hB5, hb5⟩
            have HN : Hid (IsB bb bb (Lib.byteCells ((pre ++ rowB g y (widthG g)) ++ [47])) w5 ∧ HasG w5 w.heap.size g ∧ ((pre ++ rowB g y (widthG g)) ++ [47]) ++ rowsB g (widthG g) y = textG g ∧ Below w.heap.size w w5 ∧ bb ≤ w5.heap.size) := Lib.hid ⟨by
              rw [byteCells_snoc]; exact hB5, (hb5.block _ hbg).trans HF.out.2.1, by rw [← HR.out.2.2.1, rowsB, if_pos hy1]; simp, HF.out.2.2.1.trans (hb5.mono (Nat.le_of_lt hbg)), Nat.le_trans HF.out.2.2.2 hb5.size⟩
            clear hB5 hb5 HWB
            go_wp2_with fail
            go_roundw
            case rel => exact ⟨y, (pre ++ rowB g y (widthG g)) ++ [47], by omega, by go_num, HN⟩
            case measure => simp [intOf]
end Go.Proofs.YtimnmfjbfbkooaaGreatDoor
