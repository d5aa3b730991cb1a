/- Plain law of BrickSpelled and BrickFits. -/
import Derived.Test.YtimnmfjbfbkooaaGreatDoorKw
namespace Go.Proofs.YtimnmfjbfbkooaaGreatDoor
set_option linter.all false
set_option linter.unusedSimpArgs false
set_option linter.unusedVariables false
open Go.RowKit

theorem mem_of_ne {l : List Q} (h : okQ l) (hl : l ≠ []) : ∃ q, memG (layG l) q := by
  obtain ⟨q, hq⟩ := List.exists_mem_of_ne_nil l hl
  exact ⟨q, (memG_lay h.1 q).2 hq⟩
theorem corner_lay {l : List Q} (h : okQ l) (hl : l ≠ []) (hn : normL l = l) : movedG (layG l) = layG l := by
  have hr : RepG (layG l) l := rep_lay h.1
  exact listG_inj (okG_moved (okG_lay h.1)) (okG_lay h.1) (by rw [hr.list hl (Srt.nodup h.2), lay_list h, hn])
theorem text_len {g : Grid} : (textG g).length ≤ 272 := by
  have h1 := rowsB_length g (widthG g) (heightG g)
  have h2 : heightG g * (widthG g + 1) ≤ 16 * 17 := Nat.mul_le_mul (height_le g) (by have := width_le g; omega)
  exact Nat.le_trans h1 h2
/-- What is written of a shape in the corner is read as that shape. -/
theorem parse_format {l : List Q} (hc : checkN l = 0) (hn : normL l = l) : formatC l = (textG (layG l), 0) ∧ parseC (textG (layG l)) = (l, 0) := by
  obtain ⟨h, hl, _⟩ := checkN_ok hc
  obtain ⟨_, hg, hp⟩ := parse_text (okG_lay h.1) (mem_of_ne h hl) (corner_lay h hl hn)
  refine ⟨by rw [formatC, if_neg (fun h => h hc), if_pos hn], ?_⟩
  rw [parseC, if_neg (by have := text_len (g := layG l); omega), hp, lay_list h, if_pos ⟨hg, hc, rfl⟩]
/-- What is read without an error is what is written, and is in the corner. -/
theorem format_parse {s : List UInt8} {l : List Q} (h : parseC s = (l, 0)) : checkN l = 0 ∧ normL l = l ∧ formatC l = (s, 0) := by
  unfold parseC at h
  split at h
  · cases h
  · split at h
    · rename_i _ hcond
      obtain ⟨hg, hc, ht⟩ := hcond
      simp only [Prod.mk.injEq, and_true] at h
      subst h
      have ok : okG (parseG s) := rdG_ok hg.1 _ _
      obtain ⟨hok, hl, _⟩ := checkN_ok hc
      have hne : ∃ q, memG (parseG s) q := by
        obtain ⟨q, hq⟩ := List.exists_mem_of_ne_nil _ hl
        exact ⟨q, mem_listG.1 hq⟩
      have hm := parse_corner hg hne ht
      have hlay := list_lay ok
      have hn : normL (listG (parseG s)) = listG (parseG s) := by
        have hr : RepG (layG (listG (parseG s))) (listG (parseG s)) := rep_lay hok.1
        have := hr.list hl (Srt.nodup hok.2)
        rw [hlay, hm] at this
        exact this.symm
      refine ⟨hc, hn, ?_⟩
      rw [formatC, if_neg (fun h => h hc), if_pos hn, hlay, ht]
    · cases h
theorem parse_err {s : List UInt8} (h : (parseC s).2 ≠ 0) : (parseC s).1 = [] := by
  unfold parseC at *
  split at h
  · rw [if_pos (by assumption)]
  · rename_i h1
    rw [if_neg h1]
    split at h
    · exact absurd rfl h
    · rename_i h2; rw [if_neg h2]
end Go.Proofs.YtimnmfjbfbkooaaGreatDoor
