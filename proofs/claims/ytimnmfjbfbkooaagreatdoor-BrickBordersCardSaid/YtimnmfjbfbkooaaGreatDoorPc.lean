/- Plain maths for Places: the places as they come. -/
import Derived.Test.YtimnmfjbfbkooaaGreatDoorJo
namespace Go.Proofs.YtimnmfjbfbkooaaGreatDoor
set_option linter.all false
set_option linter.unusedSimpArgs false
set_option linter.unusedVariables false
open Go.RowKit

theorem nowhere_bits : ∀ m : Fin 16, ∀ n : Fin 16, nowhere m.val n.val = !(decide (∀ s : Fin 4, m.val.testBit s.val = true → n.val.testBit s.val = true)) := by decide +kernel
theorem nowhere_iff {m n : Nat} (hm : m < 16) (hn : n < 16) : nowhere m n = false ↔ ∀ s, s < 4 → m.testBit s = true → n.testBit s = true := by
  have := nowhere_bits ⟨m, hm⟩ ⟨n, hn⟩
  simp only at this
  rw [this]
  simp only [Bool.not_eq_false', decide_eq_true_eq]
  exact ⟨fun h s hs => h ⟨s, hs⟩, fun h s => h s.val s.isLt⟩
theorem inG_mem {g h : Grid} (hg : okG g) (hh : okG h) : inG g h = true ↔ ∀ q, memG g q → memG h q := by
  rw [inG, List.all_eq_true]
  constructor
  · intro H q hq
    have hc := cell_mem hq
    obtain ⟨h1, h2, h3, h4, h5, h6, h7⟩ := hq
    have := H _ hc
    simp only [Bool.not_eq_true'] at this
    exact ⟨h1, h2, h3, h4, h5, h6, (nowhere_iff (hg.1 _) (hh.1 _)).1 this q.s.toNat (by omega) h7⟩
  · intro H i hi
    simp only [Bool.not_eq_true']
    refine (nowhere_iff (hg.1 _) (hh.1 _)).2 (fun s hs hb => ?_)
    have hi256 := (mem_cells.1 hi).1
    have hm : memG g ⟨(i % 16 : Nat), (i / 16 : Nat), (s : Nat)⟩ := by
      refine ⟨by simp only; omega, by simp only; omega, by simp only; omega, by simp only; omega, by simp only; omega, by simp only; omega, ?_⟩
      have e : ((16 : Int) * ((i / 16 : Nat) : Int) + ((i % 16 : Nat) : Int)).toNat = i := by omega
      have e2 : ((s : Nat) : Int).toNat = s := by omega
      simp only [e, e2]; exact hb
    have h7 := (H _ hm).2.2.2.2.2.2
    have e : ((16 : Int) * ((i / 16 : Nat) : Int) + ((i % 16 : Nat) : Int)).toNat = i := by omega
    have e2 : ((s : Nat) : Int).toNat = s := by omega
    simp only [e, e2] at h7
    exact h7

theorem list_img {l : List Q} (h : okQ l) (hl : l ≠ []) (w : Way) : listG (imgG (layG l) w) = imgW l w := (image_list h hl w.1 w.2).1
theorem rep_list {g : Grid} (ok : okG g) : RepG g (listG g) :=
  ⟨ok, fun q hq => (memG_in (mem_listG.1 hq)).okS, 0, 0, fun q => by rw [sh_zero, mem_listG]; exact ⟨id, id⟩⟩
theorem normL_img {l : List Q} (hl : l.Nodup) (ol : ∀ q ∈ l, okS q) {w : Way} (hw : w.2 < 4) : normL (imgW l w) = imgW l w := by
  rw [← imgL_id]
  unfold imgW
  rw [imgL_imgL hl ol]
  obtain ⟨b, n⟩ := w
  simp only at hw
  simp only [compW, Bool.false_eq_true, if_false, Bool.false_bne, Nat.zero_add, Nat.mod_eq_of_lt hw]
theorem img_size {l : List Q} (h : okQ l) (hl : l ≠ []) {w : Way} (hw : w.2 < 4) : (widthG (imgG (layG l) w) : Int) = widthL (imgW l w) ∧ (heightG (imgG (layG l) w) : Int) = heightL (imgW l w) := by
  have hok := okG_img (okG_lay h.1) w
  have hr := rep_list hok
  rw [list_img h hl] at hr
  have := hr.width (imgL_ne hl)
  rwa [normL_img (Srt.nodup h.2) (fun q hq => (h.1 q hq).okS) hw] at this
theorem img_room {l : List Q} (h : okQ l) (hl : l ≠ []) {w : Way} (hw : w.2 < 4) {x y : Nat} (hx : x + widthG (imgG (layG l) w) ≤ 16) (hy : y + heightG (imgG (layG l) w) ≤ 16) : ∀ i ∈ cells (imgG (layG l) w), i % 16 + x < 16 ∧ i / 16 + y < 16 := by
  have hs := img_size h hl hw
  refine at_room (okG_img (okG_lay h.1) w) (W := widthL (imgW l w)) (H := heightL (imgW l w)) (fun q hq => ?_) (by omega) (by omega)
  have hm : q ∈ imgW l w := by rw [← list_img h hl]; exact mem_listG.2 hq
  have h1 := maxL_ge (·.x) hm
  have h2 := maxL_ge (·.y) hm
  unfold widthL heightL; omega
theorem in_place {l g : List Q} (h : okQ l) (hl : l ≠ []) (hg : okQ g) {w : Way} (hw : w.2 < 4) {x y : Nat} (hx : x + widthG (imgG (layG l) w) ≤ 16) (hy : y + heightG (imgG (layG l) w) ≤ 16) :
    inG (atG (imgG (layG l) w) x y) (layG g) = subL ((imgW l w).map (sh x y)) g := by
  have hr := img_room h hl hw hx hy
  have hok := okG_at (okG_img (okG_lay h.1) w) hr
  rw [Bool.eq_iff_iff, inG_mem hok (okG_lay hg.1), subL, List.all_eq_true]
  have hm : ∀ q, memG (atG (imgG (layG l) w) x y) q ↔ q ∈ (imgW l w).map (sh x y) := fun q => by rw [← mem_listG, list_at hr, list_img h hl]
  constructor
  · intro H q hq
    simpa using (memG_lay hg.1 q).1 (H q ((hm q).2 hq))
  · intro H q hq
    exact (memG_lay hg.1 q).2 (by simpa using H q ((hm q).1 hq))

/-! ### As they come -/
theorem freshL_snoc {α β : Type} [DecidableEq β] (f : α → β) (a : α) : ∀ (l : List α) (seen : List β), freshL f (l ++ [a]) seen = freshL f l seen ++ (if f a ∈ seen ++ l.map f then [] else [a])
  | [], seen => by simp [freshL]
  | b :: l, seen => by
    simp only [List.cons_append, freshL]
    split
    · rename_i hb
      rw [freshL_snoc f a l seen]
      have : (f a ∈ seen ++ l.map f) ↔ (f a ∈ seen ++ (b :: l).map f) := by
        simp only [List.map_cons, List.mem_append, List.mem_cons]
        constructor
        · rintro (h | h)
          · exact .inl h
          · exact .inr (.inr h)
        · rintro (h | h | h)
          · exact .inl h
          · exact .inl (h ▸ hb)
          · exact .inr h
      simp only [this]
    · rw [freshL_snoc f a l]
      simp [List.append_assoc]
def atW (l g : List Q) (w : Way) : List Plc := (posL (imgW l w) g).map fun p => ⟨w.1, w.2, p.1, p.2⟩
def partW (l g : List Q) (k : Nat) : List Plc := (freshL (imgW l) ((List.range k).map wayN) []).flatMap (atW l g)
theorem partW_all (l g : List Q) : partW l g 8 = placesL l g := by
  unfold partW placesL freshW atW
  rw [ways8_eq]
theorem partW_old {l g : List Q} {k : Nat} (h : ∃ i, i < k ∧ imgW l (wayN i) = imgW l (wayN k)) : partW l g (k + 1) = partW l g k := by
  unfold partW
  rw [List.range_succ, List.map_append, List.map_cons, List.map_nil, freshL_snoc, if_pos]
  · simp
  · obtain ⟨i, hi, e⟩ := h
    simp only [List.nil_append, List.mem_map, List.mem_range]
    exact ⟨_, ⟨i, hi, rfl⟩, e⟩
theorem partW_new {l g : List Q} {k : Nat} (h : ¬ ∃ i, i < k ∧ imgW l (wayN i) = imgW l (wayN k)) : partW l g (k + 1) = partW l g k ++ atW l g (wayN k) := by
  unfold partW
  rw [List.range_succ, List.map_append, List.map_cons, List.map_nil, freshL_snoc, if_neg]
  · simp
  · simp only [List.nil_append, List.mem_map, List.mem_range]
    rintro ⟨_, ⟨i, hi, rfl⟩, e⟩
    exact h ⟨i, hi, e⟩
def rowP (l g : List Q) (w : Way) (y i : Nat) : List Plc := ((List.range i).filter (fun (x : Nat) => subL ((imgW l w).map (sh (x : Int) (y : Int))) g)).map fun x => ⟨w.1, w.2, x, y⟩
def rowsP (l g : List Q) (w : Way) (W j : Nat) : List Plc := (List.range j).flatMap fun y => rowP l g w y W
theorem rowP_zero (l g : List Q) (w : Way) (y : Nat) : rowP l g w y 0 = [] := rfl
theorem rowP_step (l g : List Q) (w : Way) (y i : Nat) : rowP l g w y (i + 1) = rowP l g w y i ++ (if subL ((imgW l w).map (sh (i : Int) (y : Int))) g = true then [⟨w.1, w.2, i, y⟩] else []) := by
  unfold rowP
  rw [List.range_succ, List.filter_append, List.map_append]
  congr 1
  simp only [List.filter_cons, List.filter_nil]
  split <;> rfl
theorem rowsP_step (l g : List Q) (w : Way) (W j : Nat) : rowsP l g w W (j + 1) = rowsP l g w W j ++ rowP l g w j W := by
  unfold rowsP
  rw [List.range_succ, List.flatMap_append]; simp
theorem rowsP_all (l g : List Q) (w : Way) : rowsP l g w (16 - (widthL (imgW l w)).toNat + 1) (16 - (heightL (imgW l w)).toNat + 1) = atW l g w := by
  unfold rowsP rowP atW posL
  rw [List.map_flatMap]
  congr 1
  funext y
  rw [List.map_map]; rfl
end Go.Proofs.YtimnmfjbfbkooaaGreatDoor
