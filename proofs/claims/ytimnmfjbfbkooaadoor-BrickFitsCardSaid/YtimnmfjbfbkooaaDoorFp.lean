/- Plain law of BrickFits. -/
import Derived.Test.YtimnmfjbfbkooaaDoorBn
namespace Go.Proofs.YtimnmfjbfbkooaaDoor
set_option linter.all false
set_option linter.unusedSimpArgs false
set_option linter.unusedVariables false
open Go.RowKit

theorem freshW_lt {l : List Q} {w : Way} (h : w ∈ freshW l) : w.2 < 4 := ways8_lt.1 (freshL_mem h).1
theorem img_le {l : List Q} (hc : checkN l = 0) (b : Bool) {n : Nat} (hn : n < 4) : (1 ≤ widthL (imgL b n l) ∧ widthL (imgL b n l) ≤ 16) ∧ 1 ≤ heightL (imgL b n l) ∧ heightL (imgL b n l) ≤ 16 := by
  obtain ⟨h, hl, _⟩ := checkN_ok hc
  have hs := img_size h hl (w := (b, n)) hn
  have h1 := width_le (imgG (layG l) (b, n))
  have h2 := height_le (imgG (layG l) (b, n))
  have e1 : widthL (imgL b n l) = widthL (imgW l (b, n)) := rfl
  have e2 : heightL (imgL b n l) = heightL (imgW l (b, n)) := rfl
  obtain ⟨c1, c2⟩ := img_corner hl b n
  have hne : imgL b n l ≠ [] := imgL_ne hl
  have a1 : (1 : Int) ≤ widthL (imgL b n l) := by
    obtain ⟨q, hq⟩ := List.exists_mem_of_ne_nil _ hne
    have := minL_le (·.x) hq
    have := maxL_ge (·.x) hq
    unfold leftL at c1; unfold widthL; omega
  have a2 : (1 : Int) ≤ heightL (imgL b n l) := by
    obtain ⟨q, hq⟩ := List.exists_mem_of_ne_nil _ hne
    have := minL_le (·.y) hq
    have := maxL_ge (·.y) hq
    unfold lowL at c2; unfold heightL; omega
  omega
theorem put_place {l g : List Q} (hc : checkN l = 0) {p : Plc} (hp : p ∈ placesL l g) : putC l p.m p.t p.x p.y = (putP l p, 0) ∧ (putP l p).length = l.length ∧ ∀ q ∈ putP l p, q ∈ g := by
  obtain ⟨h1, h2⟩ := mem_placesL.1 hp
  have ht := freshW_lt h1
  obtain ⟨h3, h4, h5⟩ := mem_posL.1 h2
  obtain ⟨m, t, x, y⟩ := p
  simp only at ht h3 h4 h5
  have hw := img_le hc m ht
  have hf : fitsP l m t x y := by
    refine ⟨by omega, by omega, by omega, ?_, ?_⟩ <;> simp only [Int.toNat_natCast] <;> omega
  refine ⟨?_, by simp [putP, length_imgL], fun q hq => ?_⟩
  · rw [putC, if_neg (fun h => h hc), if_pos hf]; rfl
  · obtain ⟨r, hr, rfl⟩ := List.mem_map.1 hq; exact h5 r hr
theorem img_in {l : List Q} (hc : checkN l = 0) (b : Bool) {n : Nat} (hn : n < 4) : checkN (imgL b n l) = 0 := by
  obtain ⟨h, hl, hlen⟩ := checkN_ok hc
  obtain ⟨⟨a1, a2⟩, a3, a4⟩ := img_le hc b hn
  obtain ⟨c1, c2⟩ := img_corner hl b n
  have ol : ∀ q ∈ l, okS q := fun q hq => (h.1 q hq).okS
  have hin : ∀ q ∈ imgL b n l, inQ q := fun q hq => by
    have b1 := minL_le (·.x) hq
    have b2 := minL_le (·.y) hq
    have b3 := maxL_ge (·.x) hq
    have b4 := maxL_ge (·.y) hq
    have b5 := okS_imgL ol b n q hq
    unfold leftL at c1; unfold lowL at c2; unfold widthL at a2; unfold heightL at a4; unfold okS at b5
    unfold inQ
    omega
  unfold checkN
  rw [if_neg (by rw [length_imgL]; omega), if_pos ⟨⟨hin, srt_imgL (Srt.nodup h.2) ol b n⟩, imgL_ne hl⟩]
theorem put_corner {l : List Q} (hc : checkN l = 0) (b : Bool) {n : Nat} (hn : n < 4) : putC l b n 0 0 = (imgL b n l, 0) := by
  have hw := img_le hc b hn
  have hf : fitsP l b n 0 0 := by
    refine ⟨by omega, by omega, by omega, ?_, ?_⟩ <;> simp only [Int.toNat_natCast] <;> omega
  have e : sh 0 0 = id := by funext q; rw [sh_zero]; rfl
  rw [putC, if_neg (fun h => h hc), if_pos hf, e, List.map_id]; rfl
/-- An image has as many places, and a shape fits into itself at one. -/
theorem fits_image {l g : List Q} (hc : checkN l = 0) (hg : checkN g = 0) (b : Bool) {n : Nat} (hn : n < 4) : (placesC (imgL b n l) g).2 = 0 ∧ (placesC (imgL b n l) g).1.length = (placesL l g).length := by
  obtain ⟨h, hl, _⟩ := checkN_ok hc
  have hz : checks [imgL b n l, g] = 0 := by simp [checks, img_in hc b hn, hg]
  rw [placesC, if_neg (fun h => h hz)]
  exact ⟨rfl, placesL_img (Srt.nodup h.2) (fun q hq => (h.1 q hq).okS) g b hn⟩
theorem fits_self {l : List Q} (hc : checkN l = 0) : (placesC l l).2 = 0 ∧ (placesC l l).1.length = 1 := by
  obtain ⟨h, hl, _⟩ := checkN_ok hc
  have hz : checks [l, l] = 0 := by simp [checks, hc]
  rw [placesC, if_neg (fun h => h hz)]
  exact ⟨rfl, placesL_self h hl⟩
theorem fits_ok {l g : List Q} (hc : checkN l = 0) (hg : checkN g = 0) : placesC l g = (placesL l g, 0) := by
  have hz : checks [l, g] = 0 := by simp [checks, hc, hg]
  rw [placesC, if_neg (fun h => h hz)]
/-- Two places of a list differ in what they put. -/
theorem place_ne {l g : List Q} (hl : l ≠ []) {i j : Nat} {p r : Plc} (hi : (placesL l g)[i]? = some p) (hj : (placesL l g)[j]? = some r) (hne : i ≠ j) : putP l p ≠ putP l r := fun e => by
  have h := putP_inj hl (List.mem_of_getElem? hi) (List.mem_of_getElem? hj) e
  subst h
  obtain ⟨a, ea⟩ := List.getElem?_eq_some_iff.1 hi
  obtain ⟨b, eb⟩ := List.getElem?_eq_some_iff.1 hj
  exact hne ((List.getElem_inj (placesL_nodup l g)).1 (ea.trans eb.symm))
/-- How many places there are at most. -/
theorem length_flatMap_le {α β : Type} (f : α → List β) (n : Nat) : ∀ (l : List α), (∀ a ∈ l, (f a).length ≤ n) → (l.flatMap f).length ≤ n * l.length
  | [], _ => by simp
  | a :: l, h => by
    have h1 := length_flatMap_le f n l (fun b hb => h b (by simp [hb]))
    have h2 := h a (by simp)
    simp only [List.flatMap_cons, List.length_append, List.length_cons]
    rw [Nat.mul_add, Nat.mul_one]; omega
theorem posL_le (I g : List Q) : (posL I g).length ≤ 289 := by
  unfold posL
  have h := length_flatMap_le (fun (y : Nat) => ((List.range (16 - (widthL I).toNat + 1)).filter (fun (x : Nat) => subL (I.map (sh (x : Int) (y : Int))) g)).map (fun (x : Nat) => (x, y))) 17 (List.range (16 - (heightL I).toNat + 1)) (fun y _ => by
    rw [List.length_map]
    have := List.length_filter_le (fun (x : Nat) => subL (I.map (sh (x : Int) (y : Int))) g) (List.range (16 - (widthL I).toNat + 1))
    rw [List.length_range] at this; omega)
  rw [List.length_range] at h
  have : 17 * (16 - (heightL I).toNat + 1) ≤ 17 * 17 := Nat.mul_le_mul_left _ (by omega)
  omega
theorem placesL_le (l g : List Q) : (placesL l g).length ≤ 2312 := by
  have hw : (freshW l).length ≤ 8 := by
    have : ∀ (ws : List Way) (seen : List (List Q)), (freshL (imgW l) ws seen).length ≤ ws.length := by
      intro ws
      induction ws with
      | nil => intro seen; simp [freshL]
      | cons a ws ih =>
        intro seen
        unfold freshL
        split
        · have := ih seen; simp; omega
        · have := ih (seen ++ [imgW l a]); simp; omega
    exact this ways8 []
  have h := length_flatMap_le (fun (w : Way) => (posL (imgW l w) g).map fun p => (⟨w.1, w.2, p.1, p.2⟩ : Plc)) 289 (freshW l) (fun w _ => by rw [List.length_map]; exact posL_le _ _)
  have : 289 * (freshW l).length ≤ 289 * 8 := Nat.mul_le_mul_left _ hw
  show ((freshW l).flatMap fun w => (posL (imgW l w) g).map fun p => (⟨w.1, w.2, p.1, p.2⟩ : Plc)).length ≤ 2312
  omega
end Go.Proofs.YtimnmfjbfbkooaaDoor
