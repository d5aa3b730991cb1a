/- Plain maths: the text of a shape. -/
import Derived.Lib.SplitLaws
import Derived.Test.YtimnmfjbfbkooaaGreatDoorFo
namespace Go.Proofs.YtimnmfjbfbkooaaGreatDoor
set_option linter.all false
set_option linter.unusedSimpArgs false
set_option linter.unusedVariables false
open Go.RowKit

/-! ### Splitting at the strokes -/
def spl : List UInt8 → List (List UInt8)
  | [] => [[]]
  | b :: l => if b = 47 then [] :: spl l else match spl l with | [] => [[b]] | r :: rs => (b :: r) :: rs
theorem spl_ne : ∀ l, spl l ≠ []
  | [] => by simp [spl]
  | b :: l => by
    unfold spl
    split
    · simp
    · split <;> simp
theorem split_spl : ∀ s : List UInt8, Lib.splitK [47] 0 (Lib.count s [47]) s = spl s
  | [] => by rw [Lib.count_one]; simp [Lib.splitK, spl]
  | b :: l => by
    have ih := split_spl l
    by_cases hb : b = 47
    · subst hb
      rw [Lib.count_cons_eq, Nat.add_comm]
      have hix : Lib.index (47 :: l) [47] = 0 := by rw [Lib.index]; simp [List.isPrefixOf]
      simp only [Lib.splitK, hix]
      simp only [spl, if_true]
      rw [← ih]
      simp
    · rw [Lib.count_cons_ne b 47 l hb]
      have hp : ([47] : List UInt8).isPrefixOf (b :: l) = false := by simp [List.isPrefixOf, Ne.symm hb]
      have hix : Lib.index (b :: l) [47] = if Lib.index l [47] == -1 then -1 else Lib.index l [47] + 1 := by rw [Lib.index, hp]; simp
      simp only [spl, if_neg hb]
      by_cases hm : Lib.index l [47] = -1
      · rw [Lib.count_miss hm] at ih ⊢
        rw [← ih]
        simp [Lib.splitK]
      · have hge := Lib.index_ge l [47]
        obtain ⟨j, hj⟩ : ∃ j : Nat, Lib.index l [47] = j := ⟨(Lib.index l [47]).toNat, by omega⟩
        have hix' : Lib.index (b :: l) [47] = ((j + 1 : Nat) : Int) := by rw [hix, if_neg (fun e => hm (beq_iff_eq.1 e)), hj]; omega
        rw [Lib.count_hit (by simp) hj, Nat.add_comm 1] at ih ⊢
        have hn1 : ¬ ((((j + 1 : Nat) : Int)) == -1) = true := fun e => by have := beq_iff_eq.1 e; omega
        have hn2 : ¬ (((j : Nat) : Int) == -1) = true := fun e => by have := beq_iff_eq.1 e; omega
        simp only [Lib.splitK, hix', hj, if_neg hn1, if_neg hn2, Int.toNat_natCast] at ih ⊢
        rw [← ih]
        simp [Nat.add_assoc]
theorem spl_one : ∀ {r : List UInt8}, 47 ∉ r → spl r = [r]
  | [], _ => rfl
  | b :: l, h => by
    simp only [List.mem_cons, not_or] at h
    simp only [spl, if_neg (Ne.symm h.1), spl_one h.2]
theorem spl_cons : ∀ {r : List UInt8} (t : List UInt8), 47 ∉ r → spl (r ++ 47 :: t) = r :: spl t
  | [], t, _ => by simp [spl]
  | b :: l, t, h => by
    simp only [List.mem_cons, not_or] at h
    simp only [List.cons_append, spl, if_neg (Ne.symm h.1), spl_cons t h.2]
theorem digB_ne {n : Nat} (h : n < 16) : digB n ≠ 47 := by
  rcases (by omega : n = 0 ∨ n = 1 ∨ n = 2 ∨ n = 3 ∨ n = 4 ∨ n = 5 ∨ n = 6 ∨ n = 7 ∨ n = 8 ∨ n = 9 ∨ n = 10 ∨ n = 11 ∨ n = 12 ∨ n = 13 ∨ n = 14 ∨ n = 15) with rfl | rfl | rfl | rfl | rfl | rfl | rfl | rfl | rfl | rfl | rfl | rfl | rfl | rfl | rfl | rfl <;> decide
theorem rowB_ne {g : Grid} (ok : okG g) (y wd : Nat) : 47 ∉ rowB g y wd := by
  intro h
  obtain ⟨x, _, e⟩ := List.mem_map.1 h
  exact digB_ne (ok.1 _) e
theorem spl_rows {g : Grid} (ok : okG g) (wd : Nat) : ∀ h, 1 ≤ h → spl (rowsB g wd h) = (List.range h).reverse.map (fun y => rowB g y wd)
  | 0, h => absurd h (by omega)
  | y + 1, _ => by
    rw [List.range_succ, List.reverse_append, List.reverse_singleton, List.singleton_append, List.map_cons]
    simp only [rowsB]
    by_cases hy : 0 < y
    · rw [if_pos hy, spl_cons _ (rowB_ne ok y wd), spl_rows ok wd y hy]
    · obtain rfl : y = 0 := by omega
      rw [if_neg hy, List.append_nil, spl_one (rowB_ne ok 0 wd)]
      simp

/-! ### Reading -/
def digs : List UInt8 := [48, 49, 50, 51, 52, 53, 54, 55, 56, 57, 97, 98, 99, 100, 101, 102]
def rdC (c : UInt8) : Int := Lib.indexByte digs c
theorem rdC_dig {n : Nat} (h : n < 16) : rdC (digB n) = n := by
  rcases (by omega : n = 0 ∨ n = 1 ∨ n = 2 ∨ n = 3 ∨ n = 4 ∨ n = 5 ∨ n = 6 ∨ n = 7 ∨ n = 8 ∨ n = 9 ∨ n = 10 ∨ n = 11 ∨ n = 12 ∨ n = 13 ∨ n = 14 ∨ n = 15) with rfl | rfl | rfl | rfl | rfl | rfl | rfl | rfl | rfl | rfl | rfl | rfl | rfl | rfl | rfl | rfl <;> decide
theorem indexByte_lt' : ∀ (l : List UInt8) (c : UInt8), Lib.indexByte l c < (l.length : Int) ∨ l = []
  | [], _ => .inr rfl
  | b :: l, c => by
    refine .inl ?_
    unfold Lib.indexByte
    split
    · simp <;> omega
    · split
      · simp <;> omega
      · rename_i h1 h2
        rcases indexByte_lt' l c with h | rfl
        · simp <;> omega
        · simp [Lib.indexByte] at h2
theorem rdC_lt (c : UInt8) : rdC c < 16 := by
  rcases indexByte_lt' digs c with h | h
  · exact h
  · cases h
theorem rdC_ge (c : UInt8) : -1 ≤ rdC c := Lib.indexByte_ge _ _
/-- What is read when the rows before k and the first x of row k are read. -/
def rdG (rows : List (List UInt8)) (k x : Nat) : Grid := fun i =>
  if i / 16 < rows.length ∧ i % 16 < (rows.getD (rows.length - 1 - i / 16) []).length ∧ (rows.length - 1 - i / 16 < k ∨ rows.length - 1 - i / 16 = k ∧ i % 16 < x) then (rdC ((rows.getD (rows.length - 1 - i / 16) []).getD (i % 16) 0)).toNat else 0
def goodR (rows : List (List UInt8)) : Prop := rows.length ≤ 16 ∧ ∀ r ∈ rows, r.length ≤ 16 ∧ ∀ c ∈ r, 0 ≤ rdC c
instance (rows : List (List UInt8)) : Decidable (goodR rows) := by unfold goodR; infer_instance
def parseG (s : List UInt8) : Grid := rdG (spl s) (spl s).length 0
theorem rdG_zero (rows : List (List UInt8)) : rdG rows 0 0 = zeroG := by
  funext i; unfold rdG zeroG
  rw [if_neg (by omega)]
theorem rdG_ok {rows : List (List UInt8)} (h : rows.length ≤ 16) (k x : Nat) : okG (rdG rows k x) := by
  constructor
  · intro i; unfold rdG
    split
    · have := rdC_lt ((rows.getD (rows.length - 1 - i / 16) []).getD (i % 16) 0); omega
    · decide
  · intro i hi; unfold rdG
    rw [if_neg (by omega)]
theorem rdG_next {rows : List (List UInt8)} {k : Nat} {r : List UInt8} (h : rows[k]? = some r) : rdG rows k r.length = rdG rows (k + 1) 0 := by
  have hk := (List.getElem?_eq_some_iff.1 h).1
  have hd : rows.getD k [] = r := by simp [List.getD_eq_getElem?_getD, h]
  funext i; unfold rdG
  by_cases hc : rows.length - 1 - i / 16 = k
  · rw [hc, hd]
    have : (i / 16 < rows.length ∧ i % 16 < r.length ∧ (k < k ∨ k = k ∧ i % 16 < r.length)) ↔ (i / 16 < rows.length ∧ i % 16 < r.length ∧ (k < k + 1 ∨ k = k + 1 ∧ i % 16 < 0)) := by omega
    exact ite_congr (propext this) (fun _ => rfl) (fun _ => rfl)
  · have : (i / 16 < rows.length ∧ i % 16 < (rows.getD (rows.length - 1 - i / 16) []).length ∧ (rows.length - 1 - i / 16 < k ∨ rows.length - 1 - i / 16 = k ∧ i % 16 < r.length)) ↔
        (i / 16 < rows.length ∧ i % 16 < (rows.getD (rows.length - 1 - i / 16) []).length ∧ (rows.length - 1 - i / 16 < k + 1 ∨ rows.length - 1 - i / 16 = k + 1 ∧ i % 16 < 0)) := by omega
    exact ite_congr (propext this) (fun _ => rfl) (fun _ => rfl)
theorem rdG_step {rows : List (List UInt8)} {k x : Nat} {r : List UInt8} {c : UInt8} (h : rows[k]? = some r) (hc : r[x]? = some c) (hx : r.length ≤ 16) : upd (rdG rows k x) (16 * (rows.length - 1 - k) + x) (rdC c).toNat = rdG rows k (x + 1) := by
  have hk := (List.getElem?_eq_some_iff.1 h).1
  have hxl := (List.getElem?_eq_some_iff.1 hc).1
  have hd : rows.getD k [] = r := by simp [List.getD_eq_getElem?_getD, h]
  have hd2 : r.getD x 0 = c := by simp [List.getD_eq_getElem?_getD, hc]
  funext i; unfold upd
  by_cases hi : i = 16 * (rows.length - 1 - k) + x
  · rw [if_pos hi]
    have e1 : i / 16 = rows.length - 1 - k := by omega
    have e2 : i % 16 = x := by omega
    have e3 : rows.length - 1 - (rows.length - 1 - k) = k := by omega
    unfold rdG
    rw [e1, e2, e3, hd, hd2, if_pos (by omega)]
  · rw [if_neg hi]
    unfold rdG
    have : (i / 16 < rows.length ∧ i % 16 < (rows.getD (rows.length - 1 - i / 16) []).length ∧ (rows.length - 1 - i / 16 < k ∨ rows.length - 1 - i / 16 = k ∧ i % 16 < x)) ↔
        (i / 16 < rows.length ∧ i % 16 < (rows.getD (rows.length - 1 - i / 16) []).length ∧ (rows.length - 1 - i / 16 < k ∨ rows.length - 1 - i / 16 = k ∧ i % 16 < x + 1)) := by omega
    exact ite_congr (propext this) (fun _ => rfl) (fun _ => rfl)
def parseC (s : List UInt8) : List Q × Nat :=
  if 272 < s.length then ([], 5) else if goodR (spl s) ∧ checkN (listG (parseG s)) = 0 ∧ textG (parseG s) = s then (listG (parseG s), 0) else ([], 4)

/-! ### Both ways -/
theorem cell_zero {g : Grid} (ok : okG g) {i : Nat} (h : ∀ s : Int, ¬ memG g ⟨(i % 16 : Nat), (i / 16 : Nat), s⟩) : g i = 0 := by
  by_cases hi : i < 256
  · by_cases h0 : g i = 0
    · exact h0
    · obtain ⟨s, hs⟩ := cell_some ok (mem_cells.2 ⟨hi, h0⟩)
      exact absurd hs (h s)
  · exact ok.2 i (by omega)
theorem height_pos {g : Grid} (ok : okG g) (hne : ∃ q, memG g q) : 1 ≤ heightG g := by
  obtain ⟨⟨q, hq, e⟩, _⟩ := height_of ok hne
  have := hq.2.2.1
  omega
/-- The text of a grid in the corner is read as that grid. -/
theorem parse_text {g : Grid} (ok : okG g) (hne : ∃ q, memG g q) (hc : movedG g = g) : spl (textG g) = (List.range (heightG g)).reverse.map (fun y => rowB g y (widthG g)) ∧ goodR (spl (textG g)) ∧ parseG (textG g) = g := by
  have hh := height_pos ok hne
  have hs : spl (textG g) = (List.range (heightG g)).reverse.map (fun y => rowB g y (widthG g)) := spl_rows ok _ _ hh
  have hlen : (spl (textG g)).length = heightG g := by rw [hs]; simp
  have hget : ∀ y, y < heightG g → (spl (textG g)).getD (heightG g - 1 - y) [] = rowB g y (widthG g) := fun y hy => by
    rw [hs, List.getD_eq_getElem?_getD, List.getElem?_map, List.getElem?_reverse (by simp; omega)]
    simp only [List.length_range]
    rw [List.getElem?_range (by omega)]
    simp only [Option.map_some, Option.getD_some]
    congr 1; omega
  have hin : ∀ q, memG g q → q.x + 1 ≤ widthG g ∧ q.y + 1 ≤ heightG g := fun q hq => by
    rw [← hc] at hq
    exact ⟨(width_of ok hne).2 q hq, (height_of ok hne).2 q hq⟩
  refine ⟨hs, ⟨by rw [hlen]; exact height_le g, fun r hr => ?_⟩, ?_⟩
  · rw [hs] at hr
    obtain ⟨y, _, rfl⟩ := List.mem_map.1 hr
    refine ⟨by rw [rowB_length]; exact width_le g, fun c hc => ?_⟩
    obtain ⟨x, _, rfl⟩ := List.mem_map.1 hc
    rw [rdC_dig (ok.1 _)]; omega
  · funext i
    unfold parseG rdG
    rw [hlen]
    by_cases hy : i / 16 < heightG g
    · rw [hget _ hy, rowB_length]
      by_cases hx : i % 16 < widthG g
      · rw [if_pos (by omega)]
        have e : (rowB g (i / 16) (widthG g)).getD (i % 16) 0 = digB (g i) := by
          rw [List.getD_eq_getElem?_getD]
          simp only [rowB, List.getElem?_map, List.getElem?_range hx, Option.map_some, Option.getD_some]
          rw [show 16 * (i / 16) + i % 16 = i by omega]
        rw [e, rdC_dig (ok.1 i)]; simp
      · rw [if_neg (by omega)]
        exact (cell_zero ok fun s hm => by have := (hin _ hm).1; simp only at this; omega).symm
    · rw [if_neg (by omega)]
      exact (cell_zero ok fun s hm => by have := (hin _ hm).2; simp only at this; omega).symm
/-- A grid that is read, and whose text is the text, is in the corner. -/
theorem parse_corner {s : List UInt8} (hgood : goodR (spl s)) (hne : ∃ q, memG (parseG s) q) (ht : textG (parseG s) = s) : movedG (parseG s) = parseG s := by
  have ok : okG (parseG s) := rdG_ok hgood.1 _ _
  have hh := height_pos ok hne
  have hs : spl s = (List.range (heightG (parseG s))).reverse.map (fun y => rowB (parseG s) y (widthG (parseG s))) := by
    rw [← spl_rows ok _ _ hh]
    show spl s = spl (textG (parseG s))
    rw [ht]
  have hlen : (spl s).length = heightG (parseG s) := by rw [hs]; simp
  have hrow : ∀ r ∈ spl s, r.length = widthG (parseG s) := fun r hr => by
    rw [hs] at hr
    obtain ⟨y, _, rfl⟩ := List.mem_map.1 hr
    exact rowB_length _ _ _
  have hcell : ∀ i, parseG s i ≠ 0 → i % 16 < widthG (parseG s) ∧ i / 16 < heightG (parseG s) := fun i hi => by
    have hu : parseG s i = rdG (spl s) (spl s).length 0 i := rfl
    rw [hu] at hi
    unfold rdG at hi
    split at hi
    · rename_i hcond
      obtain ⟨h1, h2, h3⟩ := hcond
      have hk : (spl s).length - 1 - i / 16 < (spl s).length := by omega
      have hr : (spl s).getD ((spl s).length - 1 - i / 16) [] ∈ spl s := by
        rw [List.getD_eq_getElem?_getD, List.getElem?_eq_getElem hk]; exact List.getElem_mem hk
      rw [hrow _ hr] at h2
      rw [hlen] at h1
      exact ⟨h2, h1⟩
    · exact absurd rfl hi
  have hin : ∀ q, memG (parseG s) q → q.x < widthG (parseG s) ∧ q.y < heightG (parseG s) := fun q hq => by
    obtain ⟨h1, h2, h3, h4, h5, h6, h7⟩ := hq
    have := hcell (16 * q.y + q.x).toNat (bit_ne h7)
    omega
  have hl0 : leftG (parseG s) = 0 := by
    obtain ⟨⟨q, hq, e⟩, _⟩ := width_of ok hne
    have hm := (memG_moved ok).1 hq
    have := (hin _ hm.2.2).1
    simp only [sh] at this
    omega
  have hw0 : lowG (parseG s) = 0 := by
    obtain ⟨⟨q, hq, e⟩, _⟩ := height_of ok hne
    have hm := (memG_moved ok).1 hq
    have := (hin _ hm.2.2).2
    simp only [sh] at this
    omega
  refine okG_ext (okG_moved ok) ok (fun q => ?_)
  rw [memG_moved ok, hl0, hw0]
  have e : sh ((0 : Nat) : Int) ((0 : Nat) : Int) q = q := sh_zero q
  rw [e]
  exact ⟨fun h => h.2.2, fun h => ⟨h.1, h.2.2.1, h⟩⟩
end Go.Proofs.YtimnmfjbfbkooaaGreatDoor
