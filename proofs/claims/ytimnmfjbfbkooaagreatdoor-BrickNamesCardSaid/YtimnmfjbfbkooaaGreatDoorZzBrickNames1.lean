/- BrickNames: WHATEVER THE INPUT: the shape of any name, and the name of any shape, or the errors, are what the document says: the tied card. -/
import Derived.Test.YtimnmfjbfbkooaaGreatDoorZzBrickNames0
import Derived.Test.YtimnmfjbfbkooaaGreatDoorKn
import Derived.SevenTiedAt
import Derived.Test.YtimnmfjbfbkooaaGreatDoorCards
import Derived.Test.YtimnmfjbfbkooaaGreatDoorTie

/- Plain maths: the reference's Parse reads the bytes one after another. -/
namespace Go.Proofs.YtimnmfjbfbkooaaGreatDoor
set_option linter.all false
set_option linter.unusedSimpArgs false
set_option linter.unusedVariables false
open Go.RowKit

def rawQ (x y : Int) (n k : Nat) : List Q := ((List.range k).filter (fun s => n.testBit s)).map fun s : Nat => (⟨x, y, s⟩ : Q)
theorem rawQ_succ (x y : Int) (n k : Nat) : rawQ x y n (k + 1) = rawQ x y n k ++ (if n.testBit k then [⟨x, y, k⟩] else []) := by
  unfold rawQ
  rw [List.range_succ, List.filter_append, List.map_append]
  congr 1
  by_cases h : n.testBit k = true
  · rw [List.filter_cons_of_pos h, if_pos h]; rfl
  · rw [List.filter_cons_of_neg h, if_neg h]; rfl
theorem rawQ_length (x y : Int) (n k : Nat) : (rawQ x y n k).length ≤ k := by
  unfold rawQ
  rw [List.length_map]
  exact Nat.le_trans (List.length_filter_le _ _) (by simp)
theorem mem_rawQ {x y : Int} {n k : Nat} {q : Q} : q ∈ rawQ x y n k ↔ q.x = x ∧ q.y = y ∧ 0 ≤ q.s ∧ q.s < k ∧ n.testBit q.s.toNat = true := by
  unfold rawQ
  rw [List.mem_map]
  constructor
  · rintro ⟨s, hs, rfl⟩
    rw [List.mem_filter, List.mem_range] at hs
    exact ⟨rfl, rfl, Int.natCast_nonneg _, by show (s : Int) < k; omega, by simpa using hs.2⟩
  · rintro ⟨h1, h2, h3, h4, h5⟩
    exact ⟨q.s.toNat, by rw [List.mem_filter, List.mem_range]; exact ⟨by omega, h5⟩, Q.ext' h1.symm h2.symm (by simp; omega)⟩
def rawL : List UInt8 → Int → Int → List Q
  | [], _, _ => []
  | b :: t, x, y => if b = 47 then rawL t 0 (y - 1) else rawQ x y (rdC b).toNat 4 ++ rawL t (x + 1) y
def strokes (s : List UInt8) : Nat := (s.filter (fun b => decide (b = 47))).length
theorem strokes_le (s : List UInt8) : strokes s ≤ s.length := List.length_filter_le _ _
theorem strokes_snoc (s : List UInt8) (b : UInt8) : strokes (s ++ [b]) = strokes s + if b = 47 then 1 else 0 := by
  unfold strokes
  rw [List.filter_append, List.length_append]
  by_cases h : b = 47 <;> simp [h]
theorem spl_length : ∀ s : List UInt8, (spl s).length = strokes s + 1
  | [] => rfl
  | b :: t => by
    have ih := spl_length t
    unfold spl
    by_cases h : b = 47
    · rw [if_pos h]; subst h
      simp only [List.length_cons, strokes] at *
      simp; omega
    · rw [if_neg h]
      have e : strokes (b :: t) = strokes t := by simp [strokes, h]
      rw [e, ← ih]
      rcases hs : spl t with _ | ⟨r, rs⟩
      · exact absurd hs (spl_ne t)
      · simp
theorem rawL_length : ∀ (s : List UInt8) (x y : Int), (rawL s x y).length ≤ 4 * s.length
  | [], _, _ => by simp [rawL]
  | b :: t, x, y => by
    unfold rawL
    split
    · have := rawL_length t 0 (y - 1); simp only [List.length_cons]; omega
    · have := rawL_length t (x + 1) y; have := rawQ_length x y (rdC b).toNat 4; simp only [List.length_cons, List.length_append]; omega
theorem mem_rawL : ∀ (s : List UInt8) (x y : Int) (q : Q), q ∈ rawL s x y ↔ ∃ (k : Nat) (r : List UInt8) (j : Nat) (c : UInt8), (spl s)[k]? = some r ∧ r[j]? = some c ∧ q.y = y - k ∧ q.x = (if k = 0 then x else 0) + j ∧ 0 ≤ q.s ∧ q.s < 4 ∧ (rdC c).toNat.testBit q.s.toNat = true
  | [], x, y, q => by
    constructor
    · intro h; simp [rawL] at h
    · rintro ⟨k, r, j, c, h1, h2, _⟩
      rcases k with _ | k
      · simp only [spl, List.getElem?_cons_zero, Option.some.injEq] at h1; subst h1; simp at h2
      · simp [spl] at h1
  | b :: t, x, y, q => by
    by_cases hb : b = 47
    · have e1 : rawL (b :: t) x y = rawL t 0 (y - 1) := by rw [rawL, if_pos hb]
      have e2 : spl (b :: t) = [] :: spl t := by rw [spl, if_pos hb]
      rw [e1, e2, mem_rawL t 0 (y - 1) q]
      constructor
      · rintro ⟨k, r, j, c, h1, h2, h3, h4, h5⟩
        refine ⟨k + 1, r, j, c, by simpa using h1, h2, by omega, ?_, h5⟩
        rw [if_neg (by omega)]
        split at h4 <;> omega
      · rintro ⟨k, r, j, c, h1, h2, h3, h4, h5⟩
        rcases k with _ | k
        · simp only [List.getElem?_cons_zero, Option.some.injEq] at h1; subst h1; simp at h2
        · refine ⟨k, r, j, c, by simpa using h1, h2, by omega, ?_, h5⟩
          rw [if_neg (by omega)] at h4
          split <;> omega
    · have e1 : rawL (b :: t) x y = rawQ x y (rdC b).toNat 4 ++ rawL t (x + 1) y := by rw [rawL, if_neg hb]
      rcases hs : spl t with _ | ⟨r0, rs⟩
      · exact absurd hs (spl_ne t)
      have e2 : spl (b :: t) = (b :: r0) :: rs := by rw [spl, if_neg hb, hs]
      rw [e1, e2, List.mem_append, mem_rawQ, mem_rawL t (x + 1) y q, hs]
      constructor
      · rintro (⟨h1, h2, h3, h4, h5⟩ | ⟨k, r, j, c, h1, h2, h3, h4, h5⟩)
        · exact ⟨0, b :: r0, 0, b, rfl, rfl, by simpa using h2, by simpa using h1, h3, by simpa using h4, h5⟩
        · rcases k with _ | k
          · simp only [List.getElem?_cons_zero, Option.some.injEq] at h1; subst h1
            rw [if_pos rfl] at h4
            exact ⟨0, b :: r0, j + 1, c, rfl, by simpa using h2, h3, by rw [if_pos rfl]; omega, h5⟩
          · rw [if_neg (by omega)] at h4
            exact ⟨k + 1, r, j, c, by simpa using h1, h2, h3, by rw [if_neg (by omega)]; exact h4, h5⟩
      · rintro ⟨k, r, j, c, h1, h2, h3, h4, h5⟩
        rcases k with _ | k
        · simp only [List.getElem?_cons_zero, Option.some.injEq] at h1; subst h1
          rw [if_pos rfl] at h4
          rcases j with _ | j
          · simp only [List.getElem?_cons_zero, Option.some.injEq] at h2; subst h2
            exact .inl ⟨by simpa using h4, by simpa using h3, h5.1, by simpa using h5.2.1, h5.2.2⟩
          · exact .inr ⟨0, r0, j, c, rfl, by simpa using h2, h3, by rw [if_pos rfl]; omega, h5⟩
        · rw [if_neg (by omega)] at h4
          exact .inr ⟨k + 1, r, j, c, by simpa using h1, h2, h3, by rw [if_neg (by omega)]; exact h4, h5⟩
def rdO (a b : Q) : Prop := b.y < a.y ∨ (a.y = b.y ∧ (a.x < b.x ∨ (a.x = b.x ∧ a.s < b.s)))
theorem rawQ_ord (x y : Int) (n k : Nat) : (rawQ x y n k).Pairwise rdO := by
  unfold rawQ
  refine List.pairwise_map.2 (List.Pairwise.imp ?_ (List.Pairwise.sublist List.filter_sublist List.pairwise_lt_range))
  intro a b h
  exact .inr ⟨rfl, .inr ⟨rfl, by simp only; omega⟩⟩
theorem rawL_low {s : List UInt8} {x y : Int} {q : Q} (h : q ∈ rawL s x y) : q.y < y ∨ (q.y = y ∧ x ≤ q.x) := by
  obtain ⟨k, r, j, c, _, _, h3, h4, _⟩ := (mem_rawL s x y q).1 h
  rcases k with _ | k
  · rw [if_pos rfl] at h4; exact .inr ⟨by omega, by omega⟩
  · exact .inl (by omega)
theorem rawL_ord : ∀ (s : List UInt8) (x y : Int), (rawL s x y).Pairwise rdO
  | [], _, _ => List.Pairwise.nil
  | b :: t, x, y => by
    unfold rawL
    split
    · exact rawL_ord t 0 (y - 1)
    · refine List.pairwise_append.2 ⟨rawQ_ord _ _ _ _, rawL_ord t (x + 1) y, fun a ha b hb => ?_⟩
      obtain ⟨h1, h2, _⟩ := mem_rawQ.1 ha
      unfold rdO
      rcases rawL_low hb with h | ⟨h, h'⟩
      · exact .inl (by omega)
      · exact .inr ⟨by omega, .inl (by omega)⟩
theorem rawL_nodup (s : List UInt8) (x y : Int) : (rawL s x y).Nodup :=
  (rawL_ord s x y).imp (fun h e => by subst e; unfold rdO at h; omega)
/-- The shape that the reference reads, before it is looked at. -/
def rawS (s : List UInt8) : List Q := sortQ (rawL s 0 (strokes s))
theorem mem_spl : ∀ {s : List UInt8} {c : UInt8}, c ∈ s → c ≠ 47 → ∃ r ∈ spl s, c ∈ r
  | b :: t, c, h, hc => by
    rcases hs : spl t with _ | ⟨r0, rs⟩
    · exact absurd hs (spl_ne t)
    by_cases hb : b = 47
    · have e2 : spl (b :: t) = [] :: spl t := by rw [spl, if_pos hb]
      rcases List.mem_cons.1 h with rfl | h
      · exact absurd hb hc
      · obtain ⟨r, hr, hcr⟩ := mem_spl h hc
        exact ⟨r, by rw [e2]; exact List.mem_cons_of_mem _ hr, hcr⟩
    · have e2 : spl (b :: t) = (b :: r0) :: rs := by rw [spl, if_neg hb, hs]
      rcases List.mem_cons.1 h with rfl | h
      · exact ⟨c :: r0, by rw [e2]; simp, by simp⟩
      · obtain ⟨r, hr, hcr⟩ := mem_spl h hc
        rw [hs] at hr
        rcases List.mem_cons.1 hr with rfl | hr
        · exact ⟨b :: r, by rw [e2]; simp, by simp [hcr]⟩
        · exact ⟨r, by rw [e2]; simp [hr], hcr⟩
/-- A byte that is no digit and no stroke. -/
theorem raw_bad {s : List UInt8} (hlen : s.length ≤ 272) {c : UInt8} (h : c ∈ s) (hc : c ≠ 47) (hn : rdC c < 0) : parseC s = ([], 4) := by
  rw [parseC, if_neg (by omega), if_neg]
  rintro ⟨hg, _⟩
  obtain ⟨r, hr, hcr⟩ := mem_spl h hc
  have := (hg.2 r hr).2 c hcr
  omega
theorem raw_list {s : List UInt8} (hg : goodR (spl s)) : listG (parseG s) = rawS s := by
  refine srt_ext (srt_listG _) (srt_sortQ (rawL_nodup _ _ _)) (fun q => ?_)
  rw [mem_listG, rawS, mem_sortQ, mem_rawL]
  have hlen := spl_length s
  constructor
  · rintro ⟨h1, h2, h3, h4, h5, h6, h7⟩
    have e1 : (16 * q.y + q.x).toNat / 16 = q.y.toNat := by omega
    have e2 : (16 * q.y + q.x).toNat % 16 = q.x.toNat := by omega
    unfold parseG rdG at h7
    rw [e1, e2] at h7
    split at h7
    · rename_i hcond
      obtain ⟨c1, c2, _⟩ := hcond
      have hk : (spl s).length - 1 - q.y.toNat < (spl s).length := by omega
      refine ⟨(spl s).length - 1 - q.y.toNat, (spl s).getD ((spl s).length - 1 - q.y.toNat) [], q.x.toNat, _, ?_, List.getElem?_eq_getElem c2, by omega, by split <;> omega, h5, h6, ?_⟩
      · rw [List.getD_eq_getElem?_getD, List.getElem?_eq_getElem hk]; rfl
      · rw [List.getD_eq_getElem?_getD (l := (spl s).getD ((spl s).length - 1 - q.y.toNat) []), List.getElem?_eq_getElem c2] at h7
        exact h7
    · simp at h7
  · rintro ⟨k, r, j, c, h1, h2, h3, h4, h5, h6, h7⟩
    have hk := (List.getElem?_eq_some_iff.1 h1).1
    have hj := (List.getElem?_eq_some_iff.1 h2).1
    have hr := List.mem_of_getElem? h1
    have hrl := (hg.2 r hr).1
    have hl16 := hg.1
    have hx : q.x = j := by split at h4 <;> omega
    have e1 : (16 * q.y + q.x).toNat / 16 = q.y.toNat := by omega
    have e2 : (16 * q.y + q.x).toNat % 16 = j := by omega
    have e3 : (spl s).length - 1 - q.y.toNat = k := by omega
    refine ⟨by omega, by omega, by omega, by omega, h5, h6, ?_⟩
    unfold parseG rdG
    have hd : (spl s).getD k [] = r := by rw [List.getD_eq_getElem?_getD, h1]; rfl
    have hd2 : r.getD j 0 = c := by rw [List.getD_eq_getElem?_getD, h2]; rfl
    rw [e1, e2, e3, hd, hd2, if_pos ⟨by omega, hj, by omega⟩]
    exact h7
/-- All bytes are digits and strokes: what is read is a shape just if its own text is the text. -/
theorem raw_good {s : List UInt8} : (checkN (rawS s) = 0 ∧ rawS s = normL (rawS s) ∧ textG (layG (rawS s)) = s → parseC s = (rawS s, 0)) ∧
    (s.length ≤ 272 → ¬ (checkN (rawS s) = 0 ∧ rawS s = normL (rawS s) ∧ textG (layG (rawS s)) = s) → parseC s = ([], 4)) := by
  constructor
  · rintro ⟨h1, h2, h3⟩
    have := (parse_format h1 h2.symm).2
    rwa [h3] at this
  · intro hlen hn
    rw [parseC, if_neg (by omega), if_neg]
    rintro ⟨hg, hc, ht⟩
    refine hn ?_
    have hp : parseC s = (rawS s, 0) := by rw [parseC, if_neg (by omega), if_pos ⟨hg, hc, ht⟩, raw_list hg]
    obtain ⟨a, b, c⟩ := format_parse hp
    refine ⟨a, b.symm, ?_⟩
    rw [formatC, if_neg (fun h => h a), if_pos b] at c
    exact congrArg Prod.fst c
theorem dig_all : ∀ n : Fin 256, ∀ k : Fin 16, digB k.1 = UInt8.ofNat n.1 → rdC (UInt8.ofNat n.1) = k.1 := by decide +kernel
theorem dig_all' : ∀ n : Fin 256, ∀ k : Fin 16, rdC (UInt8.ofNat n.1) = k.1 → digB k.1 = UInt8.ofNat n.1 := by decide +kernel
theorem dig_eq {b : UInt8} {k : Nat} (hk : k < 16) : digB k = b ↔ rdC b = k := by
  have hb : b = UInt8.ofNat b.toNat := by simp
  have hl := b.toNat_lt
  rw [hb]
  exact ⟨dig_all ⟨b.toNat, hl⟩ ⟨k, hk⟩, dig_all' ⟨b.toNat, hl⟩ ⟨k, hk⟩⟩
/-- The number of a byte once the first k digits are looked at. -/
def seekN (b : UInt8) (k : Nat) : Int := if 0 ≤ rdC b ∧ rdC b < k then rdC b else -1
theorem seekN_zero (b : UInt8) : seekN b 0 = -1 := by unfold seekN; rw [if_neg (by omega)]
theorem seekN_hit {b : UInt8} {k : Nat} (h : rdC b = k) : seekN b (k + 1) = k := by unfold seekN; rw [if_pos (by omega), h]
theorem seekN_miss {b : UInt8} {k : Nat} (h : rdC b ≠ k) : seekN b (k + 1) = seekN b k := by unfold seekN; split <;> split <;> omega
theorem seekN_all (b : UInt8) : seekN b 16 = rdC b := by
  have h1 := rdC_ge b
  have h2 := rdC_lt b
  unfold seekN; split <;> omega
theorem bit_div (n k : Nat) : n.testBit k = true ↔ n / 2 ^ k % 2 = 1 := by
  rw [Nat.testBit_eq_decide_div_mod_eq]; simp
end Go.Proofs.YtimnmfjbfbkooaaGreatDoor

/- The reference's Parse. -/
namespace Go.Proofs.YtimnmfjbfbkooaaGreatDoor
set_option linter.all false
set_option linter.unusedSimpArgs false
set_option linter.unusedVariables false
open Go.RowKit
attribute [local go_sem] Oper.semAt_some

theorem str_get {L : List UInt8} {i : Nat} {b : UInt8} (h : L[i]? = some b) (hi : i < (⟨L.toArray⟩ : ByteArray).size) : (⟨L.toArray⟩ : ByteArray)[i]'hi = b := by
  obtain ⟨h1, h2⟩ := List.getElem?_eq_some_iff.1 h
  exact h2
theorem drop_cons {α : Type} {L : List α} {i : Nat} {b : α} (h : L[i]? = some b) : L.drop i = b :: L.drop (i + 1) := by
  obtain ⟨h1, h2⟩ := List.getElem?_eq_some_iff.1 h
  rw [← h2, List.drop_eq_getElem_cons h1]
structure PR (w W : World) (u : Value) (OUT : List Q) : Prop where
  own : OwnQ W w.heap.size u OUT
  below : Below w.heap.size w W
theorem PR.keep {w W W' : World} {u : Value} {OUT : List Q} (h : PR w W u OUT) (e : Below W.heap.size W W') : PR w W' u OUT := ⟨h.own.below e, h.below.trans (e.mono h.below.size)⟩
set_option maxRecDepth 100000 in
set_option maxHeartbeats 8000000 in
theorem parse_ref (L : List UInt8) (hL : L.length ≤ 272) (w : World) :
    Calls Tryz.prog 21 #[.string ⟨L.toArray⟩] w fun e w' => ∃ u, e = .returned (.tuple #[u, .bool (decide ((parseC L).2 = 0))]) ∧ HasQ w' u (parseC L).1 ∧ Below w.heap.size w w' := by
  have hsz := bytes_size L
  have HBAD : Hid (∀ c ∈ L, c ≠ 47 → rdC c < 0 → parseC L = ([], 4)) := Lib.hid (fun c h1 h2 h3 => raw_bad hL h1 h2 h3)
  go_enter Tryz.func21, Tryz.ntmps21
  go_wp2_with fail
  go_loopw [4, 5] (fun u z wr => ∃ i : Nat, i ≤ L.length ∧ z = .int .i64 i ∧ u = .int .i64 (strokes (L.take i)) ∧ Hid (Below w.heap.size w wr)) (fun _ z _ => L.length - (intOf z).toNat)
  case atStart => exact ⟨0, by omega, rfl, rfl, Lib.hid (Below.refl _ _)⟩
  case round =>
    obtain ⟨i, hi, rfl, rfl, HR⟩ := hrel
    have hsk : strokes (L.take i) ≤ i := Nat.le_trans (strokes_le _) (by rw [List.length_take]; omega)
    by_cases hlt : i < L.length
    · obtain ⟨b, hb⟩ : ∃ b, L[i]? = some b := ⟨_, List.getElem?_eq_getElem hlt⟩
      have hix := str_get hb
      have HS : Hid (strokes (L.take (i + 1)) = strokes (L.take i) + if b = 47 then 1 else 0) := Lib.hid (by rw [take_snocG hb, strokes_snoc])
      clear hb
      by_cases h47 : b = 47
      · subst h47
        have HS := Lib.hid (HS.out.trans (by rw [if_pos rfl]))
        go_wp2_with fail
        go_roundw
        case rel => exact ⟨i + 1, by omega, by go_num, by rw [HS.out]; rfl, HR⟩
        case measure => simp [intOf]; omega
      · have HS := Lib.hid (HS.out.trans (by rw [if_neg h47]))
        have hb47 : ¬ (b.toNat : Int) = 47 := fun e => h47 (by have : b.toNat = 47 := by omega
                                                               exact UInt8.toNat_inj.1 this)
        go_wp2_with fail
        go_roundw
        case rel => exact ⟨i + 1, by omega, by go_num, by rw [HS.out]; rfl, HR⟩
        case measure => simp [intOf]; omega
    · obtain rfl : i = L.length := by omega
      have e1 : strokes (L.take L.length) = strokes L := by rw [List.take_length]
      rw [e1] at hsk ⊢
      clear e1
      have h0 : PR w (wr.alloc (.cells #[] 64)) (.slice (some ⟨wr.heap.size, 0, none⟩) 0 0) [] := ⟨⟨rfl, .inr ⟨wr.heap.size, 0, #[], rfl, HR.out.size, World.alloc_heap_new wr _, Nat.le_refl _, by decide, rfl, rfl⟩⟩, HR.out.alloc HR.out.size _⟩
      have H0 := Lib.hid h0
      clear h0
      go_wp2_with fail
      revert H0
      generalize wr.alloc (.cells #[] 64) = w0
      generalize (Value.slice (some ⟨wr.heap.size, 0, none⟩) 0 0) = u0
      intro H0
      go_loopw [6, 7, 8, 9] (fun u x y z wr => ∃ (i : Nat) (X Y : Int) (OUT : List Q), i ≤ L.length ∧ z = .int .i64 i ∧ x = .int .i64 X ∧ y = .int .i64 Y ∧ (0 ≤ X ∧ X ≤ i) ∧ (-(i : Int) ≤ Y ∧ Y ≤ 300) ∧ Hid (PR w wr u OUT ∧ OUT ++ rawL (L.drop i) X Y = rawL L 0 (strokes L) ∧ OUT.length ≤ 4 * i)) (fun _ _ _ z _ => L.length - (intOf z).toNat)
      case atStart => exact ⟨0, 0, strokes L, [], by omega, rfl, rfl, rfl, by omega, by omega, Lib.hid ⟨H0.out, by simp, by simp⟩⟩
      case round =>
        clear HR H0
        obtain ⟨i, X, Y, OUT, hi, rfl, rfl, rfl, ⟨hX0, hX1⟩, ⟨hY0, hY1⟩, HR⟩ := hrel
        obtain ⟨p', c', rfl⟩ := own_slice HR.out.1.own
        by_cases hlt : i < L.length
        · obtain ⟨b, hb⟩ : ∃ b, L[i]? = some b := ⟨_, List.getElem?_eq_getElem hlt⟩
          have hix := str_get hb
          have HB := Lib.hid hb
          have HD := Lib.hid (drop_cons hb)
          clear hb
          by_cases h47 : b = 47
          · subst h47
            have HN : Hid (PR w wr (.slice p' OUT.length c') OUT ∧ OUT ++ rawL (L.drop (i + 1)) 0 (Y - 1) = rawL L 0 (strokes L) ∧ OUT.length ≤ 4 * (i + 1)) := Lib.hid ⟨HR.out.1, by have := HR.out.2.1; rw [HD.out, rawL, if_pos rfl] at this; exact this, by have := HR.out.2.2; omega⟩
            go_wp2_with fail
            go_roundw
            case rel => exact ⟨i + 1, 0, Y - 1, OUT, by omega, by go_num, rfl, by go_num, by omega, by omega, HN⟩
            case measure => simp [intOf]; omega
          · have hb47 : ¬ (b.toNat : Int) = 47 := fun e => h47 (by have : b.toNat = 47 := by omega
                                                                   exact UInt8.toNat_inj.1 this)
            have HN : Hid (PR w wr (.slice p' OUT.length c') OUT ∧ OUT ++ (rawQ X Y (rdC b).toNat 4 ++ rawL (L.drop (i + 1)) (X + 1) Y) = rawL L 0 (strokes L) ∧ OUT.length ≤ 4 * i) := Lib.hid ⟨HR.out.1, by have := HR.out.2.1; rw [HD.out, rawL, if_neg h47] at this; exact this, HR.out.2.2⟩
            have HNE := Lib.hid h47
            clear HR HD h47
            go_wp2_with fail
            generalize (Value.bool ((b.toNat : Int) == 47)) = vb
            go_loopw [10, 11] (fun n z wr => ∃ k : Nat, k ≤ 16 ∧ z = .int .i64 k ∧ n = .int .i64 (seekN b k) ∧ Hid (PR w wr (.slice p' OUT.length c') OUT)) (fun _ z _ => 16 - (intOf z).toNat)
            case atStart => exact ⟨0, by omega, rfl, by rw [seekN_zero], Lib.hid HN.out.1⟩
            case round =>
              obtain ⟨k, hk, rfl, rfl, HP⟩ := hrel
              by_cases hkl : k < 16
              · have hdg := dig_get hkl
                unfold digA at hdg
                have HRD : Hid (∀ n, PR w (wr.drewN n) (.slice p' OUT.length c') OUT) := Lib.hid (fun n => HP.out.keep (below_drewN _ wr n))
                by_cases hbk : digB k = b
                · have HS := Lib.hid (seekN_hit ((dig_eq hkl).1 hbk))
                  go_wp2_with fail
                  go_quiet (fail)
                  go_wp2_with fail
                  go_roundw
                  case rel => exact ⟨k + 1, by omega, by go_num, by rw [HS.out], Lib.hid (HRD.out _)⟩
                  case measure => simp [intOf]; omega
                · have HS := Lib.hid (seekN_miss (fun h => hbk ((dig_eq hkl).2 h)))
                  have hbk2 : (((digB k).toNat : Int) == (b.toNat : Int)) = false := beq_eq_false_iff_ne.2 (fun e => hbk (UInt8.toNat_inj.1 (by omega)))
                  go_wp2_with fail
                  go_quiet (fail)
                  go_wp2_with fail
                  go_roundw
                  case rel => exact ⟨k + 1, by omega, by go_num, by rw [HS.out], Lib.hid (HRD.out _)⟩
                  case measure => simp [intOf]; omega
              · have e16 : seekN b k = rdC b := by rw [show k = 16 by omega, seekN_all]
                rw [e16]
                clear e16
                by_cases hneg : rdC b < 0
                · have HF := Lib.hid (HBAD.out b (List.mem_of_getElem? HB.out) HNE.out hneg)
                  go_wp2_with fail
                  go_ret2
                  exact ⟨.slice none 0 0, by rw [HF.out]; rfl, by rw [HF.out]; exact .inl ⟨rfl, rfl⟩, HP.out.below⟩
                · obtain ⟨N, hN⟩ : ∃ N : Nat, rdC b = N := ⟨(rdC b).toNat, by omega⟩
                  have hN16 : N < 16 := by have := rdC_lt b; omega
                  have HN2 : Hid (OUT ++ (rawQ X Y N 4 ++ rawL (L.drop (i + 1)) (X + 1) Y) = rawL L 0 (strokes L) ∧ OUT.length ≤ 4 * i) := Lib.hid ⟨by have := HN.out.2.1; rw [hN] at this; simpa using this, HN.out.2.2⟩
                  rw [hN]
                  clear hN hneg HN
                  go_wp2_with fail
                  go_loopw [6, 10, 12] (fun u n z wr => ∃ (k : Nat) (O2 : List Q), k ≤ 4 ∧ z = .int .i64 k ∧ n = .int .i64 ((N / 2 ^ k : Nat) : Int) ∧ Hid (PR w wr u O2 ∧ O2 = OUT ++ rawQ X Y N k ∧ O2.length ≤ 4 * i + k)) (fun _ _ z _ => 4 - (intOf z).toNat)
                  case atStart => exact ⟨0, OUT, by omega, rfl, by simp, Lib.hid ⟨HP.out, by simp [rawQ], by have := HN2.out.2; omega⟩⟩
                  case round =>
                    clear HP
                    obtain ⟨k, O2, hk, rfl, rfl, HP⟩ := hrel
                    obtain ⟨p2, c2, rfl⟩ := own_slice HP.out.1.own
                    by_cases hk4 : k < 4
                    · have HSTEP := Lib.hid (rawQ_succ X Y N k)
                      have HDV : Hid (N / 2 ^ k / 2 = N / 2 ^ (k + 1)) := Lib.hid (by rw [Nat.div_div_eq_div_mul, Nat.pow_succ])
                      have HBIT := Lib.hid (bit_div N k)
                      have hM16 : N / 2 ^ k < 16 := Nat.lt_of_le_of_lt (Nat.div_le_self _ _) hN16
                      revert HDV HBIT hM16
                      generalize N / 2 ^ k = M
                      intro HDV HBIT hM16
                      have ew : IntKind.i64.wrap ((M : Int) / 2) = (M : Int) / 2 := IntWalk.i64_in _ (by omega)
                      by_cases hbit : M % 2 = 1
                      · have HS : Hid (O2 ++ [(⟨X, Y, k⟩ : Q)] = OUT ++ rawQ X Y N (k + 1)) := Lib.hid (by rw [HSTEP.out, if_pos (HBIT.out.2 hbit), ← List.append_assoc, HP.out.2.1])
                        have e2 : (M : Int).tmod 2 = 1 := by rw [Int.tmod_eq_emod_of_nonneg (by omega)]; omega
                        have hO2 : O2.length ≤ 2000 := by have := HP.out.2.2; omega
                        have HM1 : Hid (O2.length + 1 ≤ maxLen) := Lib.hid (by simp only [maxLen]; omega)
                        have HM2 : Hid ((O2.length + 1) * 24 ≤ 140737488355328) := Lib.hid (by omega)
                        have HROW : Hid (wr.ownsRow w.heap.size 64 3 (.slice p2 O2.length c2) O2.length (qCells O2)) := Lib.hid HP.out.1.own
                        have hszw : w.heap.size ≤ wr.heap.size := HP.out.1.below.size
                        obtain ⟨iQ, hiQ, hzQ, hsQ, hbQ⟩ := info_parts infoQ
                        go_wp2_with (first
                          | (at_builtin; refine wpList_append_own _ rfl _ _ 22 rfl w.heap.size 64 iQ _ 3 24 Tryz.underlying22 hiQ hzQ hsQ hbQ rfl (by decide) (.slice p2 O2.length c2) O2.length (qCells O2) rfl (HROW.out.alloc _) ⟨wr.heap.size, 0, none⟩ 1 1 (qVals (⟨X, Y, k⟩ : Q)) rfl rfl (qVals_at (⟨X, Y, k⟩ : Q)) (qVals_one _) HM1.out HM2.out (by rw [World.size_alloc]; omega) ?_; intro v' w4 hown' hgrow _; obtain ⟨p'', c'', rfl⟩ := own_slice hown'))
                        have hga : wr.grownBy w4 (Value.slice p2 O2.length c2).ownBlock := ⟨hgrow.os, hgrow.tape, hgrow.output, Nat.le_trans (by simp) hgrow.size, fun k hk hne => (hgrow.block k (by simp; omega) hne).trans (Below.heap_alloc _ _ _ hk)⟩
                        have hN : PR w w4 (.slice p'' (O2.length + 1) c'') (O2 ++ [(⟨X, Y, k⟩ : Q)]) := by
                          refine ⟨?_, HP.out.1.below.grown hga HP.out.1.below.size (fun z hz => (HROW.out.lt z hz).1)⟩
                          unfold OwnQ
                          rw [List.length_append, qCells_snoc]
                          exact hown'
                        have HNP : Hid (PR w w4 (.slice p'' (O2.length + 1) c'') (O2 ++ [(⟨X, Y, k⟩ : Q)]) ∧ O2 ++ [(⟨X, Y, k⟩ : Q)] = OUT ++ rawQ X Y N (k + 1) ∧ (O2 ++ [(⟨X, Y, k⟩ : Q)]).length ≤ 4 * i + (k + 1)) := Lib.hid ⟨hN, HS.out, by have := HP.out.2.2; rw [List.length_append]; simp only [List.length_singleton]; omega⟩
                        clear hN hga hown' hgrow HROW HP HS
                        go_roundw
                        case rel => exact ⟨k + 1, _, by omega, by go_num, by rw [← HDV.out]; go_num, HNP⟩
                        case measure => simp [intOf]; omega
                      · have HS : Hid (O2 = OUT ++ rawQ X Y N (k + 1)) := Lib.hid (by rw [HSTEP.out, if_neg (fun h => hbit (HBIT.out.1 h)), List.append_nil, HP.out.2.1])
                        have e2 : (M : Int).tmod 2 = 0 := by rw [Int.tmod_eq_emod_of_nonneg (by omega)]; omega
                        have HNP : Hid (PR w wr (.slice p2 O2.length c2) O2 ∧ O2 = OUT ++ rawQ X Y N (k + 1) ∧ O2.length ≤ 4 * i + (k + 1)) := Lib.hid ⟨HP.out.1, HS.out, by have := HP.out.2.2; omega⟩
                        clear HP HS
                        go_wp2_with fail
                        go_roundw
                        case rel => exact ⟨k + 1, O2, by omega, by go_num, by rw [← HDV.out]; go_num, HNP⟩
                        case measure => simp [intOf]; omega
                    · obtain rfl : k = 4 := by omega
                      have HNP : Hid (PR w wr (.slice p2 O2.length c2) O2 ∧ O2 ++ rawL (L.drop (i + 1)) (X + 1) Y = rawL L 0 (strokes L) ∧ O2.length ≤ 4 * (i + 1)) := Lib.hid ⟨HP.out.1, by rw [← HN2.out.1, ← List.append_assoc, HP.out.2.1], by have := HP.out.2.2; omega⟩
                      clear HP HN2
                      go_wp2_with fail
                      go_roundw
                      case rel => exact ⟨i + 1, X + 1, Y, O2, by omega, by go_num, by go_num, rfl, by omega, by omega, HNP⟩
                      case measure => simp [intOf]; omega
        · obtain rfl : i = L.length := by omega
          have HF : Hid (PR w wr (.slice p' OUT.length c') OUT ∧ OUT = rawL L 0 (strokes L) ∧ OUT.length ≤ 4 * L.length) := Lib.hid ⟨HR.out.1, by have := HR.out.2.1; rw [List.drop_length, rawL, List.append_nil] at this; exact this, HR.out.2.2⟩
          clear HR
          have HSR := Lib.hid (sorted_ref OUT _ wr HF.out.1.own.has (by have := HF.out.2.2; omega))
          go_wp2_with fail
          refine HSR.out.mono ?_
          rintro e w5 ⟨u5, m, rfl, hu5, hperm, hwk, hB5⟩
          have hm : m = rawS L := by
            rw [HF.out.2.1] at hperm
            exact wk_sort hwk hperm (rawL_nodup _ _ _)
          subst hm
          obtain ⟨p5, c5, rfl⟩ := own_slice hu5
          have HU := Lib.hid hu5.has
          have HB5 : Hid (Below w.heap.size w w5) := Lib.hid (HF.out.1.below.trans (hB5.mono HF.out.1.below.size))
          clear HSR HF hu5 hperm hwk hB5
          have HG := Lib.hid (raw_good (s := L))
          have HCK := Lib.hid (checkr_any (rawS L) _ w5 HU.out)
          revert HU HG HCK
          generalize rawS L = m
          intro HU HG HCK
          by_cases hc : checkN m = 0
          case neg =>
            have HF := Lib.hid (HG.out.2 hL (fun h => hc h.1))
            go_wp2_with fail
            refine HCK.out.mono ?_
            rintro e w6 ⟨rfl, hB6⟩
            have HB6 := Lib.hid (HB5.out.trans (hB6.mono HB5.out.size))
            clear HCK hB6
            go_wp2_with fail
            go_ret2
            exact ⟨.slice none 0 0, by rw [HF.out]; rfl, by rw [HF.out]; exact .inl ⟨rfl, rfl⟩, HB6.out⟩
          case pos =>
            have HC := Lib.hid hc
            rw [hc] at HCK
            clear hc
            go_wp2_with fail
            refine HCK.out.mono ?_
            rintro e w6 ⟨rfl, hB6⟩
            have HB6 := Lib.hid (HB5.out.trans (hB6.mono HB5.out.size))
            have HU6 := Lib.hid (HU.out.below hB6)
            have HCO := Lib.hid (corner_ref m HC.out _ w6 HU6.out)
            clear HCK hB6 HU HB5
            by_cases hn : m = normL m
            case neg =>
              have HF := Lib.hid (HG.out.2 hL (fun h => hn h.2.1))
              rw [decide_eq_false hn] at HCO
              clear hn
              go_wp2_with fail
              refine HCO.out.mono ?_
              rintro e w7 ⟨rfl, hB7⟩
              have HB7 := Lib.hid (HB6.out.trans (hB7.mono HB6.out.size))
              clear HCO hB7
              go_wp2_with fail
              go_ret2
              exact ⟨.slice none 0 0, by rw [HF.out]; rfl, by rw [HF.out]; exact .inl ⟨rfl, rfl⟩, HB7.out⟩
            case pos =>
              have hok := checkN_ok HC.out
              have HMV := Lib.hid (corner_lay hok.1 hok.2.1 hn.symm)
              have HNM := Lib.hid hn
              rw [decide_eq_true hn] at HCO
              clear hn hok
              go_wp2_with fail
              refine HCO.out.mono ?_
              rintro e w7 ⟨rfl, hB7⟩
              have HB7 := Lib.hid (HB6.out.trans (hB7.mono HB6.out.size))
              have HU7 := Lib.hid (HU6.out.below hB7)
              have HTX := Lib.hid (text_ref m HC.out HMV.out _ w7 HU7.out)
              clear HCO hB7 HU6 HB6
              go_wp2_with fail
              refine HTX.out.mono ?_
              rintro e w8 ⟨rfl, hB8⟩
              have HB8 := Lib.hid (HB7.out.trans (hB8.mono HB7.out.size))
              have HU8 := Lib.hid (HU7.out.below hB8)
              clear HTX hB8 HU7 HB7
              by_cases ht : textG (layG m) = L
              · have HF := Lib.hid (HG.out.1 ⟨HC.out, HNM.out, ht⟩)
                rw [ht]
                clear ht
                go_wp2_with fail
                go_ret2
                exact ⟨_, by rw [HF.out]; rfl, by rw [HF.out]; exact HU8.out, HB8.out⟩
              · have HF := Lib.hid (HG.out.2 hL (fun h => ht h.2.2))
                have hne : (textG (layG m) == L) = false := by simpa using ht
                go_wp2_with fail
                go_ret2
                exact ⟨.slice none 0 0, by rw [HF.out]; rfl, by rw [HF.out]; exact .inl ⟨rfl, rfl⟩, HB8.out⟩
end Go.Proofs.YtimnmfjbfbkooaaGreatDoor

/- Name; the reference's Kinds. -/
namespace Go.Proofs.YtimnmfjbfbkooaaGreatDoor
set_option linter.all false
set_option linter.unusedSimpArgs false
set_option linter.unusedVariables false
open Go.RowKit
attribute [local go_sem] Oper.semAt_some

theorem kinds_ok : ∀ p ∈ kindsL, (parseC p.2.data.toList).2 = 0 := by decide +kernel
theorem kind_shape {k : Nat} {n t : ByteArray} (h : kindsL[k]? = some (n, t)) : ∃ m, parseC t.data.toList = (m, 0) ∧ checkN m = 0 := by
  have h0 := kinds_ok (n, t) (List.mem_of_getElem? h)
  refine ⟨(parseC t.data.toList).1, by rw [← h0], (format_parse (s := t.data.toList) (l := (parseC t.data.toList).1) (by rw [← h0])).1⟩
theorem kinds_len : ∀ p ∈ kindsL, p.2.data.toList.length ≤ 272 := by decide +kernel
theorem parse_refB (s : ByteArray) (hs : s.data.toList.length ≤ 272) (w : World) :
    Calls Tryz.prog 21 #[.string s] w fun e w' => ∃ u, e = .returned (.tuple #[u, .bool (decide ((parseC s.data.toList).2 = 0))]) ∧ HasQ w' u (parseC s.data.toList).1 ∧ Below w.heap.size w w' := by
  have h := parse_ref s.data.toList hs w
  rwa [show (⟨s.data.toList.toArray⟩ : ByteArray) = s by simp] at h
/-- A shape is the same as that of a kind. -/
def isKind (l : List Q) (p : ByteArray × ByteArray) : Bool := sameB l (parseC p.2.data.toList).1
def nameC (l : List Q) : ByteArray × Nat := if checkN l ≠ 0 then (⟨#[]⟩, checkN l) else match kindsL.find? (isKind l) with
  | some p => (p.1, 0)
  | none => (⟨#[]⟩, 7)
theorem find_step {α : Type} {L : List α} {k : Nat} {p : α} (h : L[k]? = some p) (f : α → Bool) : (L.drop k).find? f = if f p then some p else (L.drop (k + 1)).find? f := by
  obtain ⟨hk, rfl⟩ := List.getElem?_eq_some_iff.1 h
  rw [List.drop_eq_getElem_cons hk, List.find?_cons]
  split <;> simp_all
set_option maxRecDepth 100000 in
set_option maxHeartbeats 4000000 in
theorem Name_any (l : List Q) (v : Value) (w : World) (hv : HasQ w v l) (hk : KindsAt w) (hsh : w.ShapedOpen Tryz.prog) :
    Calls Tryz.prog 36 #[v] w fun e w' => e = .returned (.tuple #[.string (nameC l).1, .int .i64 (nameC l).2]) ∧ Below w.heap.size w w' := by
  obtain ⟨vp, vc, rfl⟩ := hv.slice
  have HV := Lib.hid hv; clear hv
  have HK := Lib.hid hk; clear hk
  have HSH := Lib.hid hsh; clear hsh
  go_enter Tryz.func36, Tryz.ntmps36
  go_wp2_with fail
  refine (check_any l _ w HV.out).mono ?_
  rintro e w1 ⟨rfl, hB1⟩
  have HB1 := Lib.hid hB1
  clear hB1
  by_cases hc : checkN l = 0
  case neg =>
    have hc1 : ((checkN l : Int) != 0) = true := by simpa using hc
    have HC : Hid (nameC l = (⟨#[]⟩, checkN l)) := Lib.hid (by rw [nameC, if_pos hc])
    clear hc
    go_wp2_with fail
    go_ret2
    exact ⟨by rw [HC.out]; rfl, HB1.out⟩
  have hc1 : ((checkN l : Int) != 0) = false := by simpa using hc
  have HC : Hid (nameC l = match kindsL.find? (isKind l) with | some p => (p.1, 0) | none => (⟨#[]⟩, 7)) := Lib.hid (by rw [nameC, if_neg (fun h => h hc)])
  have HOK := Lib.hid (checkN_ok hc)
  clear hc
  obtain ⟨t, fr, hkb⟩ := HK.out.below HB1.out
  go_wp2_with (refine wpList_load_row rfl 107 _ rfl 0 rfl t kindsA fr _ hkb Tryz.underlying107 rfl (by kernel_rfl) ?_)
  clear hkb
  go_loopw [15] (fun z wr => ∃ k : Nat, k ≤ 8 ∧ z = .int .i64 k ∧ Hid (kindsL.find? (isKind l) = (kindsL.drop k).find? (isKind l) ∧ Below w.heap.size w wr)) (fun z _ => 8 - (intOf z).toNat)
  case atStart => exact ⟨0, by omega, rfl, Lib.hid ⟨rfl, HB1.out⟩⟩
  case round =>
    obtain ⟨k, hk, rfl, HR⟩ := hrel
    by_cases hlt : k < 8
    · obtain ⟨n, tx, hkk, hix⟩ := kinds_get hlt wr
      have HFD := Lib.hid (find_step hkk (isKind l))
      obtain ⟨m, hpm, hcm⟩ := kind_shape hkk
      have HPM := Lib.hid hpm
      have HCM := Lib.hid (checkN_ok hcm)
      clear hkk hpm hcm
      have hal : Below wr.heap.size wr (wr.alloc (.cells #[.string n, .string tx] 60)) := (Below.refl _ wr).alloc (Nat.le_refl _) _
      have HB := Lib.hid (HR.out.2.trans (hal.mono HR.out.2.size))
      have hp := Parse_any tx (wr.alloc (.cells #[.string n, .string tx] 60)) (shaped_below HSH.out HB.out)
      rw [HPM.out] at hp
      have HP := Lib.hid hp
      clear hal hp
      go_wp2_with fail
      refine HP.out.mono ?_
      rintro e w5 ⟨u, rfl, hq, hb5⟩
      obtain ⟨p5, c5, rfl⟩ := HasQ.slice hq
      have HQ := Lib.hid hq; clear hq
      have HCELL : Hid (w5.cell? ⟨wr.heap.size, 0, none⟩ = some (.string n)) := Lib.hid (by
        have hlt := World.alloc_heap_new wr (.cells #[.string n, .string tx] 60)
        have hbk := (hb5.block _ (Array.getElem?_eq_some_iff.1 hlt).1).trans hlt
        simp [World.cell?, hbk])
      have HBF := Lib.hid (HB.out.trans (hb5.mono HB.out.size)); clear hb5 HP
      go_wp2_with fail
      refine (lay_any l HOK.out.1.1 _ w5 (HV.out.below HBF.out)).mono ?_
      rintro e w6 ⟨rfl, hB6⟩
      have HB6 := Lib.hid (HBF.out.trans (hB6.mono HBF.out.size))
      have HQ6 := Lib.hid (HQ.out.below hB6)
      have HC6 : Hid (Below w5.heap.size w5 w6) := Lib.hid hB6
      clear hB6 HQ HBF
      go_wp2_with fail
      refine (lay_any m HCM.out.1.1 _ w6 HQ6.out).mono ?_
      rintro e w7 ⟨rfl, hB7⟩
      have HB7 := Lib.hid (HB6.out.trans (hB7.mono HB6.out.size))
      have HC7 : Hid (Below w5.heap.size w5 w7) := Lib.hid (HC6.out.trans (hB7.mono HC6.out.size))
      clear hB7 HQ6 HB6 HC6
      go_wp2_with fail
      refine (same_grid (layG l) (layG m) (okG_lay HOK.out.1.1) (okG_lay HCM.out.1.1) w7).mono ?_
      rintro e w8 ⟨r, rfl, hr, hB8⟩
      have hr2 : r = isKind l (n, tx) := by
        unfold isKind
        rw [Bool.eq_iff_iff, hr, HPM.out]
        exact same_lay HOK.out.1 HCM.out.1 HOK.out.2.1 HCM.out.2.1
      have HB8 := Lib.hid (HB7.out.trans (hB8.mono HB7.out.size))
      have hcell : w8.cell? ⟨wr.heap.size, 0, none⟩ = some (.string n) := by
        have hC8 := HC7.out.trans (hB8.mono HC7.out.size)
        have h5 := HCELL.out
        have hlt5 : wr.heap.size < w5.heap.size := by
          rcases Nat.lt_or_ge wr.heap.size w5.heap.size with h | h
          · exact h
          · have e0 : w5.heap[wr.heap.size]? = none := Array.getElem?_eq_none h
            simp [World.cell?, e0] at h5
        rw [← h5]; exact cell_of_block (hC8.block _ hlt5)
      clear hB8 HB7 HC7 hr HCELL
      cases r with
      | true =>
        have HF : Hid (nameC l = (n, 0)) := Lib.hid (by rw [HC.out, HR.out.1, HFD.out, ← hr2]; rfl)
        clear hr2
        go_wp2_with fail
        go_ret2
        exact ⟨by rw [HF.out]; rfl, HB8.out⟩
      | false =>
        have HN : Hid (kindsL.find? (isKind l) = (kindsL.drop (k + 1)).find? (isKind l)) := Lib.hid (by rw [HR.out.1, HFD.out, ← hr2]; rfl)
        clear hr2 hcell
        go_wp2_with fail
        go_roundw
        case rel => exact ⟨k + 1, by omega, by go_num, Lib.hid ⟨HN.out, HB8.out⟩⟩
        case measure => simp [intOf]; omega
    · obtain rfl : k = 8 := by omega
      have HF : Hid (nameC l = (⟨#[]⟩, 7)) := Lib.hid (by rw [HC.out, HR.out.1]; rfl)
      go_wp2_with fail
      go_ret2
      exact ⟨by rw [HF.out]; rfl, HR.out.2⟩

/-! ### The reference's Kinds -/
def RK (W : World) (a : Nat) : Prop := ∃ t fr, W.heap[a]? = some (.cells kindsA t fr)
theorem RK.below {W W' : World} {a : Nat} (h : RK W a) (e : Below W.heap.size W W') : RK W' a := by
  obtain ⟨t, fr, h⟩ := h
  exact ⟨t, fr, (e.block _ (Array.getElem?_eq_some_iff.1 h).1).trans h⟩
theorem RK.cells {W : World} {a : Nat} (h : RK W a) {k : Nat} {n t : ByteArray} (hk : kindsL[k]? = some (n, t)) : W.cell? ⟨a, k * 2, none⟩ = some (.string n) ∧ W.cell? ⟨a, k * 2 + 1, none⟩ = some (.string t) := by
  obtain ⟨t0, fr, h⟩ := h
  have hk8 : k < 8 := (List.getElem?_eq_some_iff.1 hk).1
  have e : kindsA[k * 2]? = some (.string n) ∧ kindsA[k * 2 + 1]? = some (.string t) := by
    rcases (by omega : k = 0 ∨ k = 1 ∨ k = 2 ∨ k = 3 ∨ k = 4 ∨ k = 5 ∨ k = 6 ∨ k = 7) with rfl | rfl | rfl | rfl | rfl | rfl | rfl | rfl <;>
      (simp only [kindsL, List.getElem?_cons_zero, List.getElem?_cons_succ, Option.some.injEq, Prod.mk.injEq] at hk; obtain ⟨rfl, rfl⟩ := hk; exact ⟨rfl, rfl⟩)
  constructor
  · simp [World.cell?, h, e.1]
  · simp [World.cell?, h, e.2]
set_option maxRecDepth 100000 in
set_option maxHeartbeats 4000000 in
theorem kinds_ref (w : World) :
    Calls Tryz.prog 37 #[] w fun e w' => ∃ a, e = .returned (.slice (some ⟨a, 0, none⟩) 8 8) ∧ RK w' a ∧ Below w.heap.size w w' := by
  have hR : RK (w.alloc (.cells kindsA 60)) w.heap.size := ⟨_, _, World.alloc_heap_new w _⟩
  have hB : Below w.heap.size w (w.alloc (.cells kindsA 60)) := (Below.refl _ w).alloc (Nat.le_refl _) _
  have H := Lib.hid (And.intro hR hB)
  clear hR hB
  unfold kindsA kindsL at H
  simp only [List.flatMap_cons, List.flatMap_nil, List.cons_append, List.nil_append] at H
  go_enter Tryz.func37, Tryz.ntmps37
  go_wp2_with fail
  go_ret
  exact ⟨_, rfl, H.out.1, H.out.2⟩
end Go.Proofs.YtimnmfjbfbkooaaGreatDoor

/- BrickNames. -/
namespace Go.Proofs.YtimnmfjbfbkooaaGreatDoor
set_option linter.all false
set_option linter.unusedSimpArgs false
set_option linter.unusedVariables false
open Go.RowKit
attribute [local go_sem] Oper.semAt_some

def named (s : ByteArray) (p : ByteArray × ByteArray) : Bool := p.1.data.toList == s.data.toList
theorem kind_hit {k : Nat} {n t : ByteArray} (h : kindsL[k]? = some (n, t)) : kindC n = parseC t.data.toList := by
  have hk8 : k < 8 := (List.getElem?_eq_some_iff.1 h).1
  rcases (by omega : k = 0 ∨ k = 1 ∨ k = 2 ∨ k = 3 ∨ k = 4 ∨ k = 5 ∨ k = 6 ∨ k = 7) with rfl | rfl | rfl | rfl | rfl | rfl | rfl | rfl <;>
    (simp only [kindsL, List.getElem?_cons_zero, List.getElem?_cons_succ, Option.some.injEq, Prod.mk.injEq] at h; obtain ⟨rfl, rfl⟩ := h; rfl)
theorem kind_none {s : ByteArray} (h : kindsL.any (named s) = false) : kindC s = ([], 7) := by
  unfold kindC
  have : kindsL.find? (fun p => p.1.data.toList == s.data.toList) = none := by
    rw [List.find?_eq_none]
    intro p hp hpe
    rw [List.any_eq_false] at h
    exact h p hp hpe
  rw [this]
theorem any_snoc {α : Type} {L : List α} {k : Nat} {p : α} (h : L[k]? = some p) (f : α → Bool) : (L.take (k + 1)).any f = ((L.take k).any f || f p) := by
  rw [take_snocG h, List.any_append]; simp
theorem named_self (n t : ByteArray) : named n (n, t) = true := by simp [named]
theorem named_ne {n s : ByteArray} (t : ByteArray) (h : ¬ n = s) : named s (n, t) = false := by
  unfold named
  rw [Bool.eq_false_iff]
  intro h'
  exact h (ByteArray.ext (Array.toList_inj.mp (beq_iff_eq.1 h')))
theorem name_bad {l : List Q} (h : checkN l ≠ 0) : nameC l = (⟨#[]⟩, checkN l) := by rw [nameC, if_pos h]
theorem name_find {l : List Q} (h : checkN l = 0) : nameC l = match kindsL.find? (isKind l) with | some p => (p.1, 0) | none => (⟨#[]⟩, 7) := by
  unfold nameC
  refine (if_neg (fun h' => h' h)).trans ?_
  cases kindsL.find? (isKind l) <;> rfl

set_option maxRecDepth 100000 in
set_option maxHeartbeats 8000000 in
theorem BrickNames_any (s : ByteArray) (l : List Q) (v : Value) (w : World) (hv : HasQ w v l) (hk : KindsAt w) (hsh : w.ShapedOpen Tryz.prog) :
    Calls Tryz.prog 7 #[.string s, v] w fun e w' => e = .returned (.bool true) ∧ Below w.heap.size w w' := by
  obtain ⟨p, c, rfl⟩ := hv.slice
  have HS := Lib.hid hv; clear hv
  have HK := Lib.hid hk; clear hk
  have HSH := Lib.hid hsh; clear hsh
  have HB := Lib.hid (Below.refl w.heap.size w)
  go_enter Tryz.func7, Tryz.ntmps7
  have HC := Lib.hid (long_any l _ w HS.out)
  go_wp2_with fail
  refine HC.out.mono ?_
  rintro e x0 ⟨rfl, hb⟩
  clear HC
  replace HS := Lib.hid (HS.out.below hb)
  replace HB := Lib.hid (HB.out.trans (hb.mono HB.out.size))
  clear hb
  by_cases hlg : longB l.length = true
  case pos =>
    rw [hlg]
    clear hlg
    have HC := Lib.hid (known_law x0 (HK.out.below HB.out) (shaped_below HSH.out HB.out))
    go_wp2_with fail
    refine HC.out.mono ?_
    rintro e x1 ⟨rfl, hb⟩
    clear HC
    replace HS := Lib.hid (HS.out.below hb)
    replace HB := Lib.hid (HB.out.trans (hb.mono HB.out.size))
    clear hb
    go_wp2_with fail
    go_ret
    exact ⟨rfl, HB.out⟩
  have hlf : longB l.length = false := by simpa using hlg
  rw [hlf]
  have hlen : l.length ≤ 410 := by unfold longB at hlf; simp at hlf; omega
  clear hlg hlf
  by_cases h30 : 30 < s.size
  case pos =>
    have HC := Lib.hid (known_law x0 (HK.out.below HB.out) (shaped_below HSH.out HB.out))
    go_wp2_with fail
    refine HC.out.mono ?_
    rintro e x1 ⟨rfl, hb⟩
    clear HC
    replace HS := Lib.hid (HS.out.below hb)
    replace HB := Lib.hid (HB.out.trans (hb.mono HB.out.size))
    clear hb
    go_wp2_with fail
    go_ret
    exact ⟨rfl, HB.out⟩
  have HC := Lib.hid (Kind_any s x0 (HK.out.below HB.out) (shaped_below HSH.out HB.out))
  go_wp2_with fail
  refine HC.out.mono ?_
  rintro e x1 ⟨u1, rfl, hu1, hb⟩
  clear HC
  replace HS := Lib.hid (HS.out.below hb)
  replace HB := Lib.hid (HB.out.trans (hb.mono HB.out.size))
  obtain ⟨p1, c1, rfl⟩ := hu1.slice
  have HX := Lib.hid (hu1)
  clear hb
  clear hu1
  have HC := Lib.hid (own_law l _ x1 HS.out (by omega))
  go_wp2_with fail
  refine HC.out.mono ?_
  rintro e x2 ⟨u2, rfl, hu2, hb⟩
  clear HC
  replace HS := Lib.hid (HS.out.below hb)
  replace HX := Lib.hid (HX.out.below hb)
  replace HB := Lib.hid (HB.out.trans (hb.mono HB.out.size))
  obtain ⟨p2, c2, rfl⟩ := own_slice hu2
  have HU := Lib.hid (hu2.has)
  clear hb
  clear hu2
  have HC := Lib.hid (Name_any l _ x2 HU.out (HK.out.below HB.out) (shaped_below HSH.out HB.out))
  go_wp2_with fail
  refine HC.out.mono ?_
  rintro e x3 ⟨rfl, hb⟩
  clear HC
  clear HU
  replace HS := Lib.hid (HS.out.below hb)
  replace HX := Lib.hid (HX.out.below hb)
  replace HB := Lib.hid (HB.out.trans (hb.mono HB.out.size))
  clear hb
  have HC := Lib.hid (kinds_ref x3)
  go_wp2_with fail
  refine HC.out.mono ?_
  rintro e x4 ⟨ka, rfl, hka, hb⟩
  clear HC
  replace HS := Lib.hid (HS.out.below hb)
  replace HX := Lib.hid (HX.out.below hb)
  replace HB := Lib.hid (HB.out.trans (hb.mono HB.out.size))
  have HKA := Lib.hid (hka)
  clear hb
  clear hka
  obtain ⟨⟨X, eX⟩, hKC⟩ : ∃ p, kindC s = p := ⟨_, rfl⟩
  rw [hKC] at HX ⊢
  have HKC := Lib.hid hKC; clear hKC
  go_wp2_with fail
  go_loopw [10, 11] (fun u z wr => ∃ (k : Nat) (b : Bool), k ≤ 8 ∧ z = .int .i64 k ∧ u = .bool b ∧ Hid (b = (kindsL.take k).any (named s) ∧ Below w.heap.size w wr ∧ HasQ wr (.slice p l.length c) l ∧ RK wr ka ∧ HasQ wr (.slice p1 X.length c1) X)) (fun _ z _ => 8 - (intOf z).toNat)
  case atStart => exact ⟨0, false, by omega, rfl, rfl, Lib.hid ⟨rfl, HB.out, HS.out, HKA.out, HX.out⟩⟩
  case round =>
    clear HB HS HKA HX
    obtain ⟨k, b, hk, rfl, rfl, HR⟩ := hrel
    have HB := Lib.hid HR.out.2.1
    have HS := Lib.hid HR.out.2.2.1
    have HKA := Lib.hid HR.out.2.2.2.1
    have HX := Lib.hid HR.out.2.2.2.2
    have HBB := Lib.hid HR.out.1
    clear HR
    by_cases hlt : k < 8
    · obtain ⟨⟨n, t⟩, hkk⟩ : ∃ q, kindsL[k]? = some q := ⟨_, List.getElem?_eq_getElem hlt⟩
      obtain ⟨k0, k1⟩ := HKA.out.cells hkk
      obtain ⟨m, hpm, hcm⟩ := kind_shape hkk
      have HAN := Lib.hid (any_snoc hkk (named s))
      have HLEN := Lib.hid (kinds_len _ (List.mem_of_getElem? hkk))
      have HKH := Lib.hid (kind_hit hkk)
      have HPM := Lib.hid hpm
      clear hkk hpm hcm
      by_cases hq : n = s
      case pos =>
        subst hq
        have hx := HKC.out.symm.trans (HKH.out.trans HPM.out)
        simp only [Prod.mk.injEq] at hx
        obtain ⟨rfl, hx2⟩ := hx
        have hb1 : ((eX : Int) != 0) = false := by rw [hx2]; rfl
        clear hx2
        have HT : Hid ((kindsL.take (k + 1)).any (named n) = true) := Lib.hid (by rw [HAN.out, named_self, Bool.or_true])
        have hp := parse_refB t HLEN.out wr
        rw [HPM.out] at hp
        have HP := Lib.hid hp; clear hp
        have HC := Lib.hid (HP.out)
        go_wp2_with fail
        refine HC.out.mono ?_
        rintro e x40 ⟨u3, rfl, hu3, hb⟩
        clear HC
        replace HS := Lib.hid (HS.out.below hb)
        replace HKA := Lib.hid (HKA.out.below hb)
        replace HX := Lib.hid (HX.out.below hb)
        replace HB := Lib.hid (HB.out.trans (hb.mono HB.out.size))
        obtain ⟨p3, c3, rfl⟩ := hu3.slice
        clear HP k0 k1
        have HY := Lib.hid (hu3)
        clear hb
        clear hu3
        have HC := Lib.hid (equal_ref X X _ _ x40 HX.out HY.out)
        go_wp2_with fail
        refine HC.out.mono ?_
        rintro e x41 ⟨rfl, hb⟩
        clear HC
        clear HY
        replace HS := Lib.hid (HS.out.below hb)
        replace HKA := Lib.hid (HKA.out.below hb)
        replace HX := Lib.hid (HX.out.below hb)
        replace HB := Lib.hid (HB.out.trans (hb.mono HB.out.size))
        clear hb
        simp only [decide_true]
        go_wp2_with fail
        go_roundw
        case rel => exact ⟨k + 1, true, by omega, by go_num, rfl, Lib.hid ⟨HT.out.symm, HB.out, HS.out, HKA.out, HX.out⟩⟩
        case measure => simp [intOf]; omega
      case neg =>
        have hb0 := named_ne t hq
        have HT : Hid ((kindsL.take (k + 1)).any (named s) = b) := Lib.hid (by rw [HAN.out, hb0, Bool.or_false, HBB.out])
        unfold named at hb0
        have hb2 : (n.toList == s.toList) = false := by rw [ByteArray.toList_eq, ByteArray.toList_eq]; exact hb0
        have hb1 : (n == s) = false := by rw [beq_toListBytes]; exact hb2
        clear hb0
        go_wp2_with fail
        go_roundw
        case rel => exact ⟨k + 1, b, by omega, by go_num, rfl, Lib.hid ⟨HT.out.symm, HB.out, HS.out, HKA.out, HX.out⟩⟩
        case measure => simp [intOf]; omega
    · obtain rfl : k = 8 := by omega
      have e8 : kindsL.take 8 = kindsL := rfl
      have HBA : Hid (b = kindsL.any (named s)) := Lib.hid (by rw [HBB.out, e8])
      clear e8 HBB
      cases b with
      | true =>
        clear HX
        have HC := Lib.hid (checkr_any l _ wr HS.out)
        go_wp2_with fail
        refine HC.out.mono ?_
        rintro e x60 ⟨rfl, hb⟩
        clear HC
        replace HS := Lib.hid (HS.out.below hb)
        replace HKA := Lib.hid (HKA.out.below hb)
        replace HB := Lib.hid (HB.out.trans (hb.mono HB.out.size))
        clear hb
        by_cases hc : checkN l = 0
        case neg =>
          have hb1 : ((checkN l : Int) != 0) = true := by simpa using hc
          rw [name_bad hc]
          clear hc
          have HC := Lib.hid (known_law x60 (HK.out.below HB.out) (shaped_below HSH.out HB.out))
          go_wp2_with fail
          refine HC.out.mono ?_
          rintro e x61 ⟨rfl, hb⟩
          clear HC
          replace HS := Lib.hid (HS.out.below hb)
          replace HKA := Lib.hid (HKA.out.below hb)
          replace HB := Lib.hid (HB.out.trans (hb.mono HB.out.size))
          clear hb
          go_wp2_with fail
          go_ret
          exact ⟨rfl, HB.out⟩
        have HNF := Lib.hid (name_find hc)
        have HC := Lib.hid hc
        rw [hc]
        clear hc
        go_wp2_with fail
        go_loopw [15] (fun z wr => ∃ k : Nat, k ≤ 8 ∧ z = .int .i64 k ∧ Hid (kindsL.find? (isKind l) = (kindsL.drop k).find? (isKind l) ∧ Below w.heap.size w wr ∧ HasQ wr (.slice p l.length c) l ∧ RK wr ka)) (fun z _ => 8 - (intOf z).toNat)
        case atStart => exact ⟨0, by omega, rfl, Lib.hid ⟨rfl, HB.out, HS.out, HKA.out⟩⟩
        case round =>
          clear HB HS HKA
          obtain ⟨k, hk, rfl, HR⟩ := hrel
          have HB := Lib.hid HR.out.2.1
          have HS := Lib.hid HR.out.2.2.1
          have HKA := Lib.hid HR.out.2.2.2
          have HFI := Lib.hid HR.out.1
          clear HR
          by_cases hlt : k < 8
          case neg =>
            obtain rfl : k = 8 := by omega
            have e1 : nameC l = (⟨#[]⟩, 7) := by rw [HNF.out, HFI.out]; rfl
            rw [e1]
            clear e1
            have HC := Lib.hid (known_law wr (HK.out.below HB.out) (shaped_below HSH.out HB.out))
            go_wp2_with fail
            refine HC.out.mono ?_
            rintro e x80 ⟨rfl, hb⟩
            clear HC
            replace HS := Lib.hid (HS.out.below hb)
            replace HB := Lib.hid (HB.out.trans (hb.mono HB.out.size))
            clear hb
            go_wp2_with fail
            go_ret
            exact ⟨rfl, HB.out⟩
          obtain ⟨⟨n, t⟩, hkk⟩ : ∃ q, kindsL[k]? = some q := ⟨_, List.getElem?_eq_getElem hlt⟩
          obtain ⟨k0, k1⟩ := HKA.out.cells hkk
          obtain ⟨m, hpm, hcm⟩ := kind_shape hkk
          have HKK := Lib.hid hkk
          have HFD := Lib.hid (find_step hkk (isKind l))
          have HLEN := Lib.hid (kinds_len _ (List.mem_of_getElem? hkk))
          have HPM := Lib.hid hpm
          have HCM := Lib.hid hcm
          clear hkk hpm hcm
          have HIK : Hid (isKind l (n, t) = sameB l m) := Lib.hid (by unfold isKind; rw [HPM.out])
          have hp := parse_refB t HLEN.out wr
          rw [HPM.out] at hp
          have HP := Lib.hid hp; clear hp
          have HC := Lib.hid (HP.out)
          go_wp2_with fail
          refine HC.out.mono ?_
          rintro e x90 ⟨u3, rfl, hu3, hb⟩
          clear HC
          replace HS := Lib.hid (HS.out.below hb)
          replace HKA := Lib.hid (HKA.out.below hb)
          replace HB := Lib.hid (HB.out.trans (hb.mono HB.out.size))
          obtain ⟨p3, c3, rfl⟩ := hu3.slice
          clear HP k0 k1
          have HY := Lib.hid (hu3)
          clear hb
          clear hu3
          have HC := Lib.hid (same_ref l m HC.out HCM.out _ _ x90 HS.out HY.out)
          go_wp2_with fail
          refine HC.out.mono ?_
          rintro e x91 ⟨rfl, hb⟩
          clear HC
          clear HY
          replace HS := Lib.hid (HS.out.below hb)
          replace HKA := Lib.hid (HKA.out.below hb)
          replace HB := Lib.hid (HB.out.trans (hb.mono HB.out.size))
          clear hb
          by_cases hsm : sameB l m = true
          case neg =>
            have hsm2 : sameB l m = false := by simpa using hsm
            have HN : Hid (kindsL.find? (isKind l) = (kindsL.drop (k + 1)).find? (isKind l)) := Lib.hid (by rw [HFI.out, HFD.out, HIK.out, hsm2]; rfl)
            rw [hsm2]
            clear hsm hsm2
            go_wp2_with fail
            go_roundw
            case rel => exact ⟨k + 1, by omega, by go_num, Lib.hid ⟨HN.out, HB.out, HS.out, HKA.out⟩⟩
            case measure => simp [intOf]; omega
          have e1 : nameC l = (n, 0) := by rw [HNF.out, HFI.out, HFD.out, HIK.out, hsm]; rfl
          rw [hsm, e1]
          clear hsm e1
          obtain ⟨k0, k1⟩ := HKA.out.cells HKK.out
          have HC := Lib.hid (known_law x91 (HK.out.below HB.out) (shaped_below HSH.out HB.out))
          go_wp2_with fail
          refine HC.out.mono ?_
          rintro e x92 ⟨rfl, hb⟩
          clear HC
          replace HS := Lib.hid (HS.out.below hb)
          replace HKA := Lib.hid (HKA.out.below hb)
          replace HB := Lib.hid (HB.out.trans (hb.mono HB.out.size))
          clear hb
          go_wp2_with fail
          go_ret
          exact ⟨rfl, HB.out⟩
      | false =>
        have hx := HKC.out.symm.trans (kind_none HBA.out.symm)
        simp only [Prod.mk.injEq] at hx
        obtain ⟨rfl, rfl⟩ := hx
        clear HX
        have HC := Lib.hid (checkr_any l _ wr HS.out)
        go_wp2_with fail
        refine HC.out.mono ?_
        rintro e x120 ⟨rfl, hb⟩
        clear HC
        replace HS := Lib.hid (HS.out.below hb)
        replace HKA := Lib.hid (HKA.out.below hb)
        replace HB := Lib.hid (HB.out.trans (hb.mono HB.out.size))
        clear hb
        by_cases hc : checkN l = 0
        case neg =>
          have hb1 : ((checkN l : Int) != 0) = true := by simpa using hc
          rw [name_bad hc]
          clear hc
          have HC := Lib.hid (known_law x120 (HK.out.below HB.out) (shaped_below HSH.out HB.out))
          go_wp2_with fail
          refine HC.out.mono ?_
          rintro e x121 ⟨rfl, hb⟩
          clear HC
          replace HS := Lib.hid (HS.out.below hb)
          replace HKA := Lib.hid (HKA.out.below hb)
          replace HB := Lib.hid (HB.out.trans (hb.mono HB.out.size))
          clear hb
          go_wp2_with fail
          go_ret
          exact ⟨rfl, HB.out⟩
        have HNF := Lib.hid (name_find hc)
        have HC := Lib.hid hc
        rw [hc]
        clear hc
        go_wp2_with fail
        go_loopw [15] (fun z wr => ∃ k : Nat, k ≤ 8 ∧ z = .int .i64 k ∧ Hid (kindsL.find? (isKind l) = (kindsL.drop k).find? (isKind l) ∧ Below w.heap.size w wr ∧ HasQ wr (.slice p l.length c) l ∧ RK wr ka)) (fun z _ => 8 - (intOf z).toNat)
        case atStart => exact ⟨0, by omega, rfl, Lib.hid ⟨rfl, HB.out, HS.out, HKA.out⟩⟩
        case round =>
          clear HB HS HKA
          obtain ⟨k, hk, rfl, HR⟩ := hrel
          have HB := Lib.hid HR.out.2.1
          have HS := Lib.hid HR.out.2.2.1
          have HKA := Lib.hid HR.out.2.2.2
          have HFI := Lib.hid HR.out.1
          clear HR
          by_cases hlt : k < 8
          case neg =>
            obtain rfl : k = 8 := by omega
            have e1 : nameC l = (⟨#[]⟩, 7) := by rw [HNF.out, HFI.out]; rfl
            rw [e1]
            clear e1
            have HC := Lib.hid (known_law wr (HK.out.below HB.out) (shaped_below HSH.out HB.out))
            go_wp2_with fail
            refine HC.out.mono ?_
            rintro e x140 ⟨rfl, hb⟩
            clear HC
            replace HS := Lib.hid (HS.out.below hb)
            replace HB := Lib.hid (HB.out.trans (hb.mono HB.out.size))
            clear hb
            go_wp2_with fail
            go_ret
            exact ⟨rfl, HB.out⟩
          obtain ⟨⟨n, t⟩, hkk⟩ : ∃ q, kindsL[k]? = some q := ⟨_, List.getElem?_eq_getElem hlt⟩
          obtain ⟨k0, k1⟩ := HKA.out.cells hkk
          obtain ⟨m, hpm, hcm⟩ := kind_shape hkk
          have HKK := Lib.hid hkk
          have HFD := Lib.hid (find_step hkk (isKind l))
          have HLEN := Lib.hid (kinds_len _ (List.mem_of_getElem? hkk))
          have HPM := Lib.hid hpm
          have HCM := Lib.hid hcm
          clear hkk hpm hcm
          have HIK : Hid (isKind l (n, t) = sameB l m) := Lib.hid (by unfold isKind; rw [HPM.out])
          have hp := parse_refB t HLEN.out wr
          rw [HPM.out] at hp
          have HP := Lib.hid hp; clear hp
          have HC := Lib.hid (HP.out)
          go_wp2_with fail
          refine HC.out.mono ?_
          rintro e x150 ⟨u3, rfl, hu3, hb⟩
          clear HC
          replace HS := Lib.hid (HS.out.below hb)
          replace HKA := Lib.hid (HKA.out.below hb)
          replace HB := Lib.hid (HB.out.trans (hb.mono HB.out.size))
          obtain ⟨p3, c3, rfl⟩ := hu3.slice
          clear HP k0 k1
          have HY := Lib.hid (hu3)
          clear hb
          clear hu3
          have HC := Lib.hid (same_ref l m HC.out HCM.out _ _ x150 HS.out HY.out)
          go_wp2_with fail
          refine HC.out.mono ?_
          rintro e x151 ⟨rfl, hb⟩
          clear HC
          clear HY
          replace HS := Lib.hid (HS.out.below hb)
          replace HKA := Lib.hid (HKA.out.below hb)
          replace HB := Lib.hid (HB.out.trans (hb.mono HB.out.size))
          clear hb
          by_cases hsm : sameB l m = true
          case neg =>
            have hsm2 : sameB l m = false := by simpa using hsm
            have HN : Hid (kindsL.find? (isKind l) = (kindsL.drop (k + 1)).find? (isKind l)) := Lib.hid (by rw [HFI.out, HFD.out, HIK.out, hsm2]; rfl)
            rw [hsm2]
            clear hsm hsm2
            go_wp2_with fail
            go_roundw
            case rel => exact ⟨k + 1, by omega, by go_num, Lib.hid ⟨HN.out, HB.out, HS.out, HKA.out⟩⟩
            case measure => simp [intOf]; omega
          have e1 : nameC l = (n, 0) := by rw [HNF.out, HFI.out, HFD.out, HIK.out, hsm]; rfl
          rw [hsm, e1]
          clear hsm e1
          obtain ⟨k0, k1⟩ := HKA.out.cells HKK.out
          have HC := Lib.hid (known_law x151 (HK.out.below HB.out) (shaped_below HSH.out HB.out))
          go_wp2_with fail
          refine HC.out.mono ?_
          rintro e x152 ⟨rfl, hb⟩
          clear HC
          replace HS := Lib.hid (HS.out.below hb)
          replace HKA := Lib.hid (HKA.out.below hb)
          replace HB := Lib.hid (HB.out.trans (hb.mono HB.out.size))
          clear hb
          go_wp2_with fail
          go_ret
          exact ⟨rfl, HB.out⟩
end Go.Proofs.YtimnmfjbfbkooaaGreatDoor

/- BrickNames: WHATEVER THE INPUT: the shape of any name, and the name of any shape, or the errors, are what the document says: the tied card. -/
namespace Go.Proofs.YtimnmfjbfbkooaaGreatDoor
set_option linter.all false
set_option linter.unusedSimpArgs false
set_option linter.unusedVariables false
open Go.RowKit Go.ChangeShapes Go.WideShapes Go.Deep

set_option maxRecDepth 100000 in
theorem brickNames_lifted (os : Os) (started : os.Started) (H : Type) (enc : TypeId × Value → H) :
    ReturnsInHanded {} Tryz.checked os 7 .any (fun w args => (Rows.brickNamesSpec.pre enc Tryz.prog Tryz.f7 [] false w args ∧ laidMetH Tryz.prog laid3 w) ∧ sizedMet enc Tryz.prog Tryz.f7 (OpenSpec.ofChange Rows.brickNamesSpec) false w args)
      (Rows.brickNamesSpec.post enc Tryz.prog Tryz.f7 false true false false) := by
  refine ret_shaped (C := Tryz.checked) (X := fun w _ => laidMetH Tryz.prog laid3 w) (fun _ _ _ hh h => h.of_heap hh) ownKnobs started (by kernel_rfl) Tryz.func7
    (ChangeSpec.witness_at (enc := enc) (C := Tryz.checked) (os := os) (X := fun w _ => laidMetH Tryz.prog laid3 w) false (laidWorld os) #[.string ⟨#[]⟩, .slice none 0 0] 8 rfl (by kernel_rfl) (by kernel_rfl) (by kernel_rfl) (by kernel_rfl) (by kernel_rfl) (laidWorld_met os _)) ?_
  intro W base args ds gs before hval0 hW _ hL hsh
  have hval : ∀ (j : Nat) t v, Tryz.f7.params[j]? = some t → args[j]? = some v → Value.okWide Tryz.prog W .any base t v := hval0
  have hW' := hW
  obtain ⟨p, q, hA0, hV, rfl, hfz, hnd⟩ := hW
  have hA : DataW.TrodAll enc Tryz.prog W 0 (fun _ => true) true Tryz.f7.params.toList args.toList ds p := hA0
  rw [Tryz.params7] at hA hval
  obtain ⟨v0, v1, d0, d1, p0, p1, rfl, rfl, rfl, h0, h1⟩ := trodAll_two hA
  obtain ⟨rfl, rfl⟩ := trodVars_none hV
  have hlt : ∀ x ∈ p0 ++ p1, x.block < W.heap.size := fun x hx => hW'.lt x (by simpa using hx)
  obtain ⟨s0, rfl⟩ := arg_string (hval 0 9 v0 rfl rfl) h0
  obtain ⟨l1, hq1⟩ := arg_quarters (hval 1 22 v1 rfl rfl) h1
  refine (BrickNames_any s0 l1 v1 W hq1 (kinds_of_row hL) hsh).mono ?_
  rintro e W' ⟨rfl, hB⟩
  have e1 : Rows.brickNamesSpec.fn H ([d0, d1] ++ []) = { results := [.lit (.bool true)], args := [d0, d1] } := rfl
  refine ⟨_, rfl, _, _, _, [], p0 ++ p1, [], hW', ?_, ?_, ?_, hB.frame _, fun h => by cases h⟩
  · rw [e1]; exact trodAll_mk1 (shut_bool Tryz.underlying4 true)
  · rw [e1]; exact trodAll_mk2 (Below.trod laidOuts (by kernel_rfl) (of_decide_eq_true (by kernel_rfl)) h0 hB (fun x hx => hlt x (by simp [hx]))) (Below.trod laidOuts (by kernel_rfl) (of_decide_eq_true (by kernel_rfl)) h1 hB (fun x hx => hlt x (by simp [hx])))
  · rw [e1]; rfl

theorem brickNames_holds : Rows.BrickNamesSaid :=
  OpenClaim.holds_of_wide 7 Tryz.f7 rfl rfl rfl rfl rfl rfl rfl ⟨rfl, rfl, rfl, rfl, rfl⟩ rfl rfl rfl rfl rfl (by kernel_rfl) Tryz.func7 (by kernel_rfl)
    (of_decide_eq_true (by kernel_rfl)) (by unfold Func.isWrapper; rw [if_neg (of_decide_eq_false (by kernel_rfl))]; exact ⟨rfl, rfl⟩)
    (fun os started H enc _ => brickNames_lifted os started H enc)
theorem brickNames_card : Rows.BrickNamesCardSaid :=
  Claim7.holds_tied_plain_at .later [] [.data, .data, .pinned] true Rows.brickNamesCard.stood.harness false
    brickNames_holds (fun _ h => by cases h) (by kernel_rfl) (fun _ h => by cases h) brickNames_row_tie rfl ⟨rfl, rfl⟩ (by kernel_rfl) rfl
    (fun f fn hf hfn => by
      obtain rfl : f = 7 := Option.some.inj ((show Tryz.prog.funcNamed "chiti/chitilaw05.BrickNames" = some 7 by kernel_rfl).symm.trans hf) |>.symm
      obtain rfl : fn = Tryz.f7 := (Option.some.inj (Tryz.func7.symm.trans hfn)).symm
      exact ⟨by kernel_rfl, fun j t ht => by
        rw [Tryz.params7] at ht
        have hm : t ∈ [9, 22] := by simpa using Array.mem_of_getElem? ht
        have hall : ([9, 22].all fun u => !Tryz.prog.wantsStandIn u) = true := by kernel_rfl
        exact (show Tryz.prog.wantsStandIn t = false by simpa using List.all_eq_true.1 hall t hm)⟩)
    (by kernel_rfl)
end Go.Proofs.YtimnmfjbfbkooaaGreatDoor
