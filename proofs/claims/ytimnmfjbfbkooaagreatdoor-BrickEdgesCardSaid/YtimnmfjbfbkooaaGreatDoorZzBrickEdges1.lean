/- BrickEdges: WHATEVER THE INPUT: the edges around any shape, and those between any shapes, or the errors, are what the document says; the shapes stay as they are: the tied card. -/
import Derived.Test.YtimnmfjbfbkooaaGreatDoorZzBrickEdges0
import Derived.Test.YtimnmfjbfbkooaaGreatDoorJo
import Derived.SevenTiedAt
import Derived.Test.YtimnmfjbfbkooaaGreatDoorCards
import Derived.Test.YtimnmfjbfbkooaaGreatDoorTie

/- The law's edges and same. -/
namespace Go.Proofs.YtimnmfjbfbkooaaGreatDoor
set_option linter.all false
set_option linter.unusedSimpArgs false
set_option linter.unusedVariables false
open Go.RowKit
attribute [local go_sem] Oper.semAt_some

theorem equalIn_E (x y s x' y' s' : Int) (W : World) : (Op.equalIn 10000 72 (.agg #[.int .i64 x, .int .i64 y, .int .i64 s]) (.agg #[.int .i64 x', .int .i64 y', .int .i64 s'])).run Tryz.prog W = .ok (decide ((⟨x, y, s⟩ : E) = ⟨x', y', s'⟩)) W := by
  have hf : Tryz.prog.fieldsOf 72 = _ := rfl
  rw [run_equalIn_agg W 9999 72 _ _ (by kernel_rfl) (by kernel_rfl)]
  have e : decide ((⟨x, y, s⟩ : E) = ⟨x', y', s'⟩) = (x == x' && (y == y' && s == s')) := by
    rw [Bool.eq_iff_iff]; simp
  rw [e]
  by_cases h1 : x = x' <;> by_cases h2 : y = y' <;> by_cases h3 : s = s' <;> simp [go_sem, h1, h2, h3]
set_option maxRecDepth 100000 in
set_option maxHeartbeats 2000000 in
theorem edges_law (l m : List E) (u v : Value) (w : World) (hu : HasEs w u l) (hv : HasEs w v m) :
    Calls Tryz.prog 27 #[u, v] w fun e w' => e = .returned (.bool (decide (l = m))) ∧ Below w.heap.size w w' := by
  obtain ⟨up, uc, rfl⟩ := hu.slice
  obtain ⟨vp, vc, rfl⟩ := hv.slice
  have HU := Lib.hid hu; clear hu
  have HV := Lib.hid hv; clear hv
  have hlm : l.length ≤ maxLen := by
    rcases HU.out with ⟨_, h⟩ | ⟨a, c, _, h1, h2, _⟩
    · rw [h]; decide
    · exact Nat.le_trans h1 h2
  simp only [maxLen] at hlm
  by_cases hlen : l.length = m.length
  case neg =>
    have hne : decide (l = m) = false := decide_eq_false (fun e => hlen (by rw [e]))
    have HNE := Lib.hid hne; clear hne
    have hb : ((l.length : Int) != (m.length : Int)) = true := by simpa using (fun e => hlen (by omega))
    go_enter Tryz.func27, Tryz.ntmps27
    go_wp2_with fail
    go_ret
    exact ⟨by rw [HNE.out]; rfl, Below.refl _ _⟩
  have hb : ((l.length : Int) != (m.length : Int)) = false := by simp [hlen]
  have HLEN := Lib.hid hlen; clear hlen
  go_enter Tryz.func27, Tryz.ntmps27
  go_wp2_with fail
  go_loopw [5] (fun z wr => ∃ k : Nat, k ≤ l.length ∧ z = .int .i64 k ∧ Hid (l.take k = m.take k ∧ Below w.heap.size w wr)) (fun z _ => l.length - (intOf z).toNat)
  case atStart => exact ⟨0, by omega, rfl, Lib.hid ⟨rfl, Below.refl _ _⟩⟩
  case round =>
    obtain ⟨k, hk, rfl, HR⟩ := hrel
    by_cases hlt : k < l.length
    · obtain ⟨⟨x, y, s⟩, ha⟩ : ∃ a, l[k]? = some a := ⟨_, List.getElem?_eq_getElem hlt⟩
      have hltm : k < m.length := by have := HLEN.out; omega
      obtain ⟨⟨x', y', s'⟩, hb'⟩ : ∃ a, m[k]? = some a := ⟨_, List.getElem?_eq_getElem hltm⟩
      obtain ⟨a, rfl, hqa⟩ : ∃ a, up = some a ∧ EsAt w a l := by
        rcases HU.out with ⟨_, h⟩ | ⟨a, c, h1, _, _, h2⟩
        · rw [h] at hlt; cases hlt
        · simp only [Value.slice.injEq] at h1; exact ⟨a, h1.1, h2⟩
      obtain ⟨b, rfl, hqb⟩ : ∃ a, vp = some a ∧ EsAt w a m := by
        rcases HV.out with ⟨_, h⟩ | ⟨a, c, h1, _, _, h2⟩
        · rw [h] at hltm; cases hltm
        · simp only [Value.slice.injEq] at h1; exact ⟨a, h1.1, h2⟩
      have hqa' := hqa.below HR.out.2
      have hqb' := hqb.below HR.out.2
      have a0 := hqa'.at0 k _ ha
      have a1 := hqa'.at1 k _ ha
      have a2 := hqa'.at2 k _ ha
      have b0 := hqb'.at0 k _ hb'
      have b1 := hqb'.at1 k _ hb'
      have b2 := hqb'.at2 k _ hb'
      have HS := Lib.hid (take_eq_step ha hb' HR.out.1)
      clear hqa hqb hqa' hqb' ha hb'
      have hguard : Tryz.prog.eqGuardType Tryz.prog.depth 72 = false := by kernel_rfl
      have heq : ∀ W : World, (Op.equalIn 10000 72 (.agg #[.int .i64 x, .int .i64 y, .int .i64 s]) (.agg #[.int .i64 x', .int .i64 y', .int .i64 s'])).run Tryz.prog W = .ok (decide ((⟨x, y, s⟩ : E) = ⟨x', y', s'⟩)) W := fun W => equalIn_E x y s x' y' s' W
      go_wp2
      go_quiet (fail)
      by_cases hq : (⟨x, y, s⟩ : E) = ⟨x', y', s'⟩
      · have hv : (!decide (x = x') || (!decide (y = y') || !decide (s = s'))) = false := by
          simp only [E.mk.injEq] at hq
          simp [hq.1, hq.2.1, hq.2.2]
        have HN : Hid (l.take (k + 1) = m.take (k + 1)) := Lib.hid (HS.out.2 hq)
        rw [hv]
        have HB := Lib.hid (HR.out.2.trans (below_drewN _ wr nq))
        clear hq hv heq a0 a1 a2 b0 b1 b2
        go_wp2_with fail
        go_roundw
        case rel => exact ⟨k + 1, by omega, by go_num, Lib.hid ⟨HN.out, HB.out⟩⟩
        case measure => simp [intOf]; omega
      · have hv : (!decide (x = x') || (!decide (y = y') || !decide (s = s'))) = true := by
          simp only [E.mk.injEq] at hq
          by_cases h1 : x = x' <;> by_cases h2 : y = y' <;> by_cases h3 : s = s' <;> simp_all
        have HN : Hid (decide (l = m) = false) := Lib.hid (decide_eq_false (fun e => hq (HS.out.1 (by rw [e]))))
        rw [hv]
        have HB := Lib.hid (HR.out.2.trans (below_drewN _ wr nq))
        clear hq hv heq a0 a1 a2 b0 b1 b2
        go_wp2_with fail
        go_ret
        exact ⟨by rw [HN.out]; rfl, HB.out⟩
    · obtain rfl : k = l.length := by omega
      have hfin : l = m := by
        have h1 := HR.out.1
        rw [List.take_length, HLEN.out, List.take_length] at h1; exact h1
      have HF : Hid (decide (l = m) = true) := Lib.hid (decide_eq_true hfin)
      clear hfin
      go_wp2_with fail
      go_ret
      exact ⟨by rw [HF.out]; rfl, HR.out.2⟩

/-! ### same -/
theorem HasQQ.at {W : World} {p : Option Addr} {n c : Nat} {ls : List (List Q)} (h : HasQQ W (.slice p n c) ls) {k : Nat} {l : List Q} (hk : ls[k]? = some l) :
    ∃ a x, p = some a ∧ W.cell? (a.add k) = some x ∧ HasQ W x l := by
  rcases h with ⟨_, h⟩ | ⟨a, c, vs, h1, _, _, h4, h5, h6⟩
  · rw [h] at hk; simp at hk
  · simp only [Value.slice.injEq] at h1
    obtain ⟨x, hx⟩ : ∃ u, vs[k]? = some u := ⟨_, List.getElem?_eq_getElem (by rw [h5]; exact (List.getElem?_eq_some_iff.1 hk).1)⟩
    exact ⟨a, x, h1.1, h4.at_ k x hx, h6 k x l hx hk⟩
set_option maxRecDepth 100000 in
set_option maxHeartbeats 2000000 in
theorem same_law (l m : List (List Q)) (u v : Value) (w : World) (hu : HasQQ w u l) (hv : HasQQ w v m) :
    Calls Tryz.prog 26 #[u, v] w fun e w' => e = .returned (.bool (decide (l = m))) ∧ Below w.heap.size w w' := by
  obtain ⟨up, uc, rfl⟩ := hu.slice
  obtain ⟨vp, vc, rfl⟩ := hv.slice
  have HU := Lib.hid hu; clear hu
  have HV := Lib.hid hv; clear hv
  have hlm : l.length ≤ maxLen := by
    rcases HU.out with ⟨_, h⟩ | ⟨a, c, vs, _, h1, h2, _⟩
    · rw [h]; decide
    · exact Nat.le_trans h1 h2
  simp only [maxLen] at hlm
  by_cases hlen : l.length = m.length
  case neg =>
    have hne : decide (l = m) = false := decide_eq_false (fun e => hlen (by rw [e]))
    have HNE := Lib.hid hne; clear hne
    have hb : ((l.length : Int) != (m.length : Int)) = true := by simpa using (fun e => hlen (by omega))
    go_enter Tryz.func26, Tryz.ntmps26
    go_wp2_with fail
    go_ret
    exact ⟨by rw [HNE.out]; rfl, Below.refl _ _⟩
  have hb : ((l.length : Int) != (m.length : Int)) = false := by simp [hlen]
  have HLEN := Lib.hid hlen; clear hlen
  go_enter Tryz.func26, Tryz.ntmps26
  go_wp2_with fail
  go_loopw [5] (fun z wr => ∃ k : Nat, k ≤ l.length ∧ z = .int .i64 k ∧ Hid (l.take k = m.take k ∧ Below w.heap.size w wr)) (fun z _ => l.length - (intOf z).toNat)
  case atStart => exact ⟨0, by omega, rfl, Lib.hid ⟨rfl, Below.refl _ _⟩⟩
  case round =>
    obtain ⟨k, hk, rfl, HR⟩ := hrel
    by_cases hlt : k < l.length
    · obtain ⟨la, ha⟩ : ∃ a, l[k]? = some a := ⟨_, List.getElem?_eq_getElem hlt⟩
      have hltm : k < m.length := by have := HLEN.out; omega
      obtain ⟨lb, hb'⟩ : ∃ a, m[k]? = some a := ⟨_, List.getElem?_eq_getElem hltm⟩
      obtain ⟨a, x, rfl, a0, hx⟩ := (HU.out.below HR.out.2).at ha
      obtain ⟨b, y, rfl, b0, hy⟩ := (HV.out.below HR.out.2).at hb'
      obtain ⟨px, cx, rfl⟩ := hx.slice
      obtain ⟨py, cy, rfl⟩ := hy.slice
      have HS := Lib.hid (take_eq_step ha hb' HR.out.1)
      have HX := Lib.hid hx
      have HY := Lib.hid hy
      clear hx hy ha hb'
      go_wp2_with fail
      refine wp_region_qd 8 (by kernel_rfl) (by kernel_rfl) ?_
      simp only [List.take_succ_cons, List.take_zero, List.drop_succ_cons, List.drop_zero]
      repeat (go_big_quiet_step (fail))
      refine wpQuiet_nil ?_
      intro nq
      go_wp2_with fail
      refine (equal_ref la lb _ _ _ (HX.out.below (below_drewN _ wr nq)) (HY.out.below (below_drewN _ wr nq))).mono ?_
      rintro e w2 ⟨rfl, hB2⟩
      have HB := Lib.hid (HR.out.2.trans (((below_drewN _ wr nq).trans hB2).mono HR.out.2.size))
      clear hB2 a0 b0 HX HY
      by_cases hq : la = lb
      · have HN : Hid (l.take (k + 1) = m.take (k + 1)) := Lib.hid (HS.out.2 hq)
        rw [decide_eq_true hq]
        clear hq
        go_wp2_with fail
        go_roundw
        case rel => exact ⟨k + 1, by omega, by go_num, Lib.hid ⟨HN.out, HB.out⟩⟩
        case measure => simp [intOf]; omega
      · have HN : Hid (decide (l = m) = false) := Lib.hid (decide_eq_false (fun e => hq (HS.out.1 (by rw [e]))))
        rw [decide_eq_false hq]
        clear hq
        go_wp2_with fail
        go_ret
        exact ⟨by rw [HN.out]; rfl, HB.out⟩
    · obtain rfl : k = l.length := by omega
      have hfin : l = m := by
        have h1 := HR.out.1
        rw [List.take_length, HLEN.out, List.take_length] at h1; exact h1
      have HF : Hid (decide (l = m) = true) := Lib.hid (decide_eq_true hfin)
      clear hfin
      go_wp2_with fail
      go_ret
      exact ⟨by rw [HF.out]; rfl, HR.out.2⟩
end Go.Proofs.YtimnmfjbfbkooaaGreatDoor

/- Border. -/
namespace Go.Proofs.YtimnmfjbfbkooaaGreatDoor
set_option linter.all false
set_option linter.unusedSimpArgs false
set_option linter.unusedVariables false
open Go.RowKit
attribute [local go_sem] Oper.semAt_some

def oneP (l : List Q) : Bool := decide (l.length = 1)
/-- The edges that one quarter has. -/
def borderE (l : List Q) : List E := ((ownL [] l).filter (fun m => oneP m.2)).map (·.1)
set_option maxRecDepth 100000 in
theorem oneP_any (l : List Q) (v : Value) (w : World) (h : HasQ w v l) :
    Calls Tryz.prog 63 #[v] w fun e w' => e = .returned (.bool (oneP l)) ∧ Below w.heap.size w w' := by
  obtain ⟨p, c, rfl⟩ := h.slice
  have hl : l.length ≤ maxLen := by
    rcases h with ⟨_, h⟩ | ⟨a, c, _, h1, h2, _⟩
    · rw [h]; decide
    · exact Nat.le_trans h1 h2
  simp only [maxLen] at hl
  clear h
  have HO : Hid (oneP l = decide (l.length = 1)) := Lib.hid rfl
  by_cases h1 : l.length = 1
  · have hb : ((l.length : Int) == 1) = true := by rw [h1]; rfl
    have HR : Hid (oneP l = true) := Lib.hid (by rw [HO.out]; exact decide_eq_true h1)
    clear h1
    go_enter Tryz.func63, Tryz.ntmps63
    go_wp2_with fail
    go_ret
    exact ⟨ret_bool (by first | exact HR.out.symm | (rw [HR.out]; simp <;> omega)), Below.refl _ _⟩
  · have hb : ((l.length : Int) == 1) = false := by rw [beq_eq_false_iff_ne]; omega
    have HR : Hid (oneP l = false) := Lib.hid (by rw [HO.out]; exact decide_eq_false h1)
    clear h1
    go_enter Tryz.func63, Tryz.ntmps63
    go_wp2_with fail
    go_ret
    exact ⟨ret_bool (by first | exact HR.out.symm | (rw [HR.out]; simp <;> omega)), Below.refl _ _⟩
set_option maxRecDepth 100000 in
set_option maxHeartbeats 4000000 in
theorem Border_any (l : List Q) (v : Value) (w : World) (hv : HasQ w v l) :
    Calls Tryz.prog 24 #[v] w fun e w' => ∃ u es, e = .returned (.tuple #[u, .int .i64 (checkN l)]) ∧ HasEs w' u es ∧ (checkN l ≠ 0 → es = []) ∧ (checkN l = 0 → es.Perm (borderE l) ∧ es.Pairwise (fun a b => ¬ ltE b a)) ∧ Below w.heap.size w w' := by
  obtain ⟨vp, vc, rfl⟩ := hv.slice
  have HV := Lib.hid hv; clear hv
  have hmm := @run_makeMap Tryz.prog
  go_enter Tryz.func24, Tryz.ntmps24
  go_wp2_with fail
  refine (check_any l _ w HV.out).mono ?_
  rintro e w1 ⟨rfl, hB1⟩
  have HB1 := Lib.hid hB1
  clear hB1
  by_cases hc : checkN l = 0
  case neg =>
    have hc1 : ((checkN l : Int) != 0) = true := by simpa using hc
    have HC : Hid (checkN l ≠ 0) := Lib.hid hc
    clear hc
    go_wp2_with fail
    go_ret2
    exact ⟨.slice none 0 0, [], rfl, .inl ⟨rfl, rfl⟩, fun _ => rfl, fun h => absurd h HC.out, HB1.out⟩
  have hc1 : ((checkN l : Int) != 0) = false := by simpa using hc
  have HC := Lib.hid hc
  have HOK := Lib.hid (checkN_ok hc)
  rw [hc]
  clear hc
  have hl400 : l.length ≤ 400 := HOK.out.2.2
  have hal : Below w1.heap.size w1 (w1.alloc (.map #[] 0)) := (Below.refl _ w1).alloc (Nat.le_refl _) _
  have hG : Grp (w1.alloc (.map #[] 0)) w1.heap.size (w1.heap.size + 1) [] [] := ⟨World.alloc_heap_new w1 _, rfl, fun m hm => (by cases hm), List.nodup_nil, fun i v m hv _ => (by simp at hv), fun i j u v _ hu _ => (by simp at hu)⟩
  have HOWN := Lib.hid (own_any w1.heap.size (w1.heap.size + 1) 0 [] [] l (.slice vp l.length vc) (w1.alloc (.map #[] 0)) hG (by rw [World.size_alloc]; exact Nat.le_refl _) ((HV.out.below HB1.out).below hal)
    (fun b hb => by have := (HV.out.below HB1.out).own_lt HOK.out.2.1 b hb; exact ⟨by omega, by omega⟩) HOK.out.1.1 (fun m hm => by cases hm) (by omega))
  clear hal hG
  go_wp2_with fail
  clear hmm
  refine HOWN.out.mono ?_
  rintro e w2 ⟨rfl, ⟨vs', hg'⟩, _, hBB⟩
  have HG := Lib.hid hg'
  have HB2 : Hid (Below w.heap.size w w2) := Lib.hid (by
    have h0 : Below w1.heap.size w1 w2 := ((Below.refl _ w1).alloc (Nat.le_refl _) _).trans (hBB.below (by omega) (Nat.le_refl _))
    exact HB1.out.trans (h0.mono HB1.out.size))
  clear hg' hBB HOWN
  have hML : (ownL [] l).length ≤ 1000000 := by
    have := ownL_length l []
    simp only [List.length_nil] at this; omega
  have HORD := Lib.hid (ordered_any w1.heap.size (w1.heap.size + 1) 63 #[] (ownL [] l) vs' oneP w2 HG.out hML
    (fun args w => by kernel_rfl)
    (fun W i v m hB hv hm => oneP_any m.2 v W ((HG.out.each i v m hv hm).has.below hB)))
  clear hML
  go_wp2_with fail
  refine HORD.out.mono ?_
  rintro e w5 ⟨u, es, rfl, hes, hperm, hsort, hBo⟩
  have HE := Lib.hid hes; clear hes
  have HP := Lib.hid hperm; clear hperm
  have HS := Lib.hid hsort; clear hsort
  have HB5 := Lib.hid (HB2.out.trans (hBo.mono HB2.out.size)); clear hBo
  go_wp2_with fail
  go_ret2
  exact ⟨u, es, by rw [HC.out]; rfl, HE.out, fun h => absurd HC.out h, fun _ => ⟨HP.out, HS.out⟩, HB5.out⟩
end Go.Proofs.YtimnmfjbfbkooaaGreatDoor

/- Plain maths: which quarters have an edge. -/
namespace Go.Proofs.YtimnmfjbfbkooaaGreatDoor
set_option linter.all false
set_option linter.unusedSimpArgs false
set_option linter.unusedVariables false
open Go.RowKit

/-- The quarters of a shape that have an edge. -/
def whoE (l : List Q) (e : E) : List Q := l.filter fun q => decide (e ∈ edgesQ q)
def GoodM (M : List (E × List Q)) (f : E → List Q) : Prop := (M.map (·.1)).Nodup ∧ (∀ m ∈ M, m.2 = f m.1) ∧ (∀ e, f e ≠ [] → e ∈ M.map (·.1)) ∧ ∀ m ∈ M, m.2 ≠ []
theorem addE_keys {M : List (E × List Q)} {e : E} {q : Q} (h : (M.map (·.1)).Nodup) : ((addE M e q).map (·.1)).Nodup ∧ (∀ x, x ∈ (addE M e q).map (·.1) ↔ x = e ∨ x ∈ M.map (·.1)) := by
  induction M with
  | nil => simp [addE]
  | cons m M ih =>
    unfold addE
    rw [List.map_cons, List.nodup_cons] at h
    by_cases he : m.1 = e
    · rw [if_pos he]
      refine ⟨by rw [List.map_cons, List.nodup_cons]; rw [← he]; exact h, fun x => ?_⟩
      simp only [List.map_cons, List.mem_cons]
      constructor
      · rintro (h1 | h1)
        · exact .inl h1
        · exact .inr (.inr h1)
      · rintro (h1 | h1 | h1)
        · exact .inl h1
        · exact .inl (h1.trans he)
        · exact .inr h1
    · rw [if_neg he]
      obtain ⟨i1, i2⟩ := ih h.2
      refine ⟨by rw [List.map_cons, List.nodup_cons]; exact ⟨fun h' => by rcases (i2 _).1 h' with h'' | h''; exact he h''; exact h.1 h'', i1⟩, fun x => ?_⟩
      simp only [List.map_cons, List.mem_cons, i2]
      constructor
      · rintro (h1 | h1 | h1)
        · exact .inr (.inl h1)
        · exact .inl h1
        · exact .inr (.inr h1)
      · rintro (h1 | h1 | h1)
        · exact .inr (.inl h1)
        · exact .inl h1
        · exact .inr (.inr h1)
theorem addE_val {M : List (E × List Q)} {e : E} {q : Q} {f : E → List Q} (h : GoodM M f) : GoodM (addE M e q) (fun x => if x = e then f e ++ [q] else f x) := by
  obtain ⟨h1, h2, h3, h4⟩ := h
  obtain ⟨k1, k2⟩ := addE_keys (e := e) (q := q) h1
  refine ⟨k1, ?_, fun x hx => ?_, ?_⟩
  · by_cases hm : e ∈ M.map (·.1)
    · obtain ⟨m, hmM, rfl⟩ := List.mem_map.1 hm
      obtain ⟨M1, M2, rfl⟩ := List.append_of_mem hmM
      have hno : ∀ x ∈ M1, x.1 ≠ m.1 := fun x hx e => by
        rw [List.map_append, List.nodup_append] at h1
        exact h1.2.2 x.1 (List.mem_map.2 ⟨x, hx, rfl⟩) m.1 (by simp) e
      have hno2 : ∀ x ∈ M2, x.1 ≠ m.1 := fun x hx e => by
        rw [List.map_append, List.nodup_append, List.map_cons, List.nodup_cons] at h1
        exact h1.2.1.1 (List.mem_map.2 ⟨x, hx, e⟩)
      rw [show (m : E × List Q) = (m.1, m.2) from rfl, addE_hit hno q]
      intro x hx
      rcases List.mem_append.1 hx with hx | hx
      · simp only [if_neg (hno x hx)]; exact h2 x (by simp [hx])
      · rcases List.mem_cons.1 hx with rfl | hx
        · simp only [if_true]; rw [h2 m (by simp)]
        · simp only [if_neg (hno2 x hx)]; exact h2 x (by simp [hx])
    · have hno : ∀ x ∈ M, x.1 ≠ e := fun x hx he => hm (List.mem_map.2 ⟨x, hx, he⟩)
      rw [addE_miss hno q]
      have hfe : f e = [] := by
        by_cases h : f e = []
        · exact h
        · exact absurd (h3 e h) hm
      intro x hx
      rcases List.mem_append.1 hx with hx | hx
      · simp only [if_neg (hno x hx)]; exact h2 x hx
      · rw [List.mem_singleton] at hx; subst hx; simp [hfe]
  · rw [k2]
    by_cases he : x = e
    · exact .inl he
    · simp only [if_neg he] at hx; exact .inr (h3 x hx)
  · by_cases hm : e ∈ M.map (·.1)
    · obtain ⟨m, hmM, rfl⟩ := List.mem_map.1 hm
      obtain ⟨M1, M2, rfl⟩ := List.append_of_mem hmM
      have hno : ∀ x ∈ M1, x.1 ≠ m.1 := fun x hx e => by
        rw [List.map_append, List.nodup_append] at h1
        exact h1.2.2 x.1 (List.mem_map.2 ⟨x, hx, rfl⟩) m.1 (by simp) e
      rw [show (m : E × List Q) = (m.1, m.2) from rfl, addE_hit hno q]
      intro x hx
      rcases List.mem_append.1 hx with hx | hx
      · exact h4 x (by simp [hx])
      · rcases List.mem_cons.1 hx with rfl | hx
        · simp
        · exact h4 x (by simp [hx])
    · have hno : ∀ x ∈ M, x.1 ≠ e := fun x hx he => hm (List.mem_map.2 ⟨x, hx, he⟩)
      rw [addE_miss hno q]
      intro x hx
      rcases List.mem_append.1 hx with hx | hx
      · exact h4 x hx
      · rw [List.mem_singleton] at hx; subst hx; simp
theorem edgesQ_nodup {q : Q} (h : inQ q) : (edgesQ q).Nodup := by
  obtain ⟨x, y, s, rfl, hx, hy, hs⟩ := inQ_nat h
  rcases (by omega : s = 0 ∨ s = 1 ∨ s = 2 ∨ s = 3) with rfl | rfl | rfl | rfl <;> simp [edgesQ, sideE]
theorem foldE_val {f : E → List Q} {q : Q} : ∀ {es : List E} {M : List (E × List Q)} {f : E → List Q}, GoodM M f → es.Nodup → GoodM (es.foldl (fun M e => addE M e q) M) (fun x => if x ∈ es then f x ++ [q] else f x)
  | [], M, f, h, _ => by simpa using h
  | e :: es, M, f, h, hn => by
    rw [List.nodup_cons] at hn
    have h1 := foldE_val (f := f) (q := q) (es := es) (addE_val (e := e) (q := q) h) hn.2
    rw [List.foldl_cons]
    have e2 : (fun x => if x ∈ es then (if x = e then f e ++ [q] else f x) ++ [q] else if x = e then f e ++ [q] else f x) = fun x => if x ∈ e :: es then f x ++ [q] else f x := by
      funext x
      by_cases hx : x = e
      · subst hx; simp [hn.1]
      · simp [hx]
    rw [← e2]; exact h1
theorem ownL_good : ∀ {l : List Q} {M : List (E × List Q)} {f : E → List Q}, GoodM M f → (∀ q ∈ l, inQ q) → GoodM (ownL M l) (fun e => f e ++ whoE l e)
  | [], M, f, h, _ => by simpa [whoE, ownL] using h
  | q :: l, M, f, h, hq => by
    have h1 := foldE_val (f := f) (q := q) h (edgesQ_nodup (hq q (by simp)))
    have h2 := ownL_good (l := l) h1 (fun p hp => hq p (by simp [hp]))
    have e2 : (fun e => (if e ∈ edgesQ q then f e ++ [q] else f e) ++ whoE l e) = fun e => f e ++ whoE (q :: l) e := by
      funext e
      unfold whoE
      by_cases he : e ∈ edgesQ q
      · rw [if_pos he, List.filter_cons_of_pos (by simpa using he)]; simp
      · rw [if_neg he, List.filter_cons_of_neg (by simpa using he)]
    rw [e2] at h2
    exact h2
theorem ownL_who {l : List Q} (h : ∀ q ∈ l, inQ q) : GoodM (ownL [] l) (whoE l) := by
  have := ownL_good (l := l) (M := []) (f := fun _ => []) ⟨by simp, fun m hm => (by cases hm), fun e he => absurd rfl he, fun m hm => (by cases hm)⟩ h
  simpa using this
/-- The edges of which something is true of the quarters that have them. -/
theorem pick_mem {l : List Q} (h : ∀ q ∈ l, inQ q) {p : List Q → Bool} (hp : p [] = false) (e : E) : e ∈ ((ownL [] l).filter (fun m => p m.2)).map (·.1) ↔ p (whoE l e) = true := by
  obtain ⟨h1, h2, h3, h4⟩ := ownL_who h
  rw [List.mem_map]
  constructor
  · rintro ⟨m, hm, rfl⟩
    rw [List.mem_filter] at hm
    rw [← h2 m hm.1]; exact hm.2
  · intro hpe
    have hne : whoE l e ≠ [] := fun e0 => by rw [e0, hp] at hpe; cases hpe
    obtain ⟨m, hm, he⟩ := List.mem_map.1 (h3 e hne)
    refine ⟨m, List.mem_filter.2 ⟨hm, ?_⟩, he⟩
    rw [h2 m hm, he]; exact hpe
theorem pick_nodup {l : List Q} (h : ∀ q ∈ l, inQ q) (p : List Q → Bool) : (((ownL [] l).filter (fun m => p m.2)).map (·.1)).Nodup :=
  (ownL_who h).1.sublist (List.filter_sublist.map _)
end Go.Proofs.YtimnmfjbfbkooaaGreatDoor

/- Plain maths: the reference's Border. -/
namespace Go.Proofs.YtimnmfjbfbkooaaGreatDoor
set_option linter.all false
set_option linter.unusedSimpArgs false
set_option linter.unusedVariables false
open Go.RowKit

def SrtE (l : List E) : Prop := l.Pairwise fun a b => ¬ ltE b a
theorem ltE_tri {a b : E} (h1 : ¬ ltE a b) (h2 : ¬ ltE b a) : a = b := by
  unfold ltE E.toQ Q.lt at h1 h2
  simp only at h1 h2
  exact E.ext' (by omega) (by omega) (by omega)
theorem ltE_trans' {a b c : E} (h1 : ¬ ltE b a) (h2 : ¬ ltE c b) : ¬ ltE c a := by
  unfold ltE E.toQ Q.lt at *
  simp only at *
  omega
theorem ltE_asymm {a b : E} (h : ltE a b) : ¬ ltE b a := by
  unfold ltE E.toQ Q.lt at *
  simp only at *
  omega
theorem srtE_eq : ∀ {l m : List E}, SrtE l → SrtE m → l.Perm m → l = m
  | [], m, _, _, h => by rw [List.nil_perm.1 h]
  | a :: l, [], _, _, h => by have := h.length_eq; simp at this
  | a :: l, b :: m, hl, hm, h => by
    unfold SrtE at hl hm
    rw [List.pairwise_cons] at hl hm
    have hab : a = b := by
      by_cases e : a = b
      · exact e
      · have ha : a ∈ m := by
          rcases List.mem_cons.1 (h.mem_iff.1 (List.mem_cons_self (a := a) (l := l))) with h' | h'
          · exact absurd h' e
          · exact h'
        have hb : b ∈ l := by
          rcases List.mem_cons.1 (h.mem_iff.2 (List.mem_cons_self (a := b) (l := m))) with h' | h'
          · exact absurd h'.symm e
          · exact h'
        exact ltE_tri (hm.1 a ha) (hl.1 b hb)
    subst hab
    rw [srtE_eq hl.2 hm.2 (List.Perm.cons_inv h)]
theorem srtE_ins {l : List E} {e : E} {j : Nat} (hs : SrtE l) (hlow : ∀ i f, i < j → l[i]? = some f → ltE f e) (hhigh : ∀ f, l[j]? = some f → ¬ ltE f e) : SrtE (l.take j ++ [e] ++ l.drop j) := by
  unfold SrtE at *
  have hdrop : ∀ y ∈ l.drop j, ¬ ltE y e := by
    intro y hy
    obtain ⟨d, hd, rfl⟩ := List.getElem_of_mem hy
    rw [List.getElem_drop]
    have hjl : j < l.length := by rw [List.length_drop] at hd; omega
    have h0 := hhigh _ (List.getElem?_eq_getElem hjl)
    rcases Nat.eq_zero_or_pos d with rfl | hd0
    · exact h0
    · have hdl : j + d < l.length := by rw [List.length_drop] at hd; omega
      exact ltE_trans' h0 (List.pairwise_iff_getElem.1 hs j (j + d) hjl hdl (by omega))
  rw [List.append_assoc]
  refine List.pairwise_append.2 ⟨hs.sublist (List.take_sublist _ _), ?_, ?_⟩
  · rw [List.singleton_append]
    exact List.pairwise_cons.2 ⟨hdrop, hs.sublist (List.drop_sublist _ _)⟩
  · intro a ha b hb
    have hae : ltE a e := by
      obtain ⟨i, hi, rfl⟩ := List.getElem_of_mem ha
      rw [List.length_take] at hi
      rw [List.getElem_take]
      exact hlow i _ (by omega) (List.getElem?_eq_getElem (by omega))
    rcases List.mem_cons.1 (by simpa using hb) with rfl | hb
    · exact ltE_asymm hae
    · exact ltE_trans' (ltE_asymm hae) (hdrop b hb)
theorem permE_ins {ls ms : List E} {X : E} (j : Nat) (h : ls.Perm ms) : (ls.take j ++ [X] ++ ls.drop j).Perm (ms ++ [X]) := by
  have e : (ls.take j ++ [X] ++ ls.drop j).Perm (ls.take j ++ ls.drop j ++ [X]) := by
    rw [List.append_assoc, List.append_assoc]
    exact List.Perm.append_left _ List.perm_append_comm
  rw [List.take_append_drop] at e
  exact e.trans (h.append_right _)
/-- No other quarter of the first k has the edge. -/
def aloneK (l : List Q) (i : Nat) (e : E) (k : Nat) : Bool := (List.range k).all fun j => decide (j = i) || (match l[j]? with | some q => decide (e ∉ edgesQ q) | none => true)
theorem aloneK_step {l : List Q} {i k : Nat} {q : Q} (e : E) (h : l[k]? = some q) : aloneK l i e (k + 1) = (aloneK l i e k && (decide (k = i) || decide (e ∉ edgesQ q))) := by
  unfold aloneK
  rw [List.range_succ, List.all_append]
  simp [h]
def rowE (l : List Q) (i n : Nat) : List E := match l[i]? with | some q => ((edgesQ q).take n).filter fun e => aloneK l i e l.length | none => []
def bPart (l : List Q) (i n : Nat) : List E := ((List.range i).flatMap fun a => rowE l a 3) ++ rowE l i n
theorem edgesQ_length (q : Q) : (edgesQ q).length = 3 := rfl
theorem bPart_zero (l : List Q) : bPart l 0 0 = [] := by unfold bPart rowE; cases l[0]? <;> simp
theorem bPart_row {l : List Q} {i : Nat} : bPart l (i + 1) 0 = bPart l i 3 := by
  unfold bPart
  rw [List.range_succ, List.flatMap_append]
  have : rowE l (i + 1) 0 = [] := by unfold rowE; cases l[i + 1]? <;> simp
  rw [this]; simp
theorem bPart_step {l : List Q} {i n : Nat} {q : Q} {e : E} (h : l[i]? = some q) (he : (edgesQ q)[n]? = some e) : bPart l i (n + 1) = bPart l i n ++ (if aloneK l i e l.length then [e] else []) := by
  unfold bPart rowE
  rw [h]
  simp only [List.append_assoc]
  congr 1
  rw [take_snocG he, List.filter_append]
  congr 1
  by_cases hb : aloneK l i e l.length = true
  · simp [hb]
  · simp [hb]
theorem alone_iff {l : List Q} {i : Nat} {q : Q} {e : E} (hn : l.Nodup) (h : l[i]? = some q) (he : e ∈ edgesQ q) : aloneK l i e l.length = true ↔ whoE l e = [q] := by
  have hmem : q ∈ whoE l e := List.mem_filter.2 ⟨List.mem_of_getElem? h, by simpa using he⟩
  have hnd : (whoE l e).Nodup := hn.sublist List.filter_sublist
  obtain ⟨hi, hi'⟩ := List.getElem?_eq_some_iff.1 h
  constructor
  · intro ha
    have hall : ∀ p ∈ whoE l e, p = q := fun p hp => by
      obtain ⟨hpl, hpe⟩ := List.mem_filter.1 hp
      obtain ⟨j, hj, rfl⟩ := List.getElem_of_mem hpl
      have := List.all_eq_true.1 ha j (List.mem_range.2 hj)
      rw [List.getElem?_eq_getElem hj] at this
      simp only [Bool.or_eq_true, decide_eq_true_eq] at this hpe
      rcases this with h' | h'
      · subst h'; exact hi'
      · exact absurd hpe h'
    rcases hw : whoE l e with _ | ⟨a, t⟩
    · rw [hw] at hmem; simp at hmem
    · rw [hw] at hall hnd
      have ha := hall a (by simp)
      subst ha
      rcases t with _ | ⟨b, t⟩
      · rfl
      · have hb := hall b (by simp)
        subst hb
        rw [List.nodup_cons] at hnd
        exact absurd (by simp) hnd.1
  · intro hw
    unfold aloneK
    rw [List.all_eq_true]
    intro j hj
    rw [List.mem_range] at hj
    rw [List.getElem?_eq_getElem hj]
    simp only [Bool.or_eq_true, decide_eq_true_eq]
    by_cases hji : j = i
    · exact .inl hji
    · refine .inr fun hje => hji ?_
      have hp : l[j] ∈ whoE l e := List.mem_filter.2 ⟨List.getElem_mem hj, by simpa using hje⟩
      rw [hw, List.mem_singleton] at hp
      exact (List.getElem_inj hn).1 (hp.trans hi'.symm)
theorem mem_bPart {l : List Q} (hn : l.Nodup) {e : E} : e ∈ bPart l l.length 0 ↔ oneP (whoE l e) = true := by
  have h0 : rowE l l.length 0 = [] := by unfold rowE; simp
  unfold bPart
  rw [h0, List.append_nil, List.mem_flatMap]
  unfold oneP
  rw [decide_eq_true_eq]
  constructor
  · rintro ⟨a, ha, he⟩
    rw [List.mem_range] at ha
    have hg := List.getElem?_eq_getElem ha
    unfold rowE at he
    rw [hg] at he
    simp only at he
    obtain ⟨h1, h2⟩ := List.mem_filter.1 he
    rw [(alone_iff hn hg (List.mem_of_mem_take h1)).1 h2]; rfl
  · intro hlen
    obtain ⟨q, hq⟩ := List.length_eq_one_iff.1 hlen
    have hqm : q ∈ whoE l e := by rw [hq]; simp
    obtain ⟨hql, hqe⟩ := List.mem_filter.1 hqm
    obtain ⟨a, ha, rfl⟩ := List.getElem_of_mem hql
    have hg := List.getElem?_eq_getElem ha
    refine ⟨a, List.mem_range.2 ha, ?_⟩
    unfold rowE
    rw [hg]
    have hqe' : e ∈ edgesQ l[a] := by simpa using hqe
    exact List.mem_filter.2 ⟨by rw [List.take_of_length_le (by rw [edgesQ_length]; exact Nat.le_refl _)]; exact hqe', (alone_iff hn hg hqe').2 hq⟩
theorem bPart_nodup {l : List Q} (hn : l.Nodup) (hq : ∀ q ∈ l, inQ q) : (bPart l l.length 0).Nodup := by
  have h0 : rowE l l.length 0 = [] := by unfold rowE; simp
  unfold bPart
  rw [h0, List.append_nil]
  unfold List.Nodup
  refine List.pairwise_flatMap.2 ⟨fun a ha => ?_, ?_⟩
  · rw [List.mem_range] at ha
    unfold rowE
    rw [List.getElem?_eq_getElem ha]
    exact ((edgesQ_nodup (hq _ (List.getElem_mem ha))).sublist (List.take_sublist _ _)).sublist List.filter_sublist
  · refine List.Pairwise.imp_of_mem ?_ List.pairwise_lt_range
    intro a b ha hb hab x hx y hy hxy
    subst hxy
    rw [List.mem_range] at ha hb
    unfold rowE at hx hy
    rw [List.getElem?_eq_getElem ha] at hx
    rw [List.getElem?_eq_getElem hb] at hy
    obtain ⟨x1, x2⟩ := List.mem_filter.1 hx
    obtain ⟨y1, y2⟩ := List.mem_filter.1 hy
    have e1 := (alone_iff hn (List.getElem?_eq_getElem ha) (List.mem_of_mem_take x1)).1 x2
    have e2 := (alone_iff hn (List.getElem?_eq_getElem hb) (List.mem_of_mem_take y1)).1 y2
    have : l[a] = l[b] := by rw [e1] at e2; exact List.singleton_inj.1 e2
    have := (List.getElem_inj hn).1 this
    omega
theorem border_perm {l : List Q} (hn : l.Nodup) (hq : ∀ q ∈ l, inQ q) : (bPart l l.length 0).Perm (borderE l) :=
  (List.perm_ext_iff_of_nodup (bPart_nodup hn hq) (pick_nodup hq oneP)).2 fun e => by
    rw [mem_bPart hn]; exact (pick_mem hq (by rfl) e).symm
theorem bPart_length (l : List Q) (i n : Nat) : (bPart l i n).length ≤ 3 * i + 3 := by
  have hrow : ∀ a n, (rowE l a n).length ≤ 3 := fun a n => by
    unfold rowE
    split
    · exact Nat.le_trans (List.length_filter_le _ _) (by rw [List.length_take, edgesQ_length]; omega)
    · simp
  unfold bPart
  rw [List.length_append]
  have h1 : ((List.range i).flatMap fun a => rowE l a 3).length ≤ 3 * i := by
    induction i with
    | zero => simp
    | succ i ih =>
      rw [List.range_succ, List.flatMap_append, List.length_append]
      have := hrow i 3
      simp only [List.flatMap_cons, List.flatMap_nil, List.append_nil]
      omega
  have := hrow i n
  omega
end Go.Proofs.YtimnmfjbfbkooaaGreatDoor

/- The reference's Border; printed by mkborder.py. -/
namespace Go.Proofs.YtimnmfjbfbkooaaGreatDoor
set_option linter.all false
set_option linter.unusedSimpArgs false
set_option linter.unusedVariables false
open Go.RowKit
attribute [local go_sem] Oper.semAt_some

theorem edges_three (q : Q) : ∃ a0 b0 c0 a1 b1 c1 a2 b2 c2 : Int, edgesQ q = [⟨a0, b0, c0⟩, ⟨a1, b1, c1⟩, ⟨a2, b2, c2⟩] ∧ edgesV q = .agg #[.int .i64 a0, .int .i64 b0, .int .i64 c0, .int .i64 a1, .int .i64 b1, .int .i64 c1, .int .i64 a2, .int .i64 b2, .int .i64 c2] :=
  ⟨_, _, _, _, _, _, _, _, _, rfl, rfl⟩
theorem equalE_yes (x y k : Int) (W : World) : (Op.equalIn 10000 72 (.agg #[.int .i64 x, .int .i64 y, .int .i64 k]) (.agg #[.int .i64 x, .int .i64 y, .int .i64 k])).run Tryz.prog W = .ok true W := by
  rw [equalIn_E]; simp
theorem equalE_no {x y k x' y' k' : Int} (h : ¬ (⟨x, y, k⟩ : E) = ⟨x', y', k'⟩) (W : World) : (Op.equalIn 10000 72 (.agg #[.int .i64 x, .int .i64 y, .int .i64 k]) (.agg #[.int .i64 x', .int .i64 y', .int .i64 k'])).run Tryz.prog W = .ok false W := by
  rw [equalIn_E, decide_eq_false h]
def Has9 (W : World) (b : Nat) (a0 b0 c0 a1 b1 c1 a2 b2 c2 : Int) : Prop := W.heap[b]? = some (.cells #[.int .i64 a0, .int .i64 b0, .int .i64 c0, .int .i64 a1, .int .i64 b1, .int .i64 c1, .int .i64 a2, .int .i64 b2, .int .i64 c2] 101)
theorem Has9.below {W W' : World} {b : Nat} {a0 b0 c0 a1 b1 c1 a2 b2 c2 : Int} (h : Has9 W b a0 b0 c0 a1 b1 c1 a2 b2 c2) (e : Below W.heap.size W W') : Has9 W' b a0 b0 c0 a1 b1 c1 a2 b2 c2 := (e.block _ (Array.getElem?_eq_some_iff.1 h).1).trans h
theorem Has9.cells {W : World} {b : Nat} {a0 b0 c0 a1 b1 c1 a2 b2 c2 : Int} (h : Has9 W b a0 b0 c0 a1 b1 c1 a2 b2 c2) :
    (W.cell? ⟨b, 0, none⟩ = some (.int .i64 a0) ∧ W.cell? ⟨b, 1, none⟩ = some (.int .i64 b0) ∧ W.cell? ⟨b, 2, none⟩ = some (.int .i64 c0)) ∧ (W.cell? ⟨b, 3, none⟩ = some (.int .i64 a1) ∧ W.cell? ⟨b, 4, none⟩ = some (.int .i64 b1) ∧ W.cell? ⟨b, 5, none⟩ = some (.int .i64 c1)) ∧
      (W.cell? ⟨b, 6, none⟩ = some (.int .i64 a2) ∧ W.cell? ⟨b, 7, none⟩ = some (.int .i64 b2) ∧ W.cell? ⟨b, 8, none⟩ = some (.int .i64 c2)) := by
  unfold Has9 at h
  refine ⟨⟨?_, ?_, ?_⟩, ⟨?_, ?_, ?_⟩, ?_, ?_, ?_⟩ <;> simp [World.cell?, h]
/-- What holds while the reference gathers edges. -/
structure BI (w W : World) (u : Value) (es : List E) : Prop where
  own : OwnEd W w.heap.size u es
  form : ∃ g cap, u = .slice (some ⟨g, 0, none⟩) es.length cap
  below : Below w.heap.size w W
theorem BI.keep {w W W' : World} {u : Value} {es : List E} (h : BI w W u es) (e : Below W.heap.size W W') : BI w W' u es :=
  ⟨owns_below h.own e, h.form, h.below.trans (e.mono h.below.size)⟩
theorem own_es {W : World} {base : Nat} {v : Value} {l : List E} (h : OwnEd W base v l) : HasEs W v l := by
  rcases h.2 with ⟨rfl, h0⟩ | ⟨g, cap, cur, rfl, h1, h2, h3, h4, h5⟩
  · exact .inl ⟨rfl, List.length_eq_zero_iff.1 h0⟩
  · refine .inr ⟨⟨g, 0, none⟩, cap, rfl, h3, h4, ⟨(h.lt g rfl).2, fun i q hq => ?_, fun i q hq => ?_, fun i q hq => ?_⟩⟩
    · exact World.ownsRow.cells h (g := g) rfl _ _ (eCells_get hq).1
    · have := World.ownsRow.cells h (g := g) rfl _ _ (eCells_get hq).2.1
      rw [addr_add] at this ⊢; simpa using this
    · have := World.ownsRow.cells h (g := g) rfl _ _ (eCells_get hq).2.2
      rw [addr_add] at this ⊢; simpa using this
set_option maxRecDepth 100000 in
set_option maxHeartbeats 16000000 in
theorem border_ref (l : List Q) (hc : checkN l = 0) (v : Value) (w : World) (hv : HasQ w v l) :
    Calls Tryz.prog 28 #[v] w fun e w' => ∃ u es, e = .returned u ∧ HasEs w' u es ∧ es.Perm (bPart l l.length 0) ∧ SrtE es ∧ Below w.heap.size w w' := by
  have HOK := Lib.hid (checkN_ok hc)
  have hll : l.length ≤ 400 := HOK.out.2.2
  clear hc
  obtain ⟨sp, sc, rfl⟩ := hv.slice
  obtain ⟨sa, rfl, hsq⟩ : ∃ a, sp = some a ∧ QsAt w a l := by
    rcases hv with ⟨_, h⟩ | ⟨a, c, h1, _, _, h2⟩
    · exact absurd h HOK.out.2.1
    · simp only [Value.slice.injEq] at h1; exact ⟨a, h1.1, h2⟩
  have HSQ := Lib.hid hsq; clear hsq hv
  have h0 : BI w (w.alloc (.cells #[] 72)) (.slice (some ⟨w.heap.size, 0, none⟩) 0 0) [] := ⟨⟨rfl, .inr ⟨w.heap.size, 0, #[], rfl, Nat.le_refl _, World.alloc_heap_new w _, Nat.le_refl _, by decide, rfl, rfl⟩⟩, ⟨_, _, rfl⟩, (Below.refl _ w).alloc (Nat.le_refl _) _⟩
  have H0 := Lib.hid h0
  clear h0
  go_enter Tryz.func28, Tryz.ntmps28
  go_wp2_with fail
  revert H0
  generalize w.alloc (.cells #[] 72) = w0
  generalize (Value.slice (some ⟨w.heap.size, 0, none⟩) 0 0) = v0
  intro H0
  go_loopw [3, 4] (fun u z wr => ∃ (i : Nat) (es : List E), i ≤ l.length ∧ z = .int .i64 i ∧ Hid (BI w wr u es ∧ es.Perm (bPart l i 0) ∧ SrtE es)) (fun _ z _ => l.length - (intOf z).toNat)
  case atStart => exact ⟨0, [], by omega, rfl, Lib.hid ⟨H0.out, by rw [bPart_zero], List.Pairwise.nil⟩⟩
  case round =>
    clear H0
    obtain ⟨i, es, hi, rfl, HR⟩ := hrel
    obtain ⟨g, cap, rfl⟩ := HR.out.1.form
    by_cases hlt : i < l.length
    · obtain ⟨q, hqi⟩ : ∃ q, l[i]? = some q := ⟨_, List.getElem?_eq_getElem hlt⟩
      have hqs := HSQ.out.below HR.out.1.below
      have c0 := hqs.at0 i q hqi
      have c1 := hqs.at1 i q hqi
      have c2 := hqs.at2 i q hqi
      have HQI := Lib.hid hqi
      obtain ⟨a0, b0, k0, a1, b1, k1, a2, b2, k2, he3, hev⟩ := edges_three q
      have HED := edges_ref q (HOK.out.1.1 q (List.mem_of_getElem? hqi)) wr
      rw [hev] at HED
      have HED := Lib.hid HED
      have HE3 := Lib.hid he3
      clear hqs hqi he3 hev
      obtain ⟨qx, qy, qs⟩ := q
      simp only at c0 c1 c2
      unfold Q.val at HED
      go_wp2_with fail
      refine HED.out.mono ?_
      rintro e w1 ⟨rfl, hB1⟩
      have HR1 := Lib.hid (And.intro (HR.out.1.keep hB1) HR.out.2)
      clear hB1 HR HED c0 c1 c2
      have hal : Below w1.heap.size w1 (w1.alloc (.cells #[.int .i64 a0, .int .i64 b0, .int .i64 k0, .int .i64 a1, .int .i64 b1, .int .i64 k1, .int .i64 a2, .int .i64 b2, .int .i64 k2] 101)) := (Below.refl _ w1).alloc (Nat.le_refl _) _
      have H9 : Hid (Has9 (w1.alloc (.cells #[.int .i64 a0, .int .i64 b0, .int .i64 k0, .int .i64 a1, .int .i64 b1, .int .i64 k1, .int .i64 a2, .int .i64 b2, .int .i64 k2] 101)) w1.heap.size a0 b0 k0 a1 b1 k1 a2 b2 k2) := Lib.hid (World.alloc_heap_new w1 _)
      have HR2 := Lib.hid (And.intro (HR1.out.1.keep hal) HR1.out.2)
      clear hal HR1
      go_wp2_with fail
      revert H9 HR2
      generalize w1.alloc (.cells #[.int .i64 a0, .int .i64 b0, .int .i64 k0, .int .i64 a1, .int .i64 b1, .int .i64 k1, .int .i64 a2, .int .i64 b2, .int .i64 k2] 101) = w2
      generalize w1.heap.size = eb
      intro H9 HR2
      go_loopw [3, 6] (fun u z wr => ∃ (n : Nat) (es : List E), n ≤ 3 ∧ z = .int .i64 n ∧ Hid (BI w wr u es ∧ es.Perm (bPart l i n) ∧ SrtE es ∧ Has9 wr eb a0 b0 k0 a1 b1 k1 a2 b2 k2)) (fun _ z _ => 3 - (intOf z).toNat)
      case atStart => exact ⟨0, es, by omega, rfl, Lib.hid ⟨HR2.out.1, HR2.out.2.1, HR2.out.2.2, H9.out⟩⟩
      case round =>
        clear HR2 H9
        obtain ⟨n, es, hn, rfl, HR⟩ := hrel
        obtain ⟨g, cap, rfl⟩ := HR.out.1.form
        by_cases hn3 : n < 3
        · obtain ⟨ex, ey, ek, hen⟩ : ∃ ex ey ek, (edgesQ ⟨qx, qy, qs⟩)[n]? = some ⟨ex, ey, ek⟩ := by
            rw [HE3.out]
            rcases (by omega : n = 0 ∨ n = 1 ∨ n = 2) with rfl | rfl | rfl
            · exact ⟨_, _, _, rfl⟩
            · exact ⟨_, _, _, rfl⟩
            · exact ⟨_, _, _, rfl⟩
          have HEN := Lib.hid hen
          have HN9 : Hid (∀ W, Has9 W eb a0 b0 k0 a1 b1 k1 a2 b2 k2 → W.cell? ⟨eb, n * 3, none⟩ = some (.int .i64 ex) ∧ W.cell? ⟨eb, n * 3 + 1, none⟩ = some (.int .i64 ey) ∧ W.cell? ⟨eb, n * 3 + 2, none⟩ = some (.int .i64 ek)) := Lib.hid (by
            intro W h9
            obtain ⟨⟨c0, c1, c2⟩, ⟨c3, c4, c5⟩, c6, c7, c8⟩ := h9.cells
            rw [HE3.out] at hen
            rcases (by omega : n = 0 ∨ n = 1 ∨ n = 2) with rfl | rfl | rfl
            · simp only [List.getElem?_cons_zero, Option.some.injEq, E.mk.injEq] at hen; obtain ⟨rfl, rfl, rfl⟩ := hen; exact ⟨c0, c1, c2⟩
            · simp only [List.getElem?_cons_succ, List.getElem?_cons_zero, Option.some.injEq, E.mk.injEq] at hen; obtain ⟨rfl, rfl, rfl⟩ := hen; exact ⟨c3, c4, c5⟩
            · simp only [List.getElem?_cons_succ, List.getElem?_cons_zero, Option.some.injEq, E.mk.injEq] at hen; obtain ⟨rfl, rfl, rfl⟩ := hen; exact ⟨c6, c7, c8⟩)
          clear hen
          have HES := Lib.hid HR.out.2
          have HBI := Lib.hid HR.out.1
          clear HR
          have e3 : decide ((n : Int) < 3) = true := decide_eq_true (by omega)
          go_wp2_with fail
          clear e3
          go_loopw [7, 8] (fun x z wr => ∃ (k : Nat) (b : Bool), k ≤ l.length ∧ z = .int .i64 k ∧ x = .bool b ∧ Hid (b = aloneK l i ⟨ex, ey, ek⟩ k ∧ BI w wr (.slice (some ⟨g, 0, none⟩) es.length cap) es ∧ Has9 wr eb a0 b0 k0 a1 b1 k1 a2 b2 k2)) (fun _ z _ => l.length - (intOf z).toNat)
          case atStart => exact ⟨0, true, by omega, rfl, rfl, Lib.hid ⟨rfl, HBI.out, HES.out.2.2⟩⟩
          case round =>
            clear HBI
            obtain ⟨k, b, hk, rfl, rfl, HR⟩ := hrel
            by_cases hkl : k < l.length
            · obtain ⟨p, hpk⟩ : ∃ p, l[k]? = some p := ⟨_, List.getElem?_eq_getElem hkl⟩
              have hqs := HSQ.out.below HR.out.2.1.below
              have c0 := hqs.at0 k p hpk
              have c1 := hqs.at1 k p hpk
              have c2 := hqs.at2 k p hpk
              obtain ⟨x0, y0, z0, x1, y1, z1, x2, y2, z2, he3, hev⟩ := edges_three p
              have hED := edges_ref p (HOK.out.1.1 p (List.mem_of_getElem? hpk)) wr
              rw [hev] at hED
              have HED := Lib.hid hED
              have HST := Lib.hid (aloneK_step (i := i) (⟨ex, ey, ek⟩ : E) hpk)
              have HIN : Hid (∀ e : E, e ∈ edgesQ p ↔ e = ⟨x0, y0, z0⟩ ∨ e = ⟨x1, y1, z1⟩ ∨ e = ⟨x2, y2, z2⟩) := Lib.hid (fun e => by rw [he3]; simp)
              have HP0 := Lib.hid (And.intro he3 rfl : edgesQ p = _ ∧ True = True)
              clear hqs hpk he3 hev hED HP0
              obtain ⟨px, py, ps⟩ := p
              simp only at c0 c1 c2
              unfold Q.val at HED
              go_wp2_with fail
              refine HED.out.mono ?_
              rintro e w3 ⟨rfl, hB3⟩
              have HR3 := Lib.hid (And.intro (HR.out.2.1.keep hB3) (HR.out.2.2.below hB3))
              have HBB := Lib.hid HR.out.1
              clear hB3 HR HED c0 c1 c2
              have hal : Below w3.heap.size w3 (w3.alloc (.cells #[.int .i64 x0, .int .i64 y0, .int .i64 z0, .int .i64 x1, .int .i64 y1, .int .i64 z1, .int .i64 x2, .int .i64 y2, .int .i64 z2] 101)) := (Below.refl _ w3).alloc (Nat.le_refl _) _
              have H9 : Hid (Has9 (w3.alloc (.cells #[.int .i64 x0, .int .i64 y0, .int .i64 z0, .int .i64 x1, .int .i64 y1, .int .i64 z1, .int .i64 x2, .int .i64 y2, .int .i64 z2] 101)) w3.heap.size x0 y0 z0 x1 y1 z1 x2 y2 z2) := Lib.hid (World.alloc_heap_new w3 _)
              have HR4 := Lib.hid (And.intro (HR3.out.1.keep hal) (HR3.out.2.below hal))
              clear hal HR3
              go_upto_region 14 with fail
              revert H9 HR4
              generalize w3.alloc (.cells #[.int .i64 x0, .int .i64 y0, .int .i64 z0, .int .i64 x1, .int .i64 y1, .int .i64 z1, .int .i64 x2, .int .i64 y2, .int .i64 z2] 101) = w4
              generalize w3.heap.size = ob
              intro H9 HR4
              have HRD : Hid (∀ m, BI w (w4.drewN m) (.slice (some ⟨g, 0, none⟩) es.length cap) es ∧ Has9 (w4.drewN m) eb a0 b0 k0 a1 b1 k1 a2 b2 k2) := Lib.hid (fun m => ⟨HR4.out.1.keep (below_drewN _ w4 m), HR4.out.2.below (below_drewN _ w4 m)⟩)
              obtain ⟨⟨d0, d1, d2⟩, ⟨d3, d4, d5⟩, d6, d7, d8⟩ := H9.out.cells
              obtain ⟨f0, f1, f2⟩ := HN9.out w4 HR4.out.2
              have hguard : Tryz.prog.eqGuardType Tryz.prog.depth 72 = false := by kernel_rfl
              clear H9 HR4
              cases b with
              | false =>
                have HNX : Hid (aloneK l i ⟨ex, ey, ek⟩ (k + 1) = false) := Lib.hid (by rw [HST.out, ← HBB.out, Bool.false_and])
                clear d0 d1 d2 d3 d4 d5 d6 d7 d8 f0 f1 f2 hguard
                go_quiet (fail)
                go_wp2_with fail
                go_roundw
                case rel => exact ⟨k + 1, false, by omega, by go_num, rfl, Lib.hid ⟨HNX.out.symm, (HRD.out _).1, (HRD.out _).2⟩⟩
                case measure => simp [intOf]; omega
              | true =>
                by_cases hki : k = i
                · have hkb : ((k : Int) == (i : Int)) = true := by rw [hki]; simp
                  have HNX : Hid (aloneK l i ⟨ex, ey, ek⟩ (k + 1) = true) := Lib.hid (by rw [HST.out, ← HBB.out, decide_eq_true hki, Bool.true_or, Bool.and_true])
                  clear d0 d1 d2 d3 d4 d5 d6 d7 d8 f0 f1 f2 hguard hki
                  go_quiet (fail)
                  go_wp2_with fail
                  go_roundw
                  case rel => exact ⟨k + 1, true, by omega, by go_num, rfl, Lib.hid ⟨HNX.out.symm, (HRD.out _).1, (HRD.out _).2⟩⟩
                  case measure => simp [intOf]; omega
                · have hkb : ((k : Int) == (i : Int)) = false := by rw [beq_eq_false_iff_ne]; omega
                  have HNX : Hid (aloneK l i ⟨ex, ey, ek⟩ (k + 1) = decide ((⟨ex, ey, ek⟩ : E) ∉ edgesQ ⟨px, py, ps⟩)) := Lib.hid (by rw [HST.out, ← HBB.out, decide_eq_false hki, Bool.false_or, Bool.true_and])
                  clear hki
                  by_cases h0 : (⟨x0, y0, z0⟩ : E) = ⟨ex, ey, ek⟩
                  · have HF : Hid (aloneK l i ⟨ex, ey, ek⟩ (k + 1) = false) := Lib.hid (by rw [HNX.out, decide_eq_false]; intro h; exact h ((HIN.out _).2 (.inl h0.symm)))
                    simp only [E.mk.injEq] at h0
                    obtain ⟨rfl, rfl, rfl⟩ := h0
                    have heq0 := equalE_yes x0 y0 z0
                    go_quiet (fail)
                    clear d0 d1 d2 d3 d4 d5 d6 d7 d8 f0 f1 f2 hguard heq0
                    go_wp2_with fail
                    go_roundw
                    case rel => exact ⟨k + 1, false, by omega, by go_num, rfl, Lib.hid ⟨HF.out.symm, (HRD.out _).1, (HRD.out _).2⟩⟩
                    case measure => simp [intOf]; omega
                  · have heq0 := equalE_no h0
                    by_cases h1 : (⟨x1, y1, z1⟩ : E) = ⟨ex, ey, ek⟩
                    · have HF : Hid (aloneK l i ⟨ex, ey, ek⟩ (k + 1) = false) := Lib.hid (by rw [HNX.out, decide_eq_false]; intro h; exact h ((HIN.out _).2 (.inr (.inl h1.symm))))
                      simp only [E.mk.injEq] at h1
                      obtain ⟨rfl, rfl, rfl⟩ := h1
                      have heq1 := equalE_yes x1 y1 z1
                      clear h0
                      go_quiet (fail)
                      clear d0 d1 d2 d3 d4 d5 d6 d7 d8 f0 f1 f2 hguard heq0 heq1
                      go_wp2_with fail
                      go_roundw
                      case rel => exact ⟨k + 1, false, by omega, by go_num, rfl, Lib.hid ⟨HF.out.symm, (HRD.out _).1, (HRD.out _).2⟩⟩
                      case measure => simp [intOf]; omega
                    · have heq1 := equalE_no h1
                      by_cases h2 : (⟨x2, y2, z2⟩ : E) = ⟨ex, ey, ek⟩
                      · have HF : Hid (aloneK l i ⟨ex, ey, ek⟩ (k + 1) = false) := Lib.hid (by rw [HNX.out, decide_eq_false]; intro h; exact h ((HIN.out _).2 (.inr (.inr h2.symm))))
                        simp only [E.mk.injEq] at h2
                        obtain ⟨rfl, rfl, rfl⟩ := h2
                        have heq2 := equalE_yes x2 y2 z2
                        clear h0 h1
                        go_quiet (fail)
                        clear d0 d1 d2 d3 d4 d5 d6 d7 d8 f0 f1 f2 hguard heq0 heq1 heq2
                        go_wp2_with fail
                        go_roundw
                        case rel => exact ⟨k + 1, false, by omega, by go_num, rfl, Lib.hid ⟨HF.out.symm, (HRD.out _).1, (HRD.out _).2⟩⟩
                        case measure => simp [intOf]; omega
                      · have heq2 := equalE_no h2
                        have HF : Hid (aloneK l i ⟨ex, ey, ek⟩ (k + 1) = true) := Lib.hid (by
                          rw [HNX.out, decide_eq_true]
                          intro h
                          rcases (HIN.out _).1 h with h | h | h
                          · exact h0 h.symm
                          · exact h1 h.symm
                          · exact h2 h.symm)
                        clear h0 h1 h2
                        go_quiet (fail)
                        clear d0 d1 d2 d3 d4 d5 d6 d7 d8 f0 f1 f2 hguard heq0 heq1 heq2
                        go_wp2_with fail
                        go_roundw
                        case rel => exact ⟨k + 1, true, by omega, by go_num, rfl, Lib.hid ⟨HF.out.symm, (HRD.out _).1, (HRD.out _).2⟩⟩
                        case measure => simp [intOf]; omega
            · have hkk : k = l.length := by omega
              have HBP := Lib.hid (bPart_step HQI.out HEN.out)
              have HAL : Hid (aloneK l i ⟨ex, ey, ek⟩ l.length = b) := Lib.hid (by rw [HR.out.1, hkk])
              have HBI := Lib.hid HR.out.2
              clear hkk HR
              cases b with
              | false =>
                go_wp2_with fail
                go_roundw
                case rel => exact ⟨n + 1, es, by omega, by go_num, Lib.hid ⟨HBI.out.1, by rw [HBP.out, HAL.out]; simpa using HES.out.1, HES.out.2.1, HBI.out.2⟩⟩
                case measure => simp [intOf]; omega
              | true =>
                obtain ⟨f0, f1, f2⟩ := HN9.out wr HBI.out.2
                have hel : es.length ≤ 2000 := by
                  have h1 := HES.out.1.length_eq
                  have h2 := bPart_length l i n
                  omega
                have HWI := Lib.hid (with_ref es ex ey ek w.heap.size g cap wr HBI.out.1.own (by omega))
                go_wp2_with fail
                refine HWI.out.mono ?_
                rintro e w5 ⟨j, g', cap', rfl, hj, hlow, hhigh, hown, hB5⟩
                have hlen : (es.take j ++ [(⟨ex, ey, ek⟩ : E)] ++ es.drop j).length = j + 1 + (es.length - j) := by simp; omega
                have hnew : BI w w5 (.slice (some ⟨g', 0, none⟩) (j + 1 + (es.length - j)) cap') (es.take j ++ [(⟨ex, ey, ek⟩ : E)] ++ es.drop j) := by
                  refine ⟨?_, ⟨g', cap', by rw [hlen]⟩, HBI.out.1.below.trans (hB5.mono HBI.out.1.below.size)⟩
                  have := ownsRow_mono hown HBI.out.1.below.size
                  unfold OwnEd
                  rw [hlen, show j + 1 + (es.length - j) = es.length + 1 by omega]
                  have e9 : (es.take j ++ [(⟨ex, ey, ek⟩ : E)] ++ es.drop j).length = es.length + 1 := by omega
                  unfold OwnEd at this
                  rw [e9] at this
                  exact this
                have HN : Hid (BI w w5 (.slice (some ⟨g', 0, none⟩) (j + 1 + (es.length - j)) cap') (es.take j ++ [(⟨ex, ey, ek⟩ : E)] ++ es.drop j) ∧ (es.take j ++ [(⟨ex, ey, ek⟩ : E)] ++ es.drop j).Perm (bPart l i (n + 1)) ∧ SrtE (es.take j ++ [(⟨ex, ey, ek⟩ : E)] ++ es.drop j) ∧ Has9 w5 eb a0 b0 k0 a1 b1 k1 a2 b2 k2) := Lib.hid ⟨hnew, by rw [HBP.out, HAL.out]; exact permE_ins j HES.out.1, srtE_ins HES.out.2.1 hlow hhigh, HBI.out.2.below hB5⟩
                clear hnew hlen hown hB5 hlow hhigh HWI f0 f1 f2
                go_wp2_with fail
                go_roundw
                case rel => exact ⟨n + 1, _, by omega, by go_num, HN⟩
                case measure => simp [intOf]; omega
        · obtain rfl : n = 3 := by omega
          have HNX : Hid (BI w wr (.slice (some ⟨g, 0, none⟩) es.length cap) es ∧ es.Perm (bPart l (i + 1) 0) ∧ SrtE es) := Lib.hid ⟨HR.out.1, by rw [bPart_row]; exact HR.out.2.1, HR.out.2.2.1⟩
          clear HR
          go_wp2_with fail
          go_roundw
          case rel => exact ⟨i + 1, es, by omega, by go_num, HNX⟩
          case measure => simp [intOf]; omega
    · obtain rfl : i = l.length := by omega
      go_wp2_with fail
      go_ret
      exact ⟨_, es, rfl, own_es HR.out.1.own, HR.out.2.1, HR.out.2.2, HR.out.1.below⟩
end Go.Proofs.YtimnmfjbfbkooaaGreatDoor

/- Plain maths: the reference's Joints. -/
namespace Go.Proofs.YtimnmfjbfbkooaaGreatDoor
set_option linter.all false
set_option linter.unusedSimpArgs false
set_option linter.unusedVariables false
open Go.RowKit

/-- Which two quarters can have an edge. -/
theorem edge_two {q : Q} (h : inQ q) {e : E} (he : e ∈ edgesQ q) :
    q = (if e.k < 4 then ⟨e.x, e.y, e.k⟩ else if e.k = 4 then ⟨e.x, e.y - 1, 0⟩ else ⟨e.x - 1, e.y, 1⟩) ∨ q = (if e.k < 4 then ⟨e.x, e.y, (e.k + 1) % 4⟩ else if e.k = 4 then ⟨e.x, e.y, 2⟩ else ⟨e.x, e.y, 3⟩) := by
  obtain ⟨x, y, s⟩ := q
  unfold inQ at h; simp only at h
  rcases (by omega : s = 0 ∨ s = 1 ∨ s = 2 ∨ s = 3) with rfl | rfl | rfl | rfl <;> (
    simp only [edgesQ, sideE, List.mem_cons, List.not_mem_nil, or_false] at he
    rcases he with rfl | rfl | rfl <;> simp)
theorem edge_third {p q r : Q} (hp : inQ p) (hq : inQ q) (hr : inQ r) {e : E} (h1 : e ∈ edgesQ p) (h2 : e ∈ edgesQ q) (h3 : e ∈ edgesQ r) (hpq : p ≠ q) : r = p ∨ r = q := by
  have a := edge_two hp h1
  have b := edge_two hq h2
  have c := edge_two hr h3
  rcases a with a | a <;> rcases b with b | b
  · exact absurd (a.trans b.symm) hpq
  · rcases c with c | c
    · exact .inl (c.trans a.symm)
    · exact .inr (c.trans b.symm)
  · rcases c with c | c
    · exact .inr (c.trans b.symm)
    · exact .inl (c.trans a.symm)
  · exact absurd (a.trans b.symm) hpq
def cellJ (p q : Q) (n : Nat) : List E := match (edgesQ p)[n / 3]?, (edgesQ q)[n % 3]? with | some a, some b => if a = b then [a] else [] | _, _ => []
def pairJ (p q : Q) (n : Nat) : List E := (List.range n).flatMap (cellJ p q)
theorem mem_cellJ {p q : Q} {n : Nat} {e : E} : e ∈ cellJ p q n ↔ (edgesQ p)[n / 3]? = some e ∧ (edgesQ q)[n % 3]? = some e := by
  unfold cellJ
  cases h1 : (edgesQ p)[n / 3]? with
  | none => simp
  | some a =>
    cases h2 : (edgesQ q)[n % 3]? with
    | none => simp
    | some b =>
      by_cases hab : a = b
      · subst hab; simp; exact eq_comm
      · simp only [if_neg hab, List.not_mem_nil, false_iff, Option.some.injEq, not_and]
        intro h h'; exact hab (h.trans h'.symm)
theorem pairJ_mem {p q : Q} {e : E} : e ∈ pairJ p q 9 ↔ e ∈ edgesQ p ∧ e ∈ edgesQ q := by
  unfold pairJ
  rw [List.mem_flatMap]
  constructor
  · rintro ⟨n, _, hn⟩
    obtain ⟨h1, h2⟩ := mem_cellJ.1 hn
    exact ⟨List.mem_of_getElem? h1, List.mem_of_getElem? h2⟩
  · rintro ⟨h1, h2⟩
    obtain ⟨a, ha, rfl⟩ := List.getElem_of_mem h1
    obtain ⟨b, hb, hb'⟩ := List.getElem_of_mem h2
    rw [edgesQ_length] at ha hb
    refine ⟨3 * a + b, List.mem_range.2 (by omega), mem_cellJ.2 ⟨?_, ?_⟩⟩
    · rw [show (3 * a + b) / 3 = a by omega]; exact List.getElem?_eq_getElem _
    · rw [show (3 * a + b) % 3 = b by omega, ← hb']; exact List.getElem?_eq_getElem _
theorem nodup_flat {α β : Type} {l : List α} {f : α → List β} (hn : l.Nodup) (h1 : ∀ a ∈ l, (f a).Nodup) (h2 : ∀ a ∈ l, ∀ b ∈ l, a ≠ b → ∀ x ∈ f a, x ∉ f b) : (l.flatMap f).Nodup := by
  unfold List.Nodup
  refine List.pairwise_flatMap.2 ⟨h1, List.Pairwise.imp_of_mem ?_ hn⟩
  intro a b ha hb hab x hx y hy hxy
  subst hxy
  exact h2 a ha b hb hab x hx hy
theorem pairJ_nodup {p q : Q} (hp : inQ p) (hq : inQ q) (n : Nat) : (pairJ p q n).Nodup := by
  refine nodup_flat List.nodup_range (fun a _ => ?_) (fun a _ b _ hab x hx hx' => ?_)
  · unfold cellJ
    split
    · split <;> simp
    · exact List.nodup_nil
  · obtain ⟨h1, h2⟩ := mem_cellJ.1 hx
    obtain ⟨h3, h4⟩ := mem_cellJ.1 hx'
    obtain ⟨i1, e1⟩ := List.getElem?_eq_some_iff.1 h1
    obtain ⟨i2, e2⟩ := List.getElem?_eq_some_iff.1 h2
    obtain ⟨i3, e3⟩ := List.getElem?_eq_some_iff.1 h3
    obtain ⟨i4, e4⟩ := List.getElem?_eq_some_iff.1 h4
    have a1 := (List.getElem_inj (edgesQ_nodup hp)).1 (e1.trans e3.symm)
    have a2 := (List.getElem_inj (edgesQ_nodup hq)).1 (e2.trans e4.symm)
    omega
/-- One quarter against the first b of a shape; the first a quarters of a shape; the first k shapes; the first i rows. -/
def rowJ (p : Q) (m : List Q) (b : Nat) : List E := (m.take b).flatMap fun q => pairJ p q 9
def shpJ (l m : List Q) (a : Nat) : List E := (l.take a).flatMap fun p => rowJ p m m.length
def befJ (ls : List (List Q)) (l : List Q) (k : Nat) : List E := (ls.take k).flatMap fun m => shpJ l m l.length
def allJ (ls : List (List Q)) (i : Nat) : List E := (List.range i).flatMap fun j => befJ ls ((ls[j]?).getD []) j
theorem mem_rowJ {p : Q} {m : List Q} {e : E} : e ∈ rowJ p m m.length ↔ e ∈ edgesQ p ∧ ∃ q ∈ m, e ∈ edgesQ q := by
  unfold rowJ
  rw [List.take_length, List.mem_flatMap]
  constructor
  · rintro ⟨q, hq, he⟩
    exact ⟨(pairJ_mem.1 he).1, q, hq, (pairJ_mem.1 he).2⟩
  · rintro ⟨h, q, hq, he⟩
    exact ⟨q, hq, pairJ_mem.2 ⟨h, he⟩⟩
theorem mem_shpJ {l m : List Q} {e : E} : e ∈ shpJ l m l.length ↔ ∃ p ∈ l, e ∈ edgesQ p ∧ ∃ q ∈ m, e ∈ edgesQ q := by
  unfold shpJ
  rw [List.take_length, List.mem_flatMap]
  constructor
  · rintro ⟨p, hp, he⟩; exact ⟨p, hp, mem_rowJ.1 he⟩
  · rintro ⟨p, hp, he⟩; exact ⟨p, hp, mem_rowJ.2 he⟩
theorem mem_befJ {ls : List (List Q)} {l : List Q} {k : Nat} {e : E} : e ∈ befJ ls l k ↔ ∃ m ∈ ls.take k, ∃ p ∈ l, e ∈ edgesQ p ∧ ∃ q ∈ m, e ∈ edgesQ q := by
  unfold befJ
  rw [List.mem_flatMap]
  constructor
  · rintro ⟨p, hp, he⟩; exact ⟨p, hp, mem_shpJ.1 he⟩
  · rintro ⟨p, hp, he⟩; exact ⟨p, hp, mem_shpJ.2 he⟩
/-- Two shapes with a quarter of each on the edge. -/
def linkJ (ls : List (List Q)) (e : E) : Prop := ∃ (i k : Nat) (l m : List Q), k < i ∧ ls[i]? = some l ∧ ls[k]? = some m ∧ ∃ p ∈ l, e ∈ edgesQ p ∧ ∃ q ∈ m, e ∈ edgesQ q
theorem mem_allJ {ls : List (List Q)} {e : E} : e ∈ allJ ls ls.length ↔ linkJ ls e := by
  unfold allJ linkJ
  rw [List.mem_flatMap]
  constructor
  · rintro ⟨i, hi, he⟩
    rw [List.mem_range] at hi
    rw [List.getElem?_eq_getElem hi, Option.getD_some] at he
    obtain ⟨m, hm, h⟩ := mem_befJ.1 he
    obtain ⟨k, hk, rfl⟩ := List.getElem_of_mem hm
    rw [List.length_take] at hk
    rw [List.getElem_take] at h
    exact ⟨i, k, _, _, by omega, List.getElem?_eq_getElem hi, List.getElem?_eq_getElem (by omega), h⟩
  · rintro ⟨i, k, l, m, hk, hi, hm, h⟩
    obtain ⟨hi', rfl⟩ := List.getElem?_eq_some_iff.1 hi
    obtain ⟨hk', rfl⟩ := List.getElem?_eq_some_iff.1 hm
    refine ⟨i, List.mem_range.2 hi', ?_⟩
    rw [hi, Option.getD_some]
    refine mem_befJ.2 ⟨_, ?_, h⟩
    exact List.mem_of_getElem? (i := k) (by rw [List.getElem?_take, if_pos hk, hm])
theorem flat_at {α : Type} {ls : List (List α)} (hn : ls.flatten.Nodup) : ∀ {i k : Nat} {l m : List α} {q : α}, ls[i]? = some l → ls[k]? = some m → q ∈ l → q ∈ m → i = k := by
  unfold List.Nodup at hn
  rw [List.pairwise_flatten] at hn
  intro i k l m q hi hk hl hm
  obtain ⟨hi', rfl⟩ := List.getElem?_eq_some_iff.1 hi
  obtain ⟨hk', rfl⟩ := List.getElem?_eq_some_iff.1 hk
  rcases Nat.lt_trichotomy i k with h | h | h
  · exact absurd rfl (List.pairwise_iff_getElem.1 hn.2 i k hi' hk' h _ hl _ hm)
  · exact h
  · exact absurd rfl (List.pairwise_iff_getElem.1 hn.2 k i hk' hi' h _ hm _ hl)
theorem mem_flat {α : Type} {ls : List (List α)} {i : Nat} {l : List α} {q : α} (h : ls[i]? = some l) (hq : q ∈ l) : q ∈ ls.flatten := List.mem_flatten.2 ⟨l, List.mem_of_getElem? h, hq⟩
theorem part_nodup {α : Type} {ls : List (List α)} (hn : ls.flatten.Nodup) {i : Nat} {l : List α} (h : ls[i]? = some l) : l.Nodup := (List.pairwise_flatten.1 hn).1 l (List.mem_of_getElem? h)
theorem allJ_nodup {ls : List (List Q)} (hn : ls.flatten.Nodup) (hq : ∀ q ∈ ls.flatten, inQ q) : (allJ ls ls.length).Nodup := by
  have third : ∀ {i j k : Nat} {a b c : List Q} {p q r : Q} {e : E}, ls[i]? = some a → ls[j]? = some b → ls[k]? = some c → p ∈ a → q ∈ b → r ∈ c → e ∈ edgesQ p → e ∈ edgesQ q → e ∈ edgesQ r → p ≠ q → r = p ∨ r = q :=
    fun ha hb hc hp hq' hr h1 h2 h3 hne => edge_third (hq _ (mem_flat ha hp)) (hq _ (mem_flat hb hq')) (hq _ (mem_flat hc hr)) h1 h2 h3 hne
  have diff : ∀ {i j : Nat} {a b : List Q} {p q : Q}, ls[i]? = some a → ls[j]? = some b → p ∈ a → q ∈ b → i ≠ j → p ≠ q :=
    fun ha hb hp hq' hne h => by subst h; exact hne (flat_at hn ha hb hp hq')
  unfold allJ
  refine nodup_flat List.nodup_range (fun i hi => ?_) (fun i hi i' hi' hne e he he' => ?_)
  · rw [List.mem_range] at hi
    have gi := List.getElem?_eq_getElem hi
    rw [gi, Option.getD_some]
    unfold befJ
    rw [show (ls.take i).flatMap (fun m => shpJ ls[i] m ls[i].length) = (List.range i).flatMap (fun k => shpJ ls[i] ((ls[k]?).getD []) ls[i].length) from ?_]
    · refine nodup_flat List.nodup_range (fun k hk => ?_) (fun k hk k' hk' hne e he he' => ?_)
      · rw [List.mem_range] at hk
        have gk : ls[k]? = some (ls[k]'(by omega)) := List.getElem?_eq_getElem _
        rw [gk, Option.getD_some]
        unfold shpJ
        rw [List.take_length]
        refine nodup_flat (part_nodup hn gi) (fun p hp => ?_) (fun p hp p' hp' hne e he he' => ?_)
        · unfold rowJ
          rw [List.take_length]
          refine nodup_flat (part_nodup hn gk) (fun q hq' => ?_) (fun q hq1 q' hq2 hne e he he' => ?_)
          · exact pairJ_nodup (hq _ (mem_flat gi hp)) (hq _ (mem_flat gk hq')) 9
          · have h1 := pairJ_mem.1 he
            have h2 := pairJ_mem.1 he'
            rcases third gk gk gi hq1 hq2 hp h1.2 h2.2 h1.1 hne with h | h
            · exact diff gi gk hp hq1 (by omega) h
            · exact diff gi gk hp hq2 (by omega) h
        · obtain ⟨h1, q, hq1, hqe⟩ := mem_rowJ.1 he
          obtain ⟨h2, _⟩ := mem_rowJ.1 he'
          rcases third gi gi gk hp hp' hq1 h1 h2 hqe hne with h | h
          · exact diff gk gi hq1 hp (by omega) h
          · exact diff gk gi hq1 hp' (by omega) h
      · rw [List.mem_range] at hk hk'
        have gk : ls[k]? = some (ls[k]'(by omega)) := List.getElem?_eq_getElem _
        have gk' : ls[k']? = some (ls[k']'(by omega)) := List.getElem?_eq_getElem _
        rw [gk, Option.getD_some] at he
        rw [gk', Option.getD_some] at he'
        obtain ⟨p, hp, h1, q, hq1, h2⟩ := mem_shpJ.1 he
        obtain ⟨p', hp', h3, q', hq2, h4⟩ := mem_shpJ.1 he'
        rcases third gk gk' gi hq1 hq2 hp h2 h4 h1 (diff gk gk' hq1 hq2 hne) with h | h
        · exact diff gi gk hp hq1 (by omega) h
        · exact diff gi gk' hp hq2 (by omega) h
    · have ht : ls.take i = (List.range i).map fun k => (ls[k]?).getD [] := by
        refine List.ext_getElem (by rw [List.length_take, List.length_map, List.length_range]; omega) (fun n h1 h2 => ?_)
        rw [List.length_take] at h1
        rw [List.getElem_take, List.getElem_map, List.getElem_range, List.getElem?_eq_getElem (by omega), Option.getD_some]
      rw [ht, List.flatMap_map]
  · rw [List.mem_range] at hi hi'
    have gi := List.getElem?_eq_getElem hi
    have gi' := List.getElem?_eq_getElem hi'
    rw [gi, Option.getD_some] at he
    rw [gi', Option.getD_some] at he'
    obtain ⟨m, hm, p, hp, h1, q, hq1, h2⟩ := mem_befJ.1 he
    obtain ⟨m', hm', p', hp', h3, q', hq2, h4⟩ := mem_befJ.1 he'
    obtain ⟨k, hk, rfl⟩ := List.getElem_of_mem hm
    obtain ⟨k', hk', rfl⟩ := List.getElem_of_mem hm'
    rw [List.length_take] at hk hk'
    rw [List.getElem_take] at hq1 hq2
    have gk : ls[k]? = some (ls[k]'(by omega)) := List.getElem?_eq_getElem _
    have gk' : ls[k']? = some (ls[k']'(by omega)) := List.getElem?_eq_getElem _
    have hpp := diff gi gi' hp hp' hne
    rcases third gi gi' gk hp hp' hq1 h1 h3 h2 hpp with h | h
    · exact diff gk gi hq1 hp (by omega) h
    · have e1 := flat_at hn gk gi' hq1 (h ▸ hp')
      rcases third gi gi' gk' hp hp' hq2 h1 h3 h4 hpp with h | h
      · have e2 := flat_at hn gk' gi hq2 (h ▸ hp)
        omega
      · exact diff gk' gi' hq2 hp' (by omega) h
theorem shapesFrom_mem : ∀ {ls : List (List Q)} {i n : Nat} {q : Q}, (q, n) ∈ shapesFrom i ls → ∃ l, i ≤ n ∧ ls[n - i]? = some l ∧ q ∈ l
  | [], _, _, _, h => by simp [shapesFrom] at h
  | a :: ls, i, n, q, h => by
    simp only [shapesFrom, List.mem_append, List.mem_map, Prod.mk.injEq] at h
    rcases h with ⟨p, hp, rfl, rfl⟩ | h
    · exact ⟨a, Nat.le_refl _, by simp, hp⟩
    · obtain ⟨l, h1, h2, h3⟩ := shapesFrom_mem h
      exact ⟨l, by omega, by rw [show n - i = (n - (i + 1)) + 1 by omega, List.getElem?_cons_succ]; exact h2, h3⟩
theorem shape_of {ls : List (List Q)} (hn : ls.flatten.Nodup) {i : Nat} {l : List Q} {q : Q} (h : ls[i]? = some l) (hq : q ∈ l) : shapeAt (shapesFrom 0 ls) q = i := by
  have := shapeAt_mem (S := shapesFrom 0 ls) (q := q) (by rw [shapesFrom_keys]; exact mem_flat h hq)
  obtain ⟨m, _, h1, h2⟩ := shapesFrom_mem this
  exact (flat_at hn h h1 hq h2).symm
theorem link_iff {ls : List (List Q)} (hn : ls.flatten.Nodup) (hq : ∀ q ∈ ls.flatten, inQ q) (e : E) : linkJ ls e ↔ jointP (shapesFrom 0 ls) (whoE ls.flatten e) = true := by
  have hnd : (whoE ls.flatten e).Nodup := hn.sublist List.filter_sublist
  constructor
  · rintro ⟨i, k, l, m, hk, hi, hm, p, hp, h1, q, hq1, h2⟩
    have hne : p ≠ q := fun h => by subst h; have := flat_at hn hi hm hp hq1; omega
    have mp : p ∈ whoE ls.flatten e := List.mem_filter.2 ⟨mem_flat hi hp, by simpa using h1⟩
    have mq : q ∈ whoE ls.flatten e := List.mem_filter.2 ⟨mem_flat hm hq1, by simpa using h2⟩
    have hall : ∀ r ∈ whoE ls.flatten e, r = p ∨ r = q := fun r hr => by
      obtain ⟨r1, r2⟩ := List.mem_filter.1 hr
      exact edge_third (hq _ (mem_flat hi hp)) (hq _ (mem_flat hm hq1)) (hq _ r1) h1 h2 (by simpa using r2) hne
    have sp := shape_of hn hi hp
    have sq := shape_of hn hm hq1
    generalize whoE ls.flatten e = W at hnd mp mq hall
    rcases W with _ | ⟨a, _ | ⟨b, _ | ⟨c, t⟩⟩⟩
    · cases mp
    · rw [List.mem_singleton] at mp mq; exact absurd (mp.trans mq.symm) hne
    · have hab : a ≠ b := by simp at hnd; exact hnd
      rcases hall a (by simp) with rfl | rfl <;> rcases hall b (by simp) with rfl | rfl
      · exact absurd rfl hab
      · simp only [jointP, sp, sq, bne_iff_ne]; omega
      · simp only [jointP, sp, sq, bne_iff_ne]; omega
      · exact absurd rfl hab
    · simp only [List.nodup_cons, List.mem_cons, not_or] at hnd
      rcases hall a (by simp) with ha | ha <;> rcases hall b (by simp) with hb | hb <;> rcases hall c (by simp) with hc | hc <;> (exfalso; subst_vars; simp_all)
  · intro h
    have hmem : ∀ r ∈ whoE ls.flatten e, r ∈ ls.flatten ∧ e ∈ edgesQ r := fun r hr => by
      obtain ⟨r1, r2⟩ := List.mem_filter.1 hr
      exact ⟨r1, by simpa using r2⟩
    generalize whoE ls.flatten e = W at h hmem
    rcases W with _ | ⟨a, _ | ⟨b, _ | ⟨c, t⟩⟩⟩
    · cases h
    · cases h
    · simp only [jointP, bne_iff_ne] at h
      obtain ⟨a1, a2⟩ := hmem a (by simp)
      obtain ⟨b1, b2⟩ := hmem b (by simp)
      obtain ⟨l, hl, hal⟩ := List.mem_flatten.1 a1
      obtain ⟨m, hm, hbm⟩ := List.mem_flatten.1 b1
      obtain ⟨i, hi, rfl⟩ := List.getElem_of_mem hl
      obtain ⟨k, hk, rfl⟩ := List.getElem_of_mem hm
      have gi := List.getElem?_eq_getElem hi
      have gk := List.getElem?_eq_getElem hk
      rw [shape_of hn gi hal, shape_of hn gk hbm] at h
      rcases Nat.lt_or_gt_of_ne h with h | h
      · exact ⟨k, i, _, _, h, gk, gi, b, hbm, b2, a, hal, a2⟩
      · exact ⟨i, k, _, _, h, gi, gk, a, hal, a2, b, hbm, b2⟩
    · cases h
/-- The steps of the loops. -/
theorem pairJ_step (p q : Q) (n : Nat) : pairJ p q (n + 1) = pairJ p q n ++ cellJ p q n := by
  unfold pairJ; rw [List.range_succ, List.flatMap_append]; simp
theorem rowJ_step {p : Q} {m : List Q} {b : Nat} {q : Q} (h : m[b]? = some q) : rowJ p m (b + 1) = rowJ p m b ++ pairJ p q 9 := by
  unfold rowJ; rw [take_snocG h, List.flatMap_append]; simp
theorem shpJ_step {l m : List Q} {a : Nat} {p : Q} (h : l[a]? = some p) : shpJ l m (a + 1) = shpJ l m a ++ rowJ p m m.length := by
  unfold shpJ; rw [take_snocG h, List.flatMap_append]; simp
theorem befJ_step {ls : List (List Q)} {l m : List Q} {k : Nat} (h : ls[k]? = some m) : befJ ls l (k + 1) = befJ ls l k ++ shpJ l m l.length := by
  unfold befJ; rw [take_snocG h, List.flatMap_append]; simp
theorem allJ_step {ls : List (List Q)} {i : Nat} {l : List Q} (h : ls[i]? = some l) : allJ ls (i + 1) = allJ ls i ++ befJ ls l i := by
  unfold allJ; rw [List.range_succ, List.flatMap_append]; simp [h]
/-- How many there can be. -/
theorem nodup_le {α : Type} [DecidableEq α] : ∀ {l m : List α}, l.Nodup → (∀ x ∈ l, x ∈ m) → l.length ≤ m.length
  | [], m, _, _ => Nat.zero_le _
  | a :: l, m, h, hs => by
    rw [List.nodup_cons] at h
    have ha : a ∈ m := hs a (by simp)
    have := nodup_le (l := l) (m := m.erase a) h.2 (fun x hx => (List.mem_erase_of_ne (fun e => h.1 (by rw [← e]; exact hx))).2 (hs x (by simp [hx])))
    rw [List.length_erase_of_mem ha] at this
    have hpos := List.length_pos_of_mem ha
    simp only [List.length_cons]; omega
theorem allJ_length {ls : List (List Q)} (hn : ls.flatten.Nodup) (hq : ∀ q ∈ ls.flatten, inQ q) : (allJ ls ls.length).length ≤ 3 * ls.flatten.length := by
  have h := nodup_le (m := ls.flatten.flatMap edgesQ) (allJ_nodup hn hq) (fun e he => by
    obtain ⟨i, k, l, m, _, hi, _, p, hp, h1, _⟩ := mem_allJ.1 he
    exact List.mem_flatMap.2 ⟨p, mem_flat hi hp, h1⟩)
  rw [List.length_flatMap] at h
  refine Nat.le_trans h ?_
  generalize ls.flatten = f
  clear h hn hq
  induction f with
  | nil => simp
  | cons a f ih => simp only [List.map_cons, List.sum_cons, List.length_cons, edgesQ_length] at ih ⊢; omega
theorem allJ_prefix {ls : List (List Q)} {i j : Nat} (h : i ≤ j) : (allJ ls i).length ≤ (allJ ls j).length := by
  induction j with
  | zero => rw [Nat.le_zero.1 h]; exact Nat.le_refl _
  | succ j ih =>
    rcases Nat.eq_or_lt_of_le h with rfl | h
    · exact Nat.le_refl _
    · refine Nat.le_trans (ih (by omega)) ?_
      unfold allJ
      rw [List.range_succ, List.flatMap_append, List.length_append]; omega
theorem flatMap_take_le {α β : Type} (f : α → List β) (l : List α) (n : Nat) : ((l.take n).flatMap f).length ≤ (l.flatMap f).length := by
  conv => rhs; rw [← List.take_append_drop n l, List.flatMap_append, List.length_append]
  omega
theorem partJ_length {ls : List (List Q)} (hn : ls.flatten.Nodup) (hq : ∀ q ∈ ls.flatten, inQ q) {i k a b n : Nat} {l m : List Q} {p q : Q} (hi : ls[i]? = some l) (hk : ls[k]? = some m) (hki : k < i) (ha : l[a]? = some p) (hb : m[b]? = some q) (hn9 : n ≤ 9) :
    (allJ ls i ++ (befJ ls l k ++ (shpJ l m a ++ (rowJ p m b ++ pairJ p q n)))).length ≤ 3 * ls.flatten.length := by
  refine Nat.le_trans ?_ (Nat.le_trans (allJ_prefix (ls := ls) (i := i + 1) (j := ls.length) (List.getElem?_eq_some_iff.1 hi).1) (allJ_length hn hq))
  have h1 : (pairJ p q n).length ≤ (pairJ p q 9).length := by
    unfold pairJ
    rw [show List.range n = (List.range 9).take n from by rw [List.take_range, Nat.min_eq_left hn9]]
    exact flatMap_take_le _ _ _
  have h2 : (rowJ p m (b + 1)).length ≤ (rowJ p m m.length).length := by
    unfold rowJ; rw [List.take_length]; exact flatMap_take_le _ _ _
  have h3 : (shpJ l m (a + 1)).length ≤ (shpJ l m l.length).length := by
    unfold shpJ; rw [List.take_length]; exact flatMap_take_le _ _ _
  have h4 : (befJ ls l (k + 1)).length ≤ (befJ ls l i).length := by
    unfold befJ
    rw [show ls.take (k + 1) = (ls.take i).take (k + 1) from by rw [List.take_take, Nat.min_eq_left (by omega)]]
    exact flatMap_take_le _ _ _
  rw [allJ_step hi]
  rw [rowJ_step hb] at h2
  rw [shpJ_step ha] at h3
  rw [befJ_step hk] at h4
  simp only [List.length_append] at *
  omega
/-- No quarter of a shape is in an earlier one: so all are different. -/
theorem flat_nodup {α : Type} {ls : List (List α)} (h1 : ∀ l ∈ ls, l.Nodup) (h2 : ∀ (i k : Nat) (l m : List α), k < i → ls[i]? = some l → ls[k]? = some m → ∀ q ∈ l, q ∉ m) : ls.flatten.Nodup := by
  refine List.pairwise_flatten.2 ⟨h1, List.pairwise_iff_getElem.2 fun i j hi hj hij a ha b hb hab => ?_⟩
  subst hab
  exact h2 j i _ _ hij (List.getElem?_eq_getElem hj) (List.getElem?_eq_getElem hi) a hb ha
end Go.Proofs.YtimnmfjbfbkooaaGreatDoor

/- Two arrays of edges that are made and filled in any order. -/
namespace Go.Proofs.YtimnmfjbfbkooaaGreatDoor
set_option linter.all false
set_option linter.unusedSimpArgs false
set_option linter.unusedVariables false
open Go.RowKit
attribute [local go_sem] Oper.semAt_some

section
variable {P : Program} {ops : Array Oper}
/-- Two arrays, made by the operations a1 and a2, filled by s1 and s2. -/
structure TwoJ (W1 : World) (T : TypeId) (x y z : Array Value) (a1 a2 s1 s2 : Nat) (c : Nat → Option Value) (L : Nat → Bool) (vals : Nat → Value) (W : World) : Prop where
  below : Below W1.heap.size W1 W
  pure_ : ∀ i v, c i = some v → L i = true → vals i = v
  one : L a1 = true → ∃ g, vals a1 = .pointer (some ⟨g, 0, none⟩) ∧ W1.heap.size ≤ g ∧ W.heap[g]? = some (.cells (if L s1 = true then x else z) T (0, 0))
  two : L a2 = true → ∃ g, vals a2 = .pointer (some ⟨g, 0, none⟩) ∧ W1.heap.size ≤ g ∧ W.heap[g]? = some (.cells (if L s2 = true then y else z) T (0, 0))
  ne : L a1 = true → L a2 = true → vals a1 ≠ vals a2
variable {W1 W W' : World} {T : TypeId} {x y z : Array Value} {a1 a2 s1 s2 : Nat} {c : Nat → Option Value} {L : Nat → Bool} {vals : Nat → Value}
theorem TwoJ.other (h : TwoJ W1 T x y z a1 a2 s1 s2 c L vals W) {i : Nat} {v : Value} (hi : i ≠ a1 ∧ i ≠ a2 ∧ i ≠ s1 ∧ i ≠ s2) (hv : c i = some v) (hB : Below W.heap.size W W') :
    TwoJ W1 T x y z a1 a2 s1 s2 c (fun j => L j || j == i) (fun j => if j = i then v else vals j) W' := by
  obtain ⟨n1, n2, n3, n4⟩ := hi
  have q1 := or_ne (L := L) (Ne.symm n1)
  have q2 := or_ne (L := L) (Ne.symm n2)
  have q3 := or_ne (L := L) (Ne.symm n3)
  have q4 := or_ne (L := L) (Ne.symm n4)
  refine ⟨h.below.trans (hB.mono h.below.size), fun j u hj hl => ?_, ?_, ?_, ?_⟩
  · by_cases e : j = i
    · subst e; rw [if_pos rfl]; rw [hv] at hj; exact Option.some.inj hj
    · rw [if_neg e]; exact h.pure_ j u hj (by simpa [e] using hl)
  · simp only [q1, q3, if_neg (Ne.symm n1)]
    intro hl
    obtain ⟨g, e1, e2, e3⟩ := h.one hl
    exact ⟨g, e1, e2, (hB.block _ (Array.getElem?_eq_some_iff.1 e3).1).trans e3⟩
  · simp only [q2, q4, if_neg (Ne.symm n2)]
    intro hl
    obtain ⟨g, e1, e2, e3⟩ := h.two hl
    exact ⟨g, e1, e2, (hB.block _ (Array.getElem?_eq_some_iff.1 e3).1).trans e3⟩
  · simp only [q1, q2, if_neg (Ne.symm n1), if_neg (Ne.symm n2)]
    exact h.ne
theorem TwoJ.alloc1 (h : TwoJ W1 T x y z a1 a2 s1 s2 c L vals W) (hd : a1 ≠ a2 ∧ a1 ≠ s1 ∧ a1 ≠ s2) (hc : c a1 = none) (hs : L s1 = false) :
    TwoJ W1 T x y z a1 a2 s1 s2 c (fun j => L j || j == a1) (fun j => if j = a1 then .pointer (some ⟨W.heap.size, 0, none⟩) else vals j) (W.alloc (.cells z T)) := by
  obtain ⟨n2, n3, n4⟩ := hd
  have q2 := or_ne (L := L) (Ne.symm n2)
  have q3 := or_ne (L := L) (Ne.symm n3)
  have q4 := or_ne (L := L) (Ne.symm n4)
  have hB : Below W.heap.size W (W.alloc (.cells z T)) := (Below.refl _ W).alloc (Nat.le_refl _) _
  refine ⟨h.below.trans (hB.mono h.below.size), fun j u hj hl => ?_, fun _ => ?_, ?_, ?_⟩
  · by_cases e : j = a1
    · subst e; rw [hc] at hj; cases hj
    · rw [if_neg e]; exact h.pure_ j u hj (by simpa [e] using hl)
  · have e : (L s1 || s1 == a1) = false := q3.trans hs
    simp only [e, if_true, Bool.false_eq_true, if_false]
    exact ⟨_, rfl, h.below.size, World.alloc_heap_new W _⟩
  · simp only [q2, q4, if_neg (Ne.symm n2)]
    intro hl
    obtain ⟨g, e1, e2, e3⟩ := h.two hl
    exact ⟨g, e1, e2, (hB.block _ (Array.getElem?_eq_some_iff.1 e3).1).trans e3⟩
  · simp only [q2, if_true, if_neg (Ne.symm n2)]
    intro _ hl e
    obtain ⟨g, e1, e2, e3⟩ := h.two hl
    have := (Array.getElem?_eq_some_iff.1 e3).1
    rw [e1] at e
    simp only [Value.pointer.injEq, Option.some.injEq, Addr.mk.injEq, and_true] at e
    omega
theorem TwoJ.alloc2 (h : TwoJ W1 T x y z a1 a2 s1 s2 c L vals W) (hd : a1 ≠ a2 ∧ a2 ≠ s1 ∧ a2 ≠ s2) (hc : c a2 = none) (hs : L s2 = false) :
    TwoJ W1 T x y z a1 a2 s1 s2 c (fun j => L j || j == a2) (fun j => if j = a2 then .pointer (some ⟨W.heap.size, 0, none⟩) else vals j) (W.alloc (.cells z T)) := by
  obtain ⟨n2, n3, n4⟩ := hd
  have q2 := or_ne (L := L) n2
  have q3 := or_ne (L := L) (Ne.symm n3)
  have q4 := or_ne (L := L) (Ne.symm n4)
  have hB : Below W.heap.size W (W.alloc (.cells z T)) := (Below.refl _ W).alloc (Nat.le_refl _) _
  refine ⟨h.below.trans (hB.mono h.below.size), fun j u hj hl => ?_, ?_, fun _ => ?_, ?_⟩
  · by_cases e : j = a2
    · subst e; rw [hc] at hj; cases hj
    · rw [if_neg e]; exact h.pure_ j u hj (by simpa [e] using hl)
  · simp only [q2, q3, if_neg n2]
    intro hl
    obtain ⟨g, e1, e2, e3⟩ := h.one hl
    exact ⟨g, e1, e2, (hB.block _ (Array.getElem?_eq_some_iff.1 e3).1).trans e3⟩
  · have e : (L s2 || s2 == a2) = false := q4.trans hs
    simp only [e, if_true, Bool.false_eq_true, if_false]
    exact ⟨_, rfl, h.below.size, World.alloc_heap_new W _⟩
  · simp only [q2, if_true, if_neg n2]
    intro hl _ e
    obtain ⟨g, e1, e2, e3⟩ := h.one hl
    have := (Array.getElem?_eq_some_iff.1 e3).1
    rw [e1] at e
    simp only [Value.pointer.injEq, Option.some.injEq, Addr.mk.injEq, and_true] at e
    omega
theorem TwoJ.store1 (h : TwoJ W1 T x y z a1 a2 s1 s2 c L vals W) (hd : a1 ≠ s1 ∧ a2 ≠ s1 ∧ s1 ≠ s2) (hc : c s1 = none) (h1 : L a1 = true) (hs : L s1 = false) :
    ∃ g, vals a1 = .pointer (some ⟨g, 0, none⟩) ∧ W.heap[g]? = some (.cells z T (0, 0)) ∧ TwoJ W1 T x y z a1 a2 s1 s2 c (fun j => L j || j == s1) (fun j => if j = s1 then undef else vals j) (W.setRow g x) := by
  obtain ⟨n2, n3, n4⟩ := hd
  have q1 := or_ne (L := L) n2
  have q2 := or_ne (L := L) n3
  have q4 := or_ne (L := L) (Ne.symm n4)
  obtain ⟨g, e1, e2, e3⟩ := h.one h1
  have e3' := e3
  rw [hs, if_neg (by decide)] at e3
  refine ⟨g, e1, e3, setRow_below h.below e2 _, fun j u hj hl => ?_, fun _ => ?_, ?_, ?_⟩
  · by_cases e : j = s1
    · subst e; rw [hc] at hj; cases hj
    · rw [if_neg e]; exact h.pure_ j u hj (by simpa [e] using hl)
  · simp only [if_neg n2, beq_self_eq_true, Bool.or_true, if_true]
    exact ⟨g, e1, e2, setRow_heap _ _ _ _ _ _ e3⟩
  · simp only [q2, q4, if_neg n3]
    intro hl
    obtain ⟨k, f1, f2, f3⟩ := h.two hl
    have hne := h.ne h1 hl
    rw [e1, f1] at hne
    refine ⟨k, f1, f2, (setRow_other _ _ _ _ (fun e => hne (by rw [e]))).trans f3⟩
  · simp only [q1, q2, if_neg n2, if_neg n3]
    exact h.ne
theorem TwoJ.store2 (h : TwoJ W1 T x y z a1 a2 s1 s2 c L vals W) (hd : a1 ≠ s2 ∧ a2 ≠ s2 ∧ s1 ≠ s2) (hc : c s2 = none) (h2 : L a2 = true) (hs : L s2 = false) :
    ∃ g, vals a2 = .pointer (some ⟨g, 0, none⟩) ∧ W.heap[g]? = some (.cells z T (0, 0)) ∧ TwoJ W1 T x y z a1 a2 s1 s2 c (fun j => L j || j == s2) (fun j => if j = s2 then undef else vals j) (W.setRow g y) := by
  obtain ⟨n2, n3, n4⟩ := hd
  have q1 := or_ne (L := L) n2
  have q2 := or_ne (L := L) n3
  have q4 := or_ne (L := L) n4
  obtain ⟨g, e1, e2, e3⟩ := h.two h2
  have e3' := e3
  rw [hs, if_neg (by decide)] at e3
  refine ⟨g, e1, e3, setRow_below h.below e2 _, fun j u hj hl => ?_, ?_, fun _ => ?_, ?_⟩
  · by_cases e : j = s2
    · subst e; rw [hc] at hj; cases hj
    · rw [if_neg e]; exact h.pure_ j u hj (by simpa [e] using hl)
  · simp only [q1, q4, if_neg n2]
    intro hl
    obtain ⟨k, f1, f2, f3⟩ := h.one hl
    have hne := h.ne hl h2
    rw [e1, f1] at hne
    refine ⟨k, f1, f2, (setRow_other _ _ _ _ (fun e => hne (by rw [e]))).trans f3⟩
  · simp only [if_neg n3, beq_self_eq_true, Bool.or_true, if_true]
    exact ⟨g, e1, e2, setRow_heap _ _ _ _ _ _ e3⟩
  · simp only [q1, q2, if_neg n2, if_neg n3]
    exact h.ne
theorem run_alloc_exec {o : Oper} {T : TypeId} {b : Act} {W : World} {v : Value} {next : Value → World → Prop} (ho : o.op = .alloc T) (hz : (zeroValue T).run P W = .ok v W)
    (hn : next (.pointer (some ⟨W.heap.size, 0, none⟩)) (W.alloc (.cells v.cells T))) : loudUpon P next ((execOp b.eval o).run P W) := by
  refine lu_value (v := .pointer (some ⟨W.heap.size, 0, none⟩)) (W' := W.alloc (.cells v.cells T)) ?_ hn
  unfold execOp
  simp [ho, Instr.alloc, Sem.run_bind, hz, newVar, newRow, Result.andThen]
theorem run_store_exec {o : Oper} {T t : TypeId} {p u : Operand} {b : Act} {W : World} {g : Nat} {old cells : Array Value} {next : Value → World → Prop} (ho : o.op = .store T p u) (hp : b.eval p = .pointer (some ⟨g, 0, none⟩)) (hu : b.eval u = .agg cells)
    (hg : W.heap[g]? = some (.cells old t (0, 0))) (hi : (P.info? T).map (·.size) = some cells.size) (hold : old.size = cells.size) (h1 : cells.all (·.oneCell') = true)
    (hn : next undef (W.setRow g cells)) : loudUpon P next ((execOp b.eval o).run P W) := by
  refine lu_skip (W' := W.setRow g cells) ?_ hn
  unfold execOp
  simp only [ho, hp, hu, Instr.storeAt, Instr.sureAddr, Sem.run_bind, Sem.run_pure, Result.andThen_ok, run_storeVar_row W g t T old cells hg hi hold h1]
end
def nine (a0 b0 c0 a1 b1 c1 a2 b2 c2 : Int) : Array Value := #[.int .i64 a0, .int .i64 b0, .int .i64 c0, .int .i64 a1, .int .i64 b1, .int .i64 c1, .int .i64 a2, .int .i64 b2, .int .i64 c2]
theorem nine_one (a0 b0 c0 a1 b1 c1 a2 b2 c2 : Int) : (nine a0 b0 c0 a1 b1 c1 a2 b2 c2).all (fun x => x.oneCell') = true := by simp [nine, Value.oneCell']
theorem zeroE3 (W : World) : (zeroValue 101).run Tryz.prog W = .ok (.agg (nine 0 0 0 0 0 0 0 0 0)) W := by kernel_rfl
theorem infoE3 : (Tryz.prog.info? 101).map (·.size) = some 9 := by kernel_rfl
end Go.Proofs.YtimnmfjbfbkooaaGreatDoor

/- The law's all: copies of shapes. -/
namespace Go.Proofs.YtimnmfjbfbkooaaGreatDoor
set_option linter.all false
set_option linter.unusedSimpArgs false
set_option linter.unusedVariables false
open Go.RowKit
attribute [local go_sem] Oper.semAt_some

set_option maxRecDepth 100000 in
set_option maxHeartbeats 4000000 in
theorem all_law (ls : List (List Q)) (v : Value) (w : World) (hv : HasQQ w v ls) (hlen : ls.length ≤ 1000) (hq : ∀ l ∈ ls, l.length ≤ 410) :
    Calls Tryz.prog 23 #[v] w fun e w' => ∃ u vs, e = .returned u ∧ OwnQQ w' w.heap.size u vs ls ∧ Below w.heap.size w w' := by
  obtain ⟨sp, sc, rfl⟩ := hv.slice
  have HV := Lib.hid hv; clear hv
  have HQ := Lib.hid hq; clear hq
  have hal : Below w.heap.size w (w.alloc (.cells #[] 22)) := (Below.refl _ w).alloc (Nat.le_refl _) _
  have H0 : Hid (Below w.heap.size w (w.alloc (.cells #[] 22)) ∧ OwnQQ (w.alloc (.cells #[] 22)) w.heap.size (.slice (some ⟨w.heap.size, 0, none⟩) 0 0) [] []) := Lib.hid ⟨hal, ⟨⟨rfl, .inr ⟨w.heap.size, 0, #[], rfl, Nat.le_refl _, World.alloc_heap_new w _, Nat.le_refl _, by decide, rfl, rfl⟩⟩, rfl, fun i u m h => by simp at h⟩⟩
  clear hal
  go_enter Tryz.func23, Tryz.ntmps23
  go_wp2_with fail
  revert H0
  generalize w.alloc (.cells #[] 22) = W0
  generalize (Value.slice (some ⟨w.heap.size, 0, none⟩) 0 0) = v0
  intro H0
  go_loopw [3, 4] (fun u z wr => ∃ (k : Nat) (vs : List Value), k ≤ ls.length ∧ z = .int .i64 k ∧ Hid (Below w.heap.size w wr ∧ OwnQQ wr w.heap.size u vs (ls.take k))) (fun _ z _ => ls.length - (intOf z).toNat)
  case atStart => exact ⟨0, [], by omega, rfl, Lib.hid H0.out⟩
  case round =>
    clear H0
    obtain ⟨k, vs, hk, rfl, HR⟩ := hrel
    have hvl : vs.length = k := by rw [HR.out.2.len, List.length_take]; omega
    obtain ⟨p', c', rfl⟩ := own_slice HR.out.2.row
    rw [hvl] at HR ⊢
    have HVL := Lib.hid hvl; clear hvl
    by_cases hlt : k < ls.length
    · obtain ⟨l, hkl⟩ : ∃ l, ls[k]? = some l := ⟨_, List.getElem?_eq_getElem hlt⟩
      obtain ⟨a, x, rfl, a0, hx⟩ := (HV.out.below HR.out.1).at hkl
      obtain ⟨px, cx, rfl⟩ := hx.slice
      have HO := Lib.hid (own_law l _ wr hx (Nat.le_trans (HQ.out l (List.mem_of_getElem? hkl)) (by decide)))
      have HKL := Lib.hid hkl
      clear hx hkl
      go_wp2_with fail
      refine HO.out.mono ?_
      rintro e w3 ⟨u, rfl, hu, hb⟩
      have hsz := HR.out.1.size
      have HQ3 := Lib.hid (HR.out.2.below hb)
      have HB3 := Lib.hid (HR.out.1.trans (hb.mono hsz))
      have HU3 := Lib.hid (OwnQ.mono hu hsz)
      obtain ⟨xp, xc, rfl⟩ := own_slice hu
      clear hu hb HR a0 HO hsz
      have HROW : Hid (w3.ownsRow w.heap.size 22 1 (.slice p' k c') vs.length vs) := Lib.hid HQ3.out.row
      rw [HVL.out] at HROW
      have HM1 : Hid (k + 1 ≤ maxLen) := Lib.hid (by simp only [maxLen]; omega)
      have HM2 : Hid ((k + 1) * 24 ≤ 140737488355328) := Lib.hid (by omega)
      have hsz3 := HB3.out.size
      obtain ⟨iQ, hiQ, hzQ, hsQ, hbQ⟩ := info_parts infoQs
      go_wp2_with (first
        | (at_builtin; refine wpList_append_own _ rfl _ _ 43 rfl w.heap.size 22 iQ _ 1 24 Tryz.underlying43 hiQ hzQ hsQ hbQ rfl (by decide) (.slice p' k c') k vs rfl (HROW.out.alloc _) ⟨w3.heap.size, 0, none⟩ 1 1 [.slice xp l.length xc] rfl rfl (one_at _ _ _) (by simp [Value.oneCell']) HM1.out HM2.out (by rw [World.size_alloc]; omega) ?_; intro v' w4 hown' hgrow _; obtain ⟨p'', c'', rfl⟩ := own_slice hown'))
      have hown2 : w4.ownsRow w.heap.size 22 1 (.slice p'' (k + 1) c'') (vs.length + 1) (vs ++ [.slice xp l.length xc]) := by rw [HVL.out]; exact hown'
      have hq4 := HQ3.out.snoc HU3.out hown2 hgrow
      have hga : w3.grownBy w4 (Value.slice p' k c').ownBlock := ⟨hgrow.os, hgrow.tape, hgrow.output, Nat.le_trans (by simp) hgrow.size, fun k hk hne => (hgrow.block k (by simp; omega) hne).trans (Below.heap_alloc _ _ _ hk)⟩
      have hrow : ∀ j, (Value.slice p' k c').ownBlock = some j → w.heap.size ≤ j := fun j hj => (HROW.out.lt j hj).1
      rw [← take_snoc' HKL.out] at hq4
      have HQ4 : Hid (Below w.heap.size w w4 ∧ OwnQQ w4 w.heap.size (.slice p'' (k + 1) c'') (vs ++ [.slice xp l.length xc]) (ls.take (k + 1))) := Lib.hid ⟨HB3.out.grown hga hsz3 hrow, hq4⟩
      clear hq4 hga hrow hown2 hown' hgrow
      go_roundw
      case rel => exact ⟨k + 1, _, by omega, by go_num, HQ4⟩
      case measure => simp [intOf]; omega
    · obtain rfl : k = ls.length := by omega
      have HN : Hid (Below w.heap.size w wr ∧ OwnQQ wr w.heap.size (.slice p' ls.length c') vs ls) := Lib.hid (by have := HR.out; rwa [List.take_length] at this)
      clear HR
      go_wp2_with fail
      go_ret
      exact ⟨_, vs, rfl, HN.out.2, HN.out.1⟩
end Go.Proofs.YtimnmfjbfbkooaaGreatDoor

/- The reference's Joints; printed by mkjoints.py. -/
namespace Go.Proofs.YtimnmfjbfbkooaaGreatDoor
set_option linter.all false
set_option linter.unusedSimpArgs false
set_option linter.unusedVariables false
open Go.RowKit
attribute [local go_sem] Oper.semAt_some

theorem equalQ_yes (x y k : Int) (W : World) : (Op.equalIn 10000 64 (.agg #[.int .i64 x, .int .i64 y, .int .i64 k]) (.agg #[.int .i64 x, .int .i64 y, .int .i64 k])).run Tryz.prog W = .ok true W := by
  rw [equalIn_Q]; simp
theorem equalQ_no {x y k x' y' k' : Int} (h : ¬ (⟨x, y, k⟩ : Q) = ⟨x', y', k'⟩) (W : World) : (Op.equalIn 10000 64 (.agg #[.int .i64 x, .int .i64 y, .int .i64 k]) (.agg #[.int .i64 x', .int .i64 y', .int .i64 k'])).run Tryz.prog W = .ok false W := by
  rw [equalIn_Q, decide_eq_false h]
theorem index_shape (W : World) (a : Addr) {i n c : Nat} (hi : i < n) : (Instr.indexAt 43 (.slice (some a) n c) (.int .i64 i)).run Tryz.prog W = .ok (.pointer (some (a.add i))) W := by
  have h1 : (0 : Int) ≤ i ∧ (i : Int) < n := by omega
  simp [go_sem, h1]
theorem index_quarter (W : World) (a : Addr) {i n c : Nat} (hi : i < n) : (Instr.indexAt 22 (.slice (some a) n c) (.int .i64 i)).run Tryz.prog W = .ok (.pointer (some (a.add (i * 3)))) W := by
  have h1 : (0 : Int) ≤ i ∧ (i : Int) < n := by omega
  simp [go_sem, h1]
theorem isAgg_shape (w : World) : (isAgg 22).run Tryz.prog w = .ok false w := by kernel_rfl
theorem load_shape {W : World} {a : Addr} {v : Value} (h : W.cell? a = some v) : (Instr.loadAt 22 (.pointer (some a))).run Tryz.prog W = .ok v W := run_loadAt_cell isAgg_shape h
theorem load_quarter {W : World} {a : Addr} {l : List Q} (h : QsAt W a l) {i : Nat} {q : Q} (hq : l[i]? = some q) : (Instr.loadAt 64 (.pointer (some (a.add (i * 3))))).run Tryz.prog W = .ok q.val W := by
  have c0 := h.at0 i q hq
  have c1 := h.at1 i q hq
  have c2 := h.at2 i q hq
  obtain ⟨x, y, s⟩ := q
  simp only at c0 c1 c2
  simp [Instr.loadAt, Instr.sureAddr, loadVar, go_sem, c0, c1, c2]
  rfl
def pairC (sv lv mv : Value) (sa la ma : Addr) (i k a b : Nat) (p q : Q) (X Y : Array Value) : Nat → Option Value
  | 0 => some sv | 1 => some (.int .i64 i) | 2 => some (.pointer (some (sa.add i))) | 3 => some lv | 4 => some (.int .i64 a) | 5 => some (.pointer (some (la.add (a * 3)))) | 6 => some p.val | 7 => some (.agg X)
  | 8 => some sv | 9 => some (.int .i64 k) | 10 => some (.pointer (some (sa.add k))) | 11 => some mv | 12 => some (.int .i64 b) | 13 => some (.pointer (some (ma.add (b * 3)))) | 14 => some q.val | 15 => some (.agg Y)
  | _ => none
theorem HasQQ.at' {W : World} {p : Option Addr} {n c : Nat} {ls : List (List Q)} (h : HasQQ W (.slice p n c) ls) (hne : ls ≠ []) : ∃ a, p = some a ∧ ∀ (W' : World), Below W.heap.size W W' → ∀ (k : Nat) (l : List Q), ls[k]? = some l → ∃ lp lc, W'.cell? (a.add k) = some (.slice lp l.length lc) ∧ HasQ W' (.slice lp l.length lc) l := by
  rcases h with ⟨_, h⟩ | ⟨a, c, vs, h1, h2, h3, h4, h5, h6⟩
  · exact absurd h hne
  · simp only [Value.slice.injEq] at h1
    refine ⟨a, h1.1, fun W' hB k l hk => ?_⟩
    obtain ⟨x, hx⟩ : ∃ u, vs[k]? = some u := ⟨_, List.getElem?_eq_getElem (by rw [h5]; exact (List.getElem?_eq_some_iff.1 hk).1)⟩
    have hq := (h6 k x l hx hk).below hB
    obtain ⟨lp, lc, rfl⟩ := hq.slice
    exact ⟨lp, lc, (h4.below hB).at_ k _ hx, hq⟩
/-- The same, for one shape that is not empty. -/
theorem shape_cell {W : World} {sa : Addr} {ls : List (List Q)} (h : ∀ (W' : World), Below W.heap.size W W' → ∀ (k : Nat) (l : List Q), ls[k]? = some l → ∃ lp lc, W'.cell? (sa.add k) = some (.slice lp l.length lc) ∧ HasQ W' (.slice lp l.length lc) l)
    {k : Nat} {l : List Q} (hk : ls[k]? = some l) (hne : l ≠ []) : ∃ la lc, ∀ W', Below W.heap.size W W' → W'.cell? (sa.add k) = some (.slice (some la) l.length lc) ∧ QsAt W' la l := by
  obtain ⟨lp, lc, h1, h2⟩ := h W (Below.refl _ W) k l hk
  obtain ⟨la, rfl⟩ : ∃ la, lp = some la := by
    rcases h2 with ⟨h3, h4⟩ | ⟨a, c, h3, _⟩
    · exact absurd h4 hne
    · simp only [Value.slice.injEq] at h3; exact ⟨a, h3.1⟩
  refine ⟨la, lc, fun W' hB => ?_⟩
  obtain ⟨lp', lc', h3, h4⟩ := h W' hB k l hk
  have hlt : (sa.add k).block < W.heap.size := by
    unfold World.cell? at h1
    rcases Nat.lt_or_ge (sa.add k).block W.heap.size with h | h
    · exact h
    · rw [Array.getElem?_eq_none h] at h1; cases h1
  have e : W'.cell? (sa.add k) = W.cell? (sa.add k) := cell_of_block (hB.block _ hlt)
  refine ⟨e.trans h1, ?_⟩
  rcases h2 with ⟨_, h5⟩ | ⟨a, c, h5, _, _, h6⟩
  · exact absurd h5 hne
  · simp only [Value.slice.injEq, Option.some.injEq] at h5
    rw [h5.1]; exact h6.below hB
/-- No quarter of the shapes so far is in an earlier one. -/
def sepI (ls : List (List Q)) (i : Nat) : Prop := ∀ (i' k' : Nat) (l m : List Q), i' < i → k' < i' → ls[i']? = some l → ls[k']? = some m → ∀ q ∈ l, q ∉ m
def sepK (ls : List (List Q)) (l : List Q) (k : Nat) : Prop := ∀ (k' : Nat) (m : List Q), k' < k → ls[k']? = some m → ∀ q ∈ l, q ∉ m
theorem sep_step {ls : List (List Q)} {i : Nat} {l : List Q} (hl : ls[i]? = some l) (h : sepI ls i) (h' : sepK ls l i) : sepI ls (i + 1) := by
  intro i' k' l' m hi hk hl' hm
  rcases Nat.lt_or_ge i' i with h1 | h1
  · exact h i' k' l' m h1 hk hl' hm
  · obtain rfl : i' = i := by omega
    rw [hl] at hl'; cases hl'
    exact h' k' m hk hm
theorem sepK_step {ls : List (List Q)} {l m : List Q} {k : Nat} (hm : ls[k]? = some m) (h : sepK ls l k) (h' : ∀ q ∈ l, q ∉ m) : sepK ls l (k + 1) := by
  intro k' m' hk hm'
  rcases Nat.lt_or_ge k' k with h1 | h1
  · exact h k' m' h1 hm'
  · obtain rfl : k' = k := by omega
    rw [hm] at hm'; cases hm'
    exact h'
theorem mem_snoc_take {α : Type} {l : List α} {a : Nat} {p : α} (h : l[a]? = some p) {P : α → Prop} (h1 : ∀ q ∈ l.take a, P q) (h2 : P p) : ∀ q ∈ l.take (a + 1), P q := by
  intro q hq
  rw [take_snocG h] at hq
  rcases List.mem_append.1 hq with hq | hq
  · exact h1 q hq
  · rw [List.mem_singleton] at hq; subst hq; exact h2
theorem not_mem_snoc {α : Type} {m : List α} {b : Nat} {p q : α} (h : m[b]? = some q) (h1 : p ∉ m.take b) (h2 : p ≠ q) : p ∉ m.take (b + 1) := by
  rw [take_snocG h, List.mem_append, List.mem_singleton]
  rintro (h3 | h3)
  · exact h1 h3
  · exact h2 h3
theorem code_bad {ls : List (List Q)} (h60 : ¬ 60 < ls.length) {n : Nat} (h : checks ls = n) (hn : n ≠ 0) : jointsCode ls = n := by
  unfold jointsCode; rw [if_neg h60, if_pos (by rw [h]; exact hn), h]
theorem code_twice {ls : List (List Q)} (h60 : ¬ 60 < ls.length) (h : checks ls = 0) (hn : ¬ ls.flatten.Nodup) : jointsCode ls = 6 := by
  unfold jointsCode; rw [if_neg h60, if_neg (by rw [h]; simp), if_neg hn]
theorem code_good {ls : List (List Q)} (h60 : ¬ 60 < ls.length) (h : checks ls = 0) (hn : ls.flatten.Nodup) : jointsCode ls = 0 := by
  unfold jointsCode; rw [if_neg h60, if_neg (by rw [h]; simp), if_pos hn]
theorem joint_perm {ls : List (List Q)} (hn : ls.flatten.Nodup) (hq : ∀ q ∈ ls.flatten, inQ q) : (allJ ls ls.length).Perm (jointE ls) :=
  (List.perm_ext_iff_of_nodup (allJ_nodup hn hq) (pick_nodup hq _)).2 fun e => by
    rw [mem_allJ, link_iff hn hq]; exact (pick_mem hq (p := jointP (shapesFrom 0 ls)) (by rfl) e).symm
theorem checks_valid {ls : List (List Q)} (h : checks ls = 0) : (∀ l ∈ ls, l ≠ [] ∧ l.Nodup ∧ l.length ≤ 400) ∧ ∀ q ∈ ls.flatten, inQ q := by
  have h0 := checks_zero h
  refine ⟨fun l hl => ⟨(checkN_ok (h0 l hl)).2.1, (checkN_ok (h0 l hl)).1.2.nodup, (checkN_ok (h0 l hl)).2.2⟩, fun q hq => ?_⟩
  obtain ⟨l, hl, hq⟩ := List.mem_flatten.1 hq
  exact (checkN_ok (h0 l hl)).1.1 q hq
def ResJ (ls : List (List Q)) (w : World) (e : Ending) (w' : World) : Prop := ∃ u es, e = .returned (.tuple #[u, .int .i64 (jointsCode ls)]) ∧ HasEs w' u es ∧ (jointsCode ls ≠ 0 → es = []) ∧ (jointsCode ls = 0 → es.Perm (jointE ls) ∧ SrtE es) ∧ Below w.heap.size w w'
theorem resJ_bad {ls : List (List Q)} {w w' : World} {n : Nat} (h : jointsCode ls = n) (hn : n ≠ 0) (hB : Below w.heap.size w w') : ResJ ls w (.returned (.tuple #[.slice none 0 0, .int .i64 n])) w' :=
  ⟨_, [], by rw [h], .inl ⟨rfl, rfl⟩, fun _ => rfl, fun h0 => absurd (h.symm.trans h0) hn, hB⟩
theorem three_at {p : Q} {x0 y0 z0 x1 y1 z1 x2 y2 z2 : Int} (h : edgesQ p = [⟨x0, y0, z0⟩, ⟨x1, y1, z1⟩, ⟨x2, y2, z2⟩]) {c : Nat} (hc : c < 3) : ∃ ex ey ek, (edgesQ p)[c]? = some ⟨ex, ey, ek⟩ := by
  rw [h]
  rcases (by omega : c = 0 ∨ c = 1 ∨ c = 2) with rfl | rfl | rfl
  · exact ⟨_, _, _, rfl⟩
  · exact ⟨_, _, _, rfl⟩
  · exact ⟨_, _, _, rfl⟩
theorem three_cell {p : Q} {x0 y0 z0 x1 y1 z1 x2 y2 z2 : Int} (h : edgesQ p = [⟨x0, y0, z0⟩, ⟨x1, y1, z1⟩, ⟨x2, y2, z2⟩]) {c : Nat} (hc : c < 3) {ex ey ek : Int} (he : (edgesQ p)[c]? = some ⟨ex, ey, ek⟩) {eb : Nat} :
    ∀ W, Has9 W eb x0 y0 z0 x1 y1 z1 x2 y2 z2 → W.cell? ⟨eb, c * 3, none⟩ = some (.int .i64 ex) ∧ W.cell? ⟨eb, c * 3 + 1, none⟩ = some (.int .i64 ey) ∧ W.cell? ⟨eb, c * 3 + 2, none⟩ = some (.int .i64 ek) := by
  intro W h9
  obtain ⟨⟨c0, c1, c2⟩, ⟨c3, c4, c5⟩, c6, c7, c8⟩ := h9.cells
  rw [h] at he
  rcases (by omega : c = 0 ∨ c = 1 ∨ c = 2) with rfl | rfl | rfl
  · simp only [List.getElem?_cons_zero, Option.some.injEq, E.mk.injEq] at he; obtain ⟨rfl, rfl, rfl⟩ := he; exact ⟨c0, c1, c2⟩
  · simp only [List.getElem?_cons_succ, List.getElem?_cons_zero, Option.some.injEq, E.mk.injEq] at he; obtain ⟨rfl, rfl, rfl⟩ := he; exact ⟨c3, c4, c5⟩
  · simp only [List.getElem?_cons_succ, List.getElem?_cons_zero, Option.some.injEq, E.mk.injEq] at he; obtain ⟨rfl, rfl, rfl⟩ := he; exact ⟨c6, c7, c8⟩

set_option maxRecDepth 100000 in
set_option maxHeartbeats 32000000 in
theorem joints_ref (ls : List (List Q)) (hflat : ls.length ≤ 60 → ls.flatten.length ≤ 300) (hlen : ls.length ≤ 1000000000) (v : Value) (w : World) (hv : HasQQ w v ls) :
    Calls Tryz.prog 29 #[v] w fun e w' => ResJ ls w e w' := by
  obtain ⟨sp, sc, rfl⟩ := hv.slice
  by_cases h60 : 60 < ls.length
  case pos =>
    have hb : decide ((60 : Int) < (ls.length : Int)) = true := by rw [decide_eq_true_eq]; omega
    have HC : Hid (jointsCode ls = 5) := Lib.hid (by unfold jointsCode; rw [if_pos h60])
    go_enter Tryz.func29, Tryz.ntmps29
    go_wp2_with fail
    go_ret2
    exact resJ_bad HC.out (by decide) (Below.refl _ w)
  have hb : decide ((60 : Int) < (ls.length : Int)) = false := by rw [decide_eq_false_iff_not]; omega
  have HF := Lib.hid (hflat (by omega)); clear hflat
  have HV := Lib.hid hv; clear hv
  have H60 := Lib.hid h60; clear h60
  go_enter Tryz.func29, Tryz.ntmps29
  go_wp2_with fail
  clear hb
  go_loopw [4] (fun z wr => ∃ k : Nat, k ≤ ls.length ∧ z = .int .i64 k ∧ Hid (checks ls = checks (ls.drop k) ∧ Below w.heap.size w wr)) (fun z _ => ls.length - (intOf z).toNat)
  case atStart => exact ⟨0, by omega, rfl, Lib.hid ⟨by rw [List.drop_zero], Below.refl _ w⟩⟩
  case round =>
    obtain ⟨k, hk, rfl, HR⟩ := hrel
    by_cases hlt : k < ls.length
    · obtain ⟨l, hkl⟩ : ∃ l, ls[k]? = some l := ⟨_, List.getElem?_eq_getElem hlt⟩
      obtain ⟨a, x, rfl, a0, hx⟩ := (HV.out.below HR.out.2).at hkl
      obtain ⟨px, cx, rfl⟩ := hx.slice
      have HX := Lib.hid hx
      have HST := Lib.hid (HR.out.1.trans (checks_drop hkl))
      clear hx hkl
      have HCK := Lib.hid (checkr_any l _ wr HX.out)
      go_wp2_with fail
      refine HCK.out.mono ?_
      rintro e w1 ⟨rfl, hB1⟩
      have HB := Lib.hid (HR.out.2.trans (hB1.mono HR.out.2.size))
      clear hB1 HCK a0 HX HR
      by_cases hc : checkN l = 0
      · have HN : Hid (checks ls = checks (ls.drop (k + 1))) := Lib.hid (by rw [HST.out, if_pos hc])
        rw [hc]
        clear hc
        go_wp2_with fail
        go_roundw
        case rel => exact ⟨k + 1, by omega, by go_num, Lib.hid ⟨HN.out, HB.out⟩⟩
        case measure => simp [intOf]; omega
      · have HN : Hid (jointsCode ls = checkN l) := Lib.hid (code_bad H60.out (HST.out.trans (if_neg hc)) hc)
        have HC := Lib.hid hc
        have hb1 : ((checkN l : Int) != 0) = true := by simpa using hc
        clear hc
        go_wp2_with fail
        go_ret2
        exact resJ_bad HN.out HC.out HB.out
    · obtain rfl : k = ls.length := by omega
      have HCH : Hid (checks ls = 0) := Lib.hid (by rw [HR.out.1, List.drop_length]; rfl)
      have HB0 := Lib.hid HR.out.2
      clear HR
      have hal : Below wr.heap.size wr (wr.alloc (.cells #[] 72)) := (Below.refl _ wr).alloc (Nat.le_refl _) _
      have H0 : Hid (BI w (wr.alloc (.cells #[] 72)) (.slice (some ⟨wr.heap.size, 0, none⟩) 0 0) []) := Lib.hid ⟨⟨rfl, .inr ⟨wr.heap.size, 0, #[], rfl, HB0.out.size, World.alloc_heap_new wr _, Nat.le_refl _, by decide, rfl, rfl⟩⟩, ⟨_, _, rfl⟩, HB0.out.trans (hal.mono HB0.out.size)⟩
      clear hal
      by_cases hne : ls = []
      case pos =>
        subst hne
        have HG : Hid (jointsCode [] = 0) := Lib.hid (code_good H60.out HCH.out (by simp))
        have HJ : Hid (jointE [] = []) := Lib.hid rfl
        go_wp2_with fail
        revert H0
        generalize wr.alloc (.cells #[] 72) = W0
        generalize (Value.slice (some ⟨wr.heap.size, 0, none⟩) 0 0) = v0
        intro H0
        go_loopw [7] (fun z wr => z = .int .i64 0 ∧ Hid (BI w wr v0 [])) (fun z _ => 0)
        case atStart => exact ⟨rfl, H0⟩
        case round =>
          clear H0
          obtain ⟨rfl, HR⟩ := hrel
          go_wp2_with fail
          go_loopw [6, 11] (fun u z wr => u = v0 ∧ z = .int .i64 0 ∧ Hid (BI w wr v0 [])) (fun _ z _ => 0)
          case atStart => exact ⟨rfl, rfl, HR⟩
          case round =>
            clear HR
            obtain ⟨rfl, rfl, HR⟩ := hrel
            go_wp2_with fail
            go_ret2
            exact ⟨_, [], by rw [HG.out]; rfl, own_es HR.out.own, fun h => absurd HG.out h, fun _ => by rw [HJ.out]; exact ⟨List.Perm.refl _, List.Pairwise.nil⟩, HR.out.below⟩
      case neg =>
      obtain ⟨sa, rfl, hcell⟩ := HV.out.at' hne
      have HCL := Lib.hid (fun (k : Nat) (l : List Q) (hk : ls[k]? = some l) (hne : l ≠ []) => shape_cell hcell hk hne)
      have HVD := Lib.hid (checks_valid HCH.out)
      clear hcell hne
      go_wp2_with fail
      revert H0
      generalize wr.alloc (.cells #[] 72) = W0
      generalize (Value.slice (some ⟨wr.heap.size, 0, none⟩) 0 0) = v0
      intro H0
      clear HB0
      go_loopw [7] (fun z wr => ∃ i : Nat, i ≤ ls.length ∧ z = .int .i64 i ∧ Hid (BI w wr v0 [] ∧ sepI ls i)) (fun z _ => ls.length - (intOf z).toNat)
      case atStart => exact ⟨0, by omega, rfl, Lib.hid ⟨H0.out, fun i' k' l m h => by omega⟩⟩
      case round =>
        clear H0
        obtain ⟨i, hi, rfl, HR⟩ := hrel
        by_cases hil : i < ls.length
        · obtain ⟨l, hl⟩ : ∃ l, ls[i]? = some l := ⟨_, List.getElem?_eq_getElem hil⟩
          obtain ⟨la, lc, hla⟩ := HCL.out _ _ hl (HVD.out.1 l (List.mem_of_getElem? hl)).1
          have HLA := Lib.hid hla
          have hll := (HVD.out.1 l (List.mem_of_getElem? hl)).2.2
          have HL := Lib.hid hl
          have HSI := Lib.hid HR.out.2
          have HB := Lib.hid HR.out.1
          clear hla hl HR
          go_wp2_with fail
          go_loopw [8] (fun z wr => ∃ k : Nat, k ≤ i ∧ z = .int .i64 k ∧ Hid (BI w wr v0 [] ∧ sepK ls l k)) (fun z _ => i - (intOf z).toNat)
          case atStart => exact ⟨0, by omega, rfl, Lib.hid ⟨HB.out, fun k' m h => by omega⟩⟩
          case round =>
            clear HB
            obtain ⟨k, hk, rfl, HR⟩ := hrel
            by_cases hki : k < i
            · have hkl : k < ls.length := by omega
              obtain ⟨m, hm⟩ : ∃ l, ls[k]? = some l := ⟨_, List.getElem?_eq_getElem hkl⟩
              obtain ⟨ma, mc, hma⟩ := HCL.out _ _ hm (HVD.out.1 m (List.mem_of_getElem? hm)).1
              have HMA := Lib.hid hma
              have hlm := (HVD.out.1 m (List.mem_of_getElem? hm)).2.2
              have HM := Lib.hid hm
              have HSK := Lib.hid HR.out.2
              have HB := Lib.hid HR.out.1
              clear hma hm HR
              go_wp2_with fail
              go_loopw [9] (fun z wr => ∃ a : Nat, a ≤ l.length ∧ z = .int .i64 a ∧ Hid (BI w wr v0 [] ∧ ∀ q ∈ l.take a, q ∉ m)) (fun z _ => l.length - (intOf z).toNat)
              case atStart => exact ⟨0, by omega, rfl, Lib.hid ⟨HB.out, fun q hq => by simp at hq⟩⟩
              case round =>
                clear HB
                obtain ⟨a, ha, rfl, HR⟩ := hrel
                have cl := (HLA.out wr HR.out.1.below).1
                by_cases hal : a < l.length
                · obtain ⟨p, hp⟩ : ∃ p, l[a]? = some p := ⟨_, List.getElem?_eq_getElem hal⟩
                  have HP := Lib.hid hp
                  have HSA := Lib.hid HR.out.2
                  have HB := Lib.hid HR.out.1
                  clear hp HR
                  go_wp2_with fail
                  clear cl
                  go_loopw [10] (fun z wr => ∃ b : Nat, b ≤ m.length ∧ z = .int .i64 b ∧ Hid (BI w wr v0 [] ∧ p ∉ m.take b)) (fun z _ => m.length - (intOf z).toNat)
                  case atStart => exact ⟨0, by omega, rfl, Lib.hid ⟨HB.out, by simp⟩⟩
                  case round =>
                    clear HB
                    obtain ⟨b, hb, rfl, HR⟩ := hrel
                    have cl := (HLA.out wr HR.out.1.below).1
                    have cm := (HMA.out wr HR.out.1.below).1
                    by_cases hbm : b < m.length
                    · obtain ⟨q, hq⟩ : ∃ q, m[b]? = some q := ⟨_, List.getElem?_eq_getElem hbm⟩
                      have HQ := Lib.hid hq
                      have a0 := (HLA.out wr HR.out.1.below).2.at0 a p HP.out
                      have a1 := (HLA.out wr HR.out.1.below).2.at1 a p HP.out
                      have a2 := (HLA.out wr HR.out.1.below).2.at2 a p HP.out
                      have b0 := (HMA.out wr HR.out.1.below).2.at0 b q hq
                      have b1 := (HMA.out wr HR.out.1.below).2.at1 b q hq
                      have b2 := (HMA.out wr HR.out.1.below).2.at2 b q hq
                      have HSB := Lib.hid HR.out.2
                      have HBD : Hid (∀ n, BI w (wr.drewN n) v0 []) := Lib.hid (fun n => HR.out.1.keep (below_drewN _ wr n))
                      have hguard : Tryz.prog.eqGuardType Tryz.prog.depth 64 = false := by kernel_rfl
                      clear hq HR
                      by_cases hpq : p = q
                      · have HN : Hid (jointsCode ls = 6) := Lib.hid (code_twice H60.out HCH.out (fun hn => by
                          have := flat_at hn HL.out HM.out (List.mem_of_getElem? HP.out) (hpq ▸ List.mem_of_getElem? HQ.out)
                          omega))
                        subst hpq
                        obtain ⟨px, py, ps⟩ := p
                        simp only at a0 a1 a2 b0 b1 b2
                        have heq := equalQ_yes px py ps
                        go_wp2_with fail
                        go_quiet (fail)
                        clear a0 a1 a2 b0 b1 b2 heq hguard cl cm
                        go_wp2_with fail
                        go_ret2
                        exact resJ_bad HN.out (by decide) (HBD.out _).below
                      · have HN : Hid (p ∉ m.take (b + 1)) := Lib.hid (not_mem_snoc HQ.out HSB.out hpq)
                        obtain ⟨px, py, ps⟩ := p
                        obtain ⟨qx, qy, qs⟩ := q
                        simp only at a0 a1 a2 b0 b1 b2
                        have heq := equalQ_no hpq
                        clear hpq
                        go_wp2_with fail
                        go_quiet (fail)
                        clear a0 a1 a2 b0 b1 b2 heq hguard cl cm
                        go_wp2_with fail
                        go_roundw
                        case rel => exact ⟨b + 1, by omega, by go_num, Lib.hid ⟨HBD.out _, HN.out⟩⟩
                        case measure => simp [intOf]; omega
                    · obtain rfl : b = m.length := by omega
                      have HN : Hid (BI w wr v0 [] ∧ ∀ q ∈ l.take (a + 1), q ∉ m) := Lib.hid ⟨HR.out.1, mem_snoc_take HP.out HSA.out (by have := HR.out.2; rwa [List.take_length] at this)⟩
                      clear HR cl
                      go_wp2_with fail
                      clear cm
                      go_roundw
                      case rel => exact ⟨a + 1, by omega, by go_num, HN⟩
                      case measure => simp [intOf]; omega
                · obtain rfl : a = l.length := by omega
                  have HN : Hid (BI w wr v0 [] ∧ sepK ls l (k + 1)) := Lib.hid ⟨HR.out.1, sepK_step HM.out HSK.out (by have := HR.out.2; rwa [List.take_length] at this)⟩
                  clear HR
                  go_wp2_with fail
                  clear cl
                  go_roundw
                  case rel => exact ⟨k + 1, by omega, by go_num, HN⟩
                  case measure => simp [intOf]; omega
            · obtain rfl : k = i := by omega
              have HN : Hid (BI w wr v0 [] ∧ sepI ls (k + 1)) := Lib.hid ⟨HR.out.1, sep_step HL.out HSI.out HR.out.2⟩
              clear HR
              go_wp2_with fail
              go_roundw
              case rel => exact ⟨k + 1, by omega, by go_num, HN⟩
              case measure => simp [intOf]; omega
        · obtain rfl : i = ls.length := by omega
          have HND : Hid (ls.flatten.Nodup) := Lib.hid (flat_nodup (fun l hl => (HVD.out.1 l hl).2.1) (fun i k l m hki hi hk => HR.out.2 i k l m (List.getElem?_eq_some_iff.1 hi).1 hki hi hk))
          have HG : Hid (jointsCode ls = 0) := Lib.hid (code_good H60.out HCH.out HND.out)
          have HB := Lib.hid HR.out.1
          clear HR
          go_wp2_with fail
          go_loopw [6, 11] (fun u z wr => ∃ (i : Nat) (es : List E), i ≤ ls.length ∧ z = .int .i64 i ∧ Hid (BI w wr u es ∧ es.Perm (allJ ls i) ∧ SrtE es)) (fun _ z _ => ls.length - (intOf z).toNat)
          case atStart => exact ⟨0, [], by omega, rfl, Lib.hid ⟨HB.out, List.Perm.refl _, List.Pairwise.nil⟩⟩
          case round =>
            clear HB
            obtain ⟨i, es, hi, rfl, HR⟩ := hrel
            obtain ⟨g, cap, rfl⟩ := HR.out.1.form
            by_cases hil : i < ls.length
            · obtain ⟨l, hl⟩ : ∃ l, ls[i]? = some l := ⟨_, List.getElem?_eq_getElem hil⟩
              obtain ⟨la, lc, hla⟩ := HCL.out _ _ hl (HVD.out.1 l (List.mem_of_getElem? hl)).1
              have HLA := Lib.hid hla
              have hll := (HVD.out.1 l (List.mem_of_getElem? hl)).2.2
              have HL := Lib.hid hl
              have HB := Lib.hid HR.out
              clear hla hl HR
              go_wp2_with fail
              go_loopw [6, 12] (fun u z wr => ∃ (k : Nat) (es : List E), k ≤ i ∧ z = .int .i64 k ∧ Hid (BI w wr u es ∧ es.Perm (allJ ls i ++ befJ ls l k) ∧ SrtE es)) (fun _ z _ => i - (intOf z).toNat)
              case atStart => exact ⟨0, es, by omega, rfl, Lib.hid ⟨HB.out.1, by simpa [befJ] using HB.out.2.1, HB.out.2.2⟩⟩
              case round =>
                clear HB
                obtain ⟨k, es, hk, rfl, HR⟩ := hrel
                obtain ⟨g, cap, rfl⟩ := HR.out.1.form
                by_cases hki : k < i
                · have hkl : k < ls.length := by omega
                  obtain ⟨m, hm⟩ : ∃ l, ls[k]? = some l := ⟨_, List.getElem?_eq_getElem hkl⟩
                  obtain ⟨ma, mc, hma⟩ := HCL.out _ _ hm (HVD.out.1 m (List.mem_of_getElem? hm)).1
                  have HMA := Lib.hid hma
                  have hlm := (HVD.out.1 m (List.mem_of_getElem? hm)).2.2
                  have HM := Lib.hid hm
                  have HB := Lib.hid HR.out
                  clear hma hm HR
                  go_wp2_with fail
                  go_loopw [6, 13] (fun u z wr => ∃ (a : Nat) (es : List E), a ≤ l.length ∧ z = .int .i64 a ∧ Hid (BI w wr u es ∧ es.Perm (allJ ls i ++ (befJ ls l k ++ shpJ l m a)) ∧ SrtE es)) (fun _ z _ => l.length - (intOf z).toNat)
                  case atStart => exact ⟨0, es, by omega, rfl, Lib.hid ⟨HB.out.1, by simpa [shpJ] using HB.out.2.1, HB.out.2.2⟩⟩
                  case round =>
                    clear HB
                    obtain ⟨a, es, ha, rfl, HR⟩ := hrel
                    obtain ⟨g, cap, rfl⟩ := HR.out.1.form
                    have cl := (HLA.out wr HR.out.1.below).1
                    by_cases hal : a < l.length
                    · obtain ⟨p, hp⟩ : ∃ p, l[a]? = some p := ⟨_, List.getElem?_eq_getElem hal⟩
                      have HP := Lib.hid hp
                      have HB := Lib.hid HR.out
                      clear hp HR
                      go_wp2_with fail
                      clear cl
                      go_loopw [6, 14] (fun u z wr => ∃ (b : Nat) (es : List E), b ≤ m.length ∧ z = .int .i64 b ∧ Hid (BI w wr u es ∧ es.Perm (allJ ls i ++ (befJ ls l k ++ (shpJ l m a ++ rowJ p m b))) ∧ SrtE es)) (fun _ z _ => m.length - (intOf z).toNat)
                      case atStart => exact ⟨0, es, by omega, rfl, Lib.hid ⟨HB.out.1, by simpa [rowJ] using HB.out.2.1, HB.out.2.2⟩⟩
                      case round =>
                        clear HB
                        obtain ⟨b, es, hb, rfl, HR⟩ := hrel
                        obtain ⟨g, cap, rfl⟩ := HR.out.1.form
                        have cm := (HMA.out wr HR.out.1.below).1
                        by_cases hbm : b < m.length
                        · obtain ⟨q, hq⟩ : ∃ q, m[b]? = some q := ⟨_, List.getElem?_eq_getElem hbm⟩
                          have HQ := Lib.hid hq
                          have HB := Lib.hid HR.out
                          clear hq HR
                          go_wp2_with fail
                          clear cm
                          have hip : inQ p := HVD.out.2 p (mem_flat HL.out (List.mem_of_getElem? HP.out))
                          have hiq : inQ q := HVD.out.2 q (mem_flat HM.out (List.mem_of_getElem? HQ.out))
                          obtain ⟨x0, y0, z0, x1, y1, z1, x2, y2, z2, hpe, hpv⟩ := edges_three p
                          obtain ⟨u0, v0', r0, u1, v1, r1, u2, v2, r2, hqe, hqv⟩ := edges_three q
                          have HEP : Hid (∀ W, Calls Tryz.prog 65 #[p.val] W fun e w' => e = .returned (.agg (nine x0 y0 z0 x1 y1 z1 x2 y2 z2)) ∧ Below W.heap.size W w') := Lib.hid (fun W => by have := edges_ref p hip W; rw [hpv] at this; exact this)
                          have HEQ : Hid (∀ W, Calls Tryz.prog 65 #[q.val] W fun e w' => e = .returned (.agg (nine u0 v0' r0 u1 v1 r1 u2 v2 r2)) ∧ Below W.heap.size W w') := Lib.hid (fun W => by have := edges_ref q hiq W; rw [hqv] at this; exact this)
                          have HPE := Lib.hid hpe
                          have HQE := Lib.hid hqe
                          have HLW : Hid (∀ W, Below wr.drew.heap.size wr.drew W → W.cell? (sa.add i) = some (.slice (some la) l.length lc) ∧ QsAt W la l) := Lib.hid (fun W hW => HLA.out W (HB.out.1.below.trans ((((Below.refl _ wr).drew).trans hW).mono HB.out.1.below.size)))
                          have HMW : Hid (∀ W, Below wr.drew.heap.size wr.drew W → W.cell? (sa.add k) = some (.slice (some ma) m.length mc) ∧ QsAt W ma m) := Lib.hid (fun W hW => HMA.out W (HB.out.1.below.trans ((((Below.refl _ wr).drew).trans hW).mono HB.out.1.below.size)))
                          clear hpe hpv hqe hqv hip hiq
                          refine wp_region_joint 145 (by kernel_rfl) (by kernel_rfl) rfl (TwoJ wr.drew 101 (nine x0 y0 z0 x1 y1 z1 x2 y2 z2) (nine u0 v0' r0 u1 v1 r1 u2 v2 r2) (nine 0 0 0 0 0 0 0 0 0) 16 17 18 19 (pairC (.slice (some sa) ls.length sc) (.slice (some la) l.length lc) (.slice (some ma) m.length mc) sa la ma i k a b p q (nine x0 y0 z0 x1 y1 z1 x2 y2 z2) (nine u0 v0' r0 u1 v1 r1 u2 v2 r2))) ⟨Below.refl _ _, fun _ _ _ h => by simp at h, fun h => by simp at h, fun h => by simp at h, fun h => by simp at h⟩ ?_ ?_
                          · refine ⟨?_, ?_, ?_, ?_, ?_, ?_, ?_, ?_, ?_, ?_, ?_, ?_, ?_, ?_, ?_, ?_, ?_, ?_, ?_, ?_, trivial⟩
                            · intro L b W vals hL hD hC K hJ
                              exact lu_move rfl (hJ.other (by decide) (congrArg some (K.was 0 (by kernel_rfl)).symm) (Below.refl _ _))
                            · intro L b W vals hL hD hC K hJ
                              exact lu_move rfl (hJ.other (by decide) (congrArg some (K.was 11 (by kernel_rfl)).symm) (Below.refl _ _))
                            · intro L b W vals hL hD hC K hJ
                              obtain ⟨e1, _⟩ := K.val 0 109 (by kernel_rfl)
                              obtain ⟨e2, _⟩ := K.val 1 110 (by kernel_rfl)
                              have f1 := hJ.pure_ 0 _ rfl (hD 0 (by kernel_rfl))
                              have f2 := hJ.pure_ 1 _ rfl (hD 1 (by kernel_rfl))
                              refine lu_v (I := Instr.indexAt 43 (b.eval (.tmp 109)) (b.eval (.tmp 110))) rfl ?_ (hJ.other (by decide) rfl (Below.refl _ _))
                              rw [e1, e2, f1, f2]; exact index_shape W sa hil
                            · intro L b W vals hL hD hC K hJ
                              obtain ⟨e1, _⟩ := K.val 2 111 (by kernel_rfl)
                              have f1 := hJ.pure_ 2 _ rfl (hD 2 (by kernel_rfl))
                              refine lu_v (I := Instr.loadAt 22 (b.eval (.tmp 111))) rfl ?_ (hJ.other (by decide) rfl (Below.refl _ _))
                              rw [e1, f1]; exact load_shape (HLW.out W hJ.below).1
                            · intro L b W vals hL hD hC K hJ
                              exact lu_move rfl (hJ.other (by decide) (congrArg some (K.was 13 (by kernel_rfl)).symm) (Below.refl _ _))
                            · intro L b W vals hL hD hC K hJ
                              obtain ⟨e1, _⟩ := K.val 3 112 (by kernel_rfl)
                              obtain ⟨e2, _⟩ := K.val 4 113 (by kernel_rfl)
                              have f1 := hJ.pure_ 3 _ rfl (hD 3 (by kernel_rfl))
                              have f2 := hJ.pure_ 4 _ rfl (hD 4 (by kernel_rfl))
                              refine lu_v (I := Instr.indexAt 22 (b.eval (.tmp 112)) (b.eval (.tmp 113))) rfl ?_ (hJ.other (by decide) rfl (Below.refl _ _))
                              rw [e1, e2, f1, f2]; exact index_quarter W la hal
                            · intro L b W vals hL hD hC K hJ
                              obtain ⟨e1, _⟩ := K.val 5 114 (by kernel_rfl)
                              have f1 := hJ.pure_ 5 _ rfl (hD 5 (by kernel_rfl))
                              refine lu_v (I := Instr.loadAt 64 (b.eval (.tmp 114))) rfl ?_ (hJ.other (by decide) rfl (Below.refl _ _))
                              rw [e1, f1]; exact load_quarter (HLW.out W hJ.below).2 HP.out
                            · intro L b W vals hL hD hC K hJ
                              obtain ⟨e1, _⟩ := K.val 6 115 (by kernel_rfl)
                              have f1 := hJ.pure_ 6 _ rfl (hD 6 (by kernel_rfl))
                              refine lu_call (args := #[p.val]) rfl (by simp only [List.map_toArray, List.map_cons, List.map_nil, e1, f1]) (enters_of Tryz.func65 (by kernel_rfl) rfl) ((HEP.out W).mono ?_)
                              rintro e' w' ⟨rfl, hb⟩
                              exact ⟨_, rfl, hJ.other (by decide) rfl hb⟩
                            · intro L b W vals hL hD hC K hJ
                              exact lu_move rfl (hJ.other (by decide) (congrArg some (K.was 0 (by kernel_rfl)).symm) (Below.refl _ _))
                            · intro L b W vals hL hD hC K hJ
                              exact lu_move rfl (hJ.other (by decide) (congrArg some (K.was 12 (by kernel_rfl)).symm) (Below.refl _ _))
                            · intro L b W vals hL hD hC K hJ
                              obtain ⟨e1, _⟩ := K.val 8 117 (by kernel_rfl)
                              obtain ⟨e2, _⟩ := K.val 9 118 (by kernel_rfl)
                              have f1 := hJ.pure_ 8 _ rfl (hD 8 (by kernel_rfl))
                              have f2 := hJ.pure_ 9 _ rfl (hD 9 (by kernel_rfl))
                              refine lu_v (I := Instr.indexAt 43 (b.eval (.tmp 117)) (b.eval (.tmp 118))) rfl ?_ (hJ.other (by decide) rfl (Below.refl _ _))
                              rw [e1, e2, f1, f2]; exact index_shape W sa hkl
                            · intro L b W vals hL hD hC K hJ
                              obtain ⟨e1, _⟩ := K.val 10 119 (by kernel_rfl)
                              have f1 := hJ.pure_ 10 _ rfl (hD 10 (by kernel_rfl))
                              refine lu_v (I := Instr.loadAt 22 (b.eval (.tmp 119))) rfl ?_ (hJ.other (by decide) rfl (Below.refl _ _))
                              rw [e1, f1]; exact load_shape (HMW.out W hJ.below).1
                            · intro L b W vals hL hD hC K hJ
                              exact lu_move rfl (hJ.other (by decide) (congrArg some (K.was 14 (by kernel_rfl)).symm) (Below.refl _ _))
                            · intro L b W vals hL hD hC K hJ
                              obtain ⟨e1, _⟩ := K.val 11 120 (by kernel_rfl)
                              obtain ⟨e2, _⟩ := K.val 12 121 (by kernel_rfl)
                              have f1 := hJ.pure_ 11 _ rfl (hD 11 (by kernel_rfl))
                              have f2 := hJ.pure_ 12 _ rfl (hD 12 (by kernel_rfl))
                              refine lu_v (I := Instr.indexAt 22 (b.eval (.tmp 120)) (b.eval (.tmp 121))) rfl ?_ (hJ.other (by decide) rfl (Below.refl _ _))
                              rw [e1, e2, f1, f2]; exact index_quarter W ma hbm
                            · intro L b W vals hL hD hC K hJ
                              obtain ⟨e1, _⟩ := K.val 13 122 (by kernel_rfl)
                              have f1 := hJ.pure_ 13 _ rfl (hD 13 (by kernel_rfl))
                              refine lu_v (I := Instr.loadAt 64 (b.eval (.tmp 122))) rfl ?_ (hJ.other (by decide) rfl (Below.refl _ _))
                              rw [e1, f1]; exact load_quarter (HMW.out W hJ.below).2 HQ.out
                            · intro L b W vals hL hD hC K hJ
                              obtain ⟨e1, _⟩ := K.val 14 123 (by kernel_rfl)
                              have f1 := hJ.pure_ 14 _ rfl (hD 14 (by kernel_rfl))
                              refine lu_call (args := #[q.val]) rfl (by simp only [List.map_toArray, List.map_cons, List.map_nil, e1, f1]) (enters_of Tryz.func65 (by kernel_rfl) rfl) ((HEQ.out W).mono ?_)
                              rintro e' w' ⟨rfl, hb⟩
                              exact ⟨_, rfl, hJ.other (by decide) rfl hb⟩
                            · intro L b W vals hL hD hC K hJ
                              have ns : L 18 = false := joint_no hC hL (by decide) (by kernel_rfl)
                              exact run_alloc_exec rfl (zeroE3 _) (hJ.alloc1 (by decide) rfl ns)
                            · intro L b W vals hL hD hC K hJ
                              have ns : L 19 = false := joint_no hC hL (by decide) (by kernel_rfl)
                              exact run_alloc_exec rfl (zeroE3 _) (hJ.alloc2 (by decide) rfl ns)
                            · intro L b W vals hL hD hC K hJ
                              obtain ⟨e1, _⟩ := K.val 16 15 (by kernel_rfl)
                              obtain ⟨e2, _⟩ := K.val 7 116 (by kernel_rfl)
                              have f2 := hJ.pure_ 7 _ rfl (hD 7 (by kernel_rfl))
                              obtain ⟨g, v1, hg, hN⟩ := hJ.store1 (by decide) rfl (hD 16 (by kernel_rfl)) hL
                              exact run_store_exec rfl (e1.trans v1) (e2.trans f2) hg infoE3 rfl (nine_one _ _ _ _ _ _ _ _ _) hN
                            · intro L b W vals hL hD hC K hJ
                              obtain ⟨e1, _⟩ := K.val 17 16 (by kernel_rfl)
                              obtain ⟨e2, _⟩ := K.val 15 124 (by kernel_rfl)
                              have f2 := hJ.pure_ 15 _ rfl (hD 15 (by kernel_rfl))
                              obtain ⟨g, v1, hg, hN⟩ := hJ.store2 (by decide) rfl (hD 17 (by kernel_rfl)) hL
                              exact run_store_exec rfl (e1.trans v1) (e2.trans f2) hg infoE3 rfl (nine_one _ _ _ _ _ _ _ _ _) hN
                          · intro L vals W hL hJ
                            obtain ⟨b1, hv1, hg1, hb1⟩ := hJ.one (hL 16 (by decide))
                            obtain ⟨b2, hv2, hg2, hb2⟩ := hJ.two (hL 17 (by decide))
                            rw [if_pos (hL 18 (by decide))] at hb1
                            rw [if_pos (hL 19 (by decide))] at hb2
                            have hbel := hJ.below
                            clear hJ hL
                            simp only [List.length_cons, List.length_nil, List.range_succ, List.range_zero, List.nil_append, List.cons_append, List.map_cons, List.map_nil, putAll, Act.put, List.setIfInBounds_toArray, List.set_cons_zero, List.set_cons_succ, hv1, hv2]
                            have HBW : Hid (BI w W (.slice (some ⟨g, 0, none⟩) es.length cap) es) := Lib.hid (HB.out.1.keep (((Below.refl _ wr).drew).trans hbel))
                            have HP9 : Hid (Has9 W b1 x0 y0 z0 x1 y1 z1 x2 y2 z2 ∧ Has9 W b2 u0 v0' r0 u1 v1 r1 u2 v2 r2) := Lib.hid ⟨hb1, hb2⟩
                            have HPS := Lib.hid HB.out.2
                            clear HB HEP HEQ HLW HMW hb1 hb2 hg1 hg2 hv1 hv2 hbel
                            go_wp2_with fail
                            go_loopw [6, 17] (fun u z wr => ∃ (n : Nat) (es : List E), n ≤ 9 ∧ z = .int .i64 n ∧ Hid (BI w wr u es ∧ es.Perm (allJ ls i ++ (befJ ls l k ++ (shpJ l m a ++ (rowJ p m b ++ pairJ p q n)))) ∧ SrtE es ∧ Has9 wr b1 x0 y0 z0 x1 y1 z1 x2 y2 z2 ∧ Has9 wr b2 u0 v0' r0 u1 v1 r1 u2 v2 r2)) (fun _ z _ => 9 - (intOf z).toNat)
                            case atStart => exact ⟨0, es, by omega, rfl, Lib.hid ⟨HBW.out, by simpa [pairJ] using HPS.out.1, HPS.out.2, HP9.out.1, HP9.out.2⟩⟩
                            case round =>
                              clear HBW HP9 HPS
                              obtain ⟨n, es, hn, rfl, HR⟩ := hrel
                              obtain ⟨g, cap, rfl⟩ := HR.out.1.form
                              by_cases hn9 : n < 9
                              · obtain ⟨c, d, hc, hd, hnc⟩ : ∃ c d : Nat, c < 3 ∧ d < 3 ∧ n = 3 * c + d := ⟨n / 3, n % 3, by omega, by omega, by omega⟩
                                obtain ⟨ex, ey, ek, hec⟩ : ∃ ex ey ek, (edgesQ p)[c]? = some ⟨ex, ey, ek⟩ := three_at HPE.out hc
                                obtain ⟨fx, fy, fk, hfd⟩ : ∃ ex ey ek, (edgesQ q)[d]? = some ⟨ex, ey, ek⟩ := three_at HQE.out hd
                                have HN9 : Hid (∀ W, Has9 W b1 x0 y0 z0 x1 y1 z1 x2 y2 z2 → W.cell? ⟨b1, c * 3, none⟩ = some (.int .i64 ex) ∧ W.cell? ⟨b1, c * 3 + 1, none⟩ = some (.int .i64 ey) ∧ W.cell? ⟨b1, c * 3 + 2, none⟩ = some (.int .i64 ek)) := Lib.hid (three_cell HPE.out hc hec)
                                have HM9 : Hid (∀ W, Has9 W b2 u0 v0' r0 u1 v1 r1 u2 v2 r2 → W.cell? ⟨b2, d * 3, none⟩ = some (.int .i64 fx) ∧ W.cell? ⟨b2, d * 3 + 1, none⟩ = some (.int .i64 fy) ∧ W.cell? ⟨b2, d * 3 + 2, none⟩ = some (.int .i64 fk)) := Lib.hid (three_cell HQE.out hd hfd)
                                have HPJ : Hid (pairJ p q (n + 1) = pairJ p q n ++ if (⟨ex, ey, ek⟩ : E) = ⟨fx, fy, fk⟩ then [⟨ex, ey, ek⟩] else []) := Lib.hid (by
                                  rw [pairJ_step]; congr 1; unfold cellJ; rw [show n / 3 = c by omega, show n % 3 = d by omega, hec, hfd])
                                have hdiv : ((n : Nat) : Int) / 3 = (c : Int) := by omega
                                have hmod : ((n : Nat) : Int).tmod 3 = (d : Int) := by rw [Int.tmod_eq_emod_of_nonneg (by omega)]; omega
                                have hw1 : IntKind.i64.wrap ((c : Nat) : Int) = (c : Int) := IntWalk.i64_in _ (by omega)
                                have HES := Lib.hid HR.out.2
                                have HBI := Lib.hid HR.out.1
                                have HBD : Hid (∀ j, BI w (wr.drewN j) (.slice (some ⟨g, 0, none⟩) es.length cap) es ∧ Has9 (wr.drewN j) b1 x0 y0 z0 x1 y1 z1 x2 y2 z2 ∧ Has9 (wr.drewN j) b2 u0 v0' r0 u1 v1 r1 u2 v2 r2) := Lib.hid (fun j => ⟨HR.out.1.keep (below_drewN _ wr j), HR.out.2.2.2.1.below (below_drewN _ wr j), HR.out.2.2.2.2.below (below_drewN _ wr j)⟩)
                                obtain ⟨d0, d1, d2⟩ := HN9.out wr HR.out.2.2.2.1
                                obtain ⟨f0, f1, f2⟩ := HM9.out wr HR.out.2.2.2.2
                                have hguard : Tryz.prog.eqGuardType Tryz.prog.depth 72 = false := by kernel_rfl
                                have HNC := Lib.hid hnc
                                clear HR hec hfd hnc
                                by_cases heq0 : (⟨ex, ey, ek⟩ : E) = ⟨fx, fy, fk⟩
                                · simp only [E.mk.injEq] at heq0
                                  obtain ⟨rfl, rfl, rfl⟩ := heq0
                                  have HNX : Hid (pairJ p q (n + 1) = pairJ p q n ++ [⟨ex, ey, ek⟩]) := Lib.hid (by rw [HPJ.out, if_pos rfl])
                                  have heq := equalE_yes ex ey ek
                                  go_wp2_with fail
                                  go_quiet (fail)
                                  clear d0 d1 d2 f0 f1 f2 hguard heq hmod
                                  have HBN := Lib.hid (HBD.out nq)
                                  generalize wr.drewN nq = wn at *
                                  obtain ⟨d0, d1, d2⟩ := HN9.out wn HBN.out.2.1
                                  have hel : es.length ≤ 900 := by
                                    have h1 := HES.out.1.length_eq
                                    have h2 := partJ_length HND.out HVD.out.2 HL.out HM.out hki HP.out HQ.out hn
                                    have h3 := HF.out
                                    omega
                                  have HWI := Lib.hid (with_ref es ex ey ek w.heap.size g cap wn HBN.out.1.own (by omega))
                                  go_wp2_with fail
                                  refine HWI.out.mono ?_
                                  rintro e w5 ⟨j, g', cap', rfl, hj, hlow, hhigh, hown, hB5⟩
                                  have hlen' : (es.take j ++ [(⟨ex, ey, ek⟩ : E)] ++ es.drop j).length = j + 1 + (es.length - j) := by simp; omega
                                  have hnew : BI w w5 (.slice (some ⟨g', 0, none⟩) (j + 1 + (es.length - j)) cap') (es.take j ++ [(⟨ex, ey, ek⟩ : E)] ++ es.drop j) := by
                                    refine ⟨?_, ⟨g', cap', by rw [hlen']⟩, HBN.out.1.below.trans (hB5.mono HBN.out.1.below.size)⟩
                                    have := ownsRow_mono hown HBN.out.1.below.size
                                    unfold OwnEd
                                    rw [hlen', show j + 1 + (es.length - j) = es.length + 1 by omega]
                                    have e9 : (es.take j ++ [(⟨ex, ey, ek⟩ : E)] ++ es.drop j).length = es.length + 1 := by omega
                                    unfold OwnEd at this
                                    rw [e9] at this
                                    exact this
                                  have HN : Hid (BI w w5 (.slice (some ⟨g', 0, none⟩) (j + 1 + (es.length - j)) cap') (es.take j ++ [(⟨ex, ey, ek⟩ : E)] ++ es.drop j) ∧ (es.take j ++ [(⟨ex, ey, ek⟩ : E)] ++ es.drop j).Perm (allJ ls i ++ (befJ ls l k ++ (shpJ l m a ++ (rowJ p m b ++ pairJ p q (n + 1))))) ∧ SrtE (es.take j ++ [(⟨ex, ey, ek⟩ : E)] ++ es.drop j) ∧ Has9 w5 b1 x0 y0 z0 x1 y1 z1 x2 y2 z2 ∧ Has9 w5 b2 u0 v0' r0 u1 v1 r1 u2 v2 r2) := Lib.hid ⟨hnew, by rw [HNX.out]; have := permE_ins (X := (⟨ex, ey, ek⟩ : E)) j HES.out.1; simpa [List.append_assoc] using this, srtE_ins HES.out.2.1 hlow hhigh, HBN.out.2.1.below hB5, HBN.out.2.2.below hB5⟩
                                  clear hnew hlen' hown hB5 hlow hhigh HWI d0 d1 d2
                                  go_wp2_with fail
                                  go_roundw
                                  case rel => exact ⟨n + 1, _, by omega, by go_num, HN⟩
                                  case measure => simp [intOf]; omega
                                · have HNX : Hid (pairJ p q (n + 1) = pairJ p q n) := Lib.hid (by rw [HPJ.out, if_neg heq0, List.append_nil])
                                  have heq := equalE_no heq0
                                  clear heq0
                                  go_wp2_with fail
                                  go_quiet (fail)
                                  clear d0 d1 d2 f0 f1 f2 hguard heq hmod hdiv hw1
                                  go_wp2_with fail
                                  go_roundw
                                  case rel => exact ⟨n + 1, es, by omega, by go_num, Lib.hid ⟨(HBD.out _).1, by rw [HNX.out]; exact HES.out.1, HES.out.2.1, (HBD.out _).2.1, (HBD.out _).2.2⟩⟩
                                  case measure => simp [intOf]; omega
                              · obtain rfl : n = 9 := by omega
                                have HN : Hid (BI w wr (.slice (some ⟨g, 0, none⟩) es.length cap) es ∧ es.Perm (allJ ls i ++ (befJ ls l k ++ (shpJ l m a ++ rowJ p m (b + 1)))) ∧ SrtE es) := Lib.hid ⟨HR.out.1, by rw [rowJ_step HQ.out]; exact HR.out.2.1, HR.out.2.2.1⟩
                                clear HR
                                go_wp2_with fail
                                go_roundw
                                case rel => exact ⟨b + 1, es, by omega, by go_num, HN⟩
                                case measure => simp [intOf]; omega
                        · obtain rfl : b = m.length := by omega
                          have HN : Hid (BI w wr (.slice (some ⟨g, 0, none⟩) es.length cap) es ∧ es.Perm (allJ ls i ++ (befJ ls l k ++ shpJ l m (a + 1))) ∧ SrtE es) := Lib.hid ⟨HR.out.1, by rw [shpJ_step HP.out]; exact HR.out.2.1, HR.out.2.2⟩
                          clear HR
                          go_wp2_with fail
                          clear cm
                          go_roundw
                          case rel => exact ⟨a + 1, es, by omega, by go_num, HN⟩
                          case measure => simp [intOf]; omega
                    · obtain rfl : a = l.length := by omega
                      have HN : Hid (BI w wr (.slice (some ⟨g, 0, none⟩) es.length cap) es ∧ es.Perm (allJ ls i ++ befJ ls l (k + 1)) ∧ SrtE es) := Lib.hid ⟨HR.out.1, by rw [befJ_step HM.out]; exact HR.out.2.1, HR.out.2.2⟩
                      clear HR
                      go_wp2_with fail
                      clear cl
                      go_roundw
                      case rel => exact ⟨k + 1, es, by omega, by go_num, HN⟩
                      case measure => simp [intOf]; omega
                · obtain rfl : k = i := by omega
                  have HN : Hid (BI w wr (.slice (some ⟨g, 0, none⟩) es.length cap) es ∧ es.Perm (allJ ls (k + 1)) ∧ SrtE es) := Lib.hid ⟨HR.out.1, by rw [allJ_step HL.out]; exact HR.out.2.1, HR.out.2.2⟩
                  clear HR
                  go_wp2_with fail
                  go_roundw
                  case rel => exact ⟨k + 1, es, by omega, by go_num, HN⟩
                  case measure => simp [intOf]; omega
            · obtain rfl : i = ls.length := by omega
              go_wp2_with fail
              go_ret2
              exact ⟨_, es, by rw [HG.out]; rfl, own_es HR.out.1.own, fun h => absurd HG.out h, fun _ => ⟨HR.out.2.1.trans (joint_perm HND.out HVD.out.2), HR.out.2.2⟩, HR.out.1.below⟩
end Go.Proofs.YtimnmfjbfbkooaaGreatDoor

/- BrickEdges; printed by mkedges.py. -/
namespace Go.Proofs.YtimnmfjbfbkooaaGreatDoor
set_option linter.all false
set_option linter.unusedSimpArgs false
set_option linter.unusedVariables false
open Go.RowKit
attribute [local go_sem] Oper.semAt_some

theorem sum_len (ls : List (List Q)) : (ls.map List.length).sum = ls.flatten.length := by rw [List.length_flatten]
theorem sum_snoc {ls : List (List Q)} {k : Nat} {l : List Q} (h : ls[k]? = some l) : ((ls.take (k + 1)).map List.length).sum = ((ls.take k).map List.length).sum + l.length := by
  rw [take_snocG h, List.map_append, List.sum_append]; simp
theorem border_same {l : List Q} (hc : checkN l = 0) {a b : List E} (h1 : a.Perm (borderE l)) (h2 : SrtE a) (h3 : b.Perm (bPart l l.length 0)) (h4 : SrtE b) : a = b :=
  srtE_eq h2 h4 (h1.trans ((h3.trans (border_perm (checkN_ok hc).1.2.nodup (checkN_ok hc).1.1)).symm))
theorem joints_same {ls : List (List Q)} {a b : List E} (h1 : jointsCode ls ≠ 0 → a = []) (h2 : jointsCode ls = 0 → a.Perm (jointE ls) ∧ SrtE a) (h3 : jointsCode ls ≠ 0 → b = []) (h4 : jointsCode ls = 0 → b.Perm (jointE ls) ∧ SrtE b) : a = b := by
  by_cases hc : jointsCode ls = 0
  · exact srtE_eq (h2 hc).2 (h4 hc).2 ((h2 hc).1.trans (h4 hc).1.symm)
  · rw [h1 hc, h3 hc]

set_option maxRecDepth 100000 in
set_option maxHeartbeats 16000000 in
theorem BrickEdges_any (l : List Q) (u : Value) (ls : List (List Q)) (v : Value) (w : World) (hu : HasQ w u l) (hv : HasQQ w v ls) (hk : KindsAt w) (hsh : w.ShapedOpen Tryz.prog) :
    Calls Tryz.prog 5 #[u, v] w fun e w' => e = .returned (.bool true) ∧ Below w.heap.size w w' := by
  obtain ⟨p, c, rfl⟩ := hu.slice
  obtain ⟨p', c', rfl⟩ := hv.slice
  have HS := Lib.hid hu; clear hu
  have HL := Lib.hid hv; clear hv
  have HK := Lib.hid hk; clear hk
  have HSH := Lib.hid hsh; clear hsh
  have HB := Lib.hid (Below.refl w.heap.size w)
  go_enter Tryz.func5, Tryz.ntmps5
  have HC := Lib.hid (long_any l _ w HS.out)
  go_wp2_with fail
  refine HC.out.mono ?_
  rintro e x0 ⟨rfl, hb⟩
  clear HC
  replace HS := Lib.hid (HS.out.below hb)
  replace HL := Lib.hid (HL.out.below hb)
  replace HB := Lib.hid (HB.out.trans (hb.mono HB.out.size))
  clear hb
  by_cases hlg : longB l.length = true
  case pos =>
    rw [hlg]
    clear hlg
    have HC := Lib.hid (known_law x0 (HK.out.below HB.out) (shaped_below HSH.out HB.out))
    go_wp2_with fail
    refine HC.out.mono ?_
    rintro e x1 ⟨rfl, hb⟩
    clear HC
    replace HS := Lib.hid (HS.out.below hb)
    replace HL := Lib.hid (HL.out.below hb)
    replace HB := Lib.hid (HB.out.trans (hb.mono HB.out.size))
    clear hb
    go_wp2_with fail
    go_ret
    exact ⟨rfl, HB.out⟩
  have hlf : longB l.length = false := by simpa using hlg
  rw [hlf]
  have hlen : l.length ≤ 410 := by unfold longB at hlf; simp at hlf; omega
  clear hlg hlf
  by_cases h70 : 70 < ls.length
  case pos =>
    have HC := Lib.hid (known_law x0 (HK.out.below HB.out) (shaped_below HSH.out HB.out))
    go_wp2_with fail
    refine HC.out.mono ?_
    rintro e x1 ⟨rfl, hb⟩
    clear HC
    replace HS := Lib.hid (HS.out.below hb)
    replace HL := Lib.hid (HL.out.below hb)
    replace HB := Lib.hid (HB.out.trans (hb.mono HB.out.size))
    clear hb
    go_wp2_with fail
    go_ret
    exact ⟨rfl, HB.out⟩
  have hl70 : ls.length ≤ 70 := by omega
  go_wp2_with fail
  clear h70
  go_loopw [5, 6] (fun u z wr => ∃ k m : Nat, k ≤ ls.length ∧ m ≤ 410 * k ∧ z = .int .i64 k ∧ u = .int .i64 m ∧ Hid (m = ((ls.take k).map List.length).sum ∧ (∀ l' ∈ ls.take k, l'.length ≤ 410) ∧ Below w.heap.size w wr ∧ HasQ wr (.slice p l.length c) l ∧ HasQQ wr (.slice p' ls.length c') ls)) (fun _ z _ => ls.length - (intOf z).toNat)
  case atStart => exact ⟨0, 0, by omega, by omega, rfl, rfl, Lib.hid ⟨by simp, fun l' h => by simp at h, HB.out, HS.out, HL.out⟩⟩
  case round =>
    clear HB HS HL
    obtain ⟨k, m, hk, hm, rfl, rfl, HR⟩ := hrel
    have HSM := Lib.hid HR.out.1
    have HQL := Lib.hid HR.out.2.1
    have HB := Lib.hid HR.out.2.2.1
    have HS := Lib.hid HR.out.2.2.2.1
    have HL := Lib.hid HR.out.2.2.2.2
    clear HR
    by_cases hlt : k < ls.length
    case pos =>
      obtain ⟨lk, hkl⟩ : ∃ l, ls[k]? = some l := ⟨_, List.getElem?_eq_getElem hlt⟩
      obtain ⟨a, x, rfl, a0, hx⟩ := HL.out.at hkl
      have hxl : lk.length ≤ maxLen := by
        rcases hx with ⟨_, h⟩ | ⟨a, c, _, h1, h2, _⟩
        · rw [h]; decide
        · exact Nat.le_trans h1 h2
      simp only [maxLen] at hxl
      obtain ⟨px, cx, rfl⟩ := hx.slice
      have HX := Lib.hid hx
      have HKL := Lib.hid hkl
      have HSN := Lib.hid (sum_snoc hkl)
      clear hx hkl
      have HC := Lib.hid (long_any lk _ wr HX.out)
      go_wp2_with fail
      refine HC.out.mono ?_
      rintro e x30 ⟨rfl, hb⟩
      clear HC
      replace HS := Lib.hid (HS.out.below hb)
      replace HL := Lib.hid (HL.out.below hb)
      replace HB := Lib.hid (HB.out.trans (hb.mono HB.out.size))
      clear a0 HX
      clear hb
      by_cases hlg : longB lk.length = true
      case pos =>
        rw [hlg]
        clear hlg
        have HC := Lib.hid (known_law x30 (HK.out.below HB.out) (shaped_below HSH.out HB.out))
        go_wp2_with fail
        refine HC.out.mono ?_
        rintro e x31 ⟨rfl, hb⟩
        clear HC
        replace HS := Lib.hid (HS.out.below hb)
        replace HL := Lib.hid (HL.out.below hb)
        replace HB := Lib.hid (HB.out.trans (hb.mono HB.out.size))
        clear hb
        go_wp2_with fail
        go_ret
        exact ⟨rfl, HB.out⟩
      have hlf : longB lk.length = false := by simpa using hlg
      rw [hlf]
      have hlk : lk.length ≤ 410 := by unfold longB at hlf; simp at hlf; omega
      clear hlg hlf
      have HN : Hid (m + lk.length = ((ls.take (k + 1)).map List.length).sum ∧ ∀ l' ∈ ls.take (k + 1), l'.length ≤ 410) := Lib.hid ⟨by rw [HSN.out, HSM.out], mem_snoc_take HKL.out HQL.out hlk⟩
      go_wp2_with fail
      go_roundw
      case rel => exact ⟨k + 1, m + lk.length, by omega, by omega, by go_num, by (first | go_num | (rw [show wrap64 ((m : Int) + (lk.length : Int)) = (m : Int) + (lk.length : Int) by unfold wrap64; omega]; simp)), Lib.hid ⟨HN.out.1, HN.out.2, HB.out, HS.out, HL.out⟩⟩
      case measure => simp [intOf]; omega
    case neg =>
      obtain rfl : k = ls.length := by omega
      have HFL : Hid (m = ls.flatten.length ∧ ∀ l' ∈ ls, l'.length ≤ 410) := Lib.hid (by have h1 := HSM.out; have h2 := HQL.out; rw [List.take_length] at h1 h2; exact ⟨h1.trans (sum_len ls), h2⟩)
      clear HSM HQL hk hlt
      have HC := Lib.hid (all_law ls _ wr HL.out (by omega) HFL.out.2)
      go_wp2_with fail
      refine HC.out.mono ?_
      rintro e x50 ⟨u1, vs1, rfl, hu1, hb⟩
      clear HC
      replace HS := Lib.hid (HS.out.below hb)
      replace HL := Lib.hid (HL.out.below hb)
      replace HB := Lib.hid (HB.out.trans (hb.mono HB.out.size))
      obtain ⟨p1, c1, rfl⟩ := hu1.has.slice
      have HIN := Lib.hid (hu1.has)
      clear hb
      clear hu1
      have HC := Lib.hid (own_law l _ x50 HS.out (by omega))
      go_wp2_with fail
      refine HC.out.mono ?_
      rintro e x51 ⟨u2, rfl, hu2, hb⟩
      clear HC
      replace HS := Lib.hid (HS.out.below hb)
      replace HL := Lib.hid (HL.out.below hb)
      replace HIN := Lib.hid (HIN.out.below hb)
      replace HB := Lib.hid (HB.out.trans (hb.mono HB.out.size))
      obtain ⟨p2, c2, rfl⟩ := own_slice hu2
      have HU := Lib.hid (hu2.has)
      clear hb
      clear hu2
      have HC := Lib.hid (Border_any l _ x51 HU.out)
      go_wp2_with fail
      refine HC.out.mono ?_
      rintro e x52 ⟨u3, eb, rfl, hu3, hb0, hbs, hb⟩
      clear HC
      clear HU
      replace HS := Lib.hid (HS.out.below hb)
      replace HL := Lib.hid (HL.out.below hb)
      replace HIN := Lib.hid (HIN.out.below hb)
      replace HB := Lib.hid (HB.out.trans (hb.mono HB.out.size))
      obtain ⟨p3, c3, rfl⟩ := hu3.slice
      have HBF := Lib.hid (And.intro hb0 hbs)
      clear hb0 hbs
      have HEB := Lib.hid (hu3)
      clear hb
      clear hu3
      have HC := Lib.hid (Joints_any ls _ x52 HIN.out (by omega))
      go_wp2_with fail
      refine HC.out.mono ?_
      rintro e x53 ⟨u4, ej, rfl, hu4, hj0, hjs, hb⟩
      clear HC
      replace HS := Lib.hid (HS.out.below hb)
      replace HL := Lib.hid (HL.out.below hb)
      replace HIN := Lib.hid (HIN.out.below hb)
      replace HEB := Lib.hid (HEB.out.below hb)
      replace HB := Lib.hid (HB.out.trans (hb.mono HB.out.size))
      obtain ⟨p4, c4, rfl⟩ := hu4.slice
      have HJF := Lib.hid (And.intro hj0 hjs)
      clear hj0 hjs
      have HEJ := Lib.hid (hu4)
      clear hb
      clear hu4
      have HC := Lib.hid (same_law ls ls _ _ x53 HIN.out HL.out)
      go_wp2_with fail
      refine HC.out.mono ?_
      rintro e x54 ⟨rfl, hb⟩
      clear HC
      clear HIN
      replace HS := Lib.hid (HS.out.below hb)
      replace HL := Lib.hid (HL.out.below hb)
      replace HEB := Lib.hid (HEB.out.below hb)
      replace HEJ := Lib.hid (HEJ.out.below hb)
      replace HB := Lib.hid (HB.out.trans (hb.mono HB.out.size))
      clear hb
      simp only [decide_true]
      have HC := Lib.hid (checkr_any l _ x54 HS.out)
      go_wp2_with fail
      refine HC.out.mono ?_
      rintro e x55 ⟨rfl, hb⟩
      clear HC
      replace HS := Lib.hid (HS.out.below hb)
      replace HL := Lib.hid (HL.out.below hb)
      replace HEB := Lib.hid (HEB.out.below hb)
      replace HEJ := Lib.hid (HEJ.out.below hb)
      replace HB := Lib.hid (HB.out.trans (hb.mono HB.out.size))
      clear hb
      by_cases hc : checkN l = 0
      case neg =>
        have hb1 : ((checkN l : Int) != 0) = true := by simpa using hc
        have hb2 : ((checkN l : Int) == 0) = false := by simpa using hc
        obtain rfl : eb = [] := HBF.out.1 hc
        simp only [List.length_nil] at HEB ⊢
        clear HEB HBF hc
        by_cases h3 : 300 < m
        case pos =>
          by_cases h6 : ls.length ≤ 60
          case pos =>
            have HC := Lib.hid (known_law x55 (HK.out.below HB.out) (shaped_below HSH.out HB.out))
            go_wp2_with fail
            refine HC.out.mono ?_
            rintro e x70 ⟨rfl, hb⟩
            clear HC
            replace HS := Lib.hid (HS.out.below hb)
            replace HL := Lib.hid (HL.out.below hb)
            replace HEJ := Lib.hid (HEJ.out.below hb)
            replace HB := Lib.hid (HB.out.trans (hb.mono HB.out.size))
            clear hb
            go_wp2_with fail
            go_ret
            exact ⟨rfl, HB.out⟩
          case neg =>
            have HFX : Hid (ls.length ≤ 60 → ls.flatten.length ≤ 300) := Lib.hid (fun h => by have := HFL.out.1; omega)
            have HC := Lib.hid (joints_ref ls HFX.out (by omega) _ x55 HL.out)
            go_wp2_with fail
            refine HC.out.mono ?_
            rintro e x80 ⟨u6, ex, rfl, hu6, hx0, hxs, hb⟩
            clear HC
            replace HS := Lib.hid (HS.out.below hb)
            replace HL := Lib.hid (HL.out.below hb)
            replace HEJ := Lib.hid (HEJ.out.below hb)
            replace HB := Lib.hid (HB.out.trans (hb.mono HB.out.size))
            obtain ⟨p6, c6, rfl⟩ := hu6.slice
            have HJE := Lib.hid (joints_same HJF.out.1 HJF.out.2 hx0 hxs)
            clear hx0 hxs
            have HEX := Lib.hid (hu6)
            clear hb
            clear hu6
            have HC := Lib.hid (edges_law ej ex _ _ x80 HEJ.out HEX.out)
            go_wp2_with fail
            refine HC.out.mono ?_
            rintro e x81 ⟨rfl, hb⟩
            clear HC
            clear HEX
            clear HEJ
            replace HS := Lib.hid (HS.out.below hb)
            replace HL := Lib.hid (HL.out.below hb)
            replace HB := Lib.hid (HB.out.trans (hb.mono HB.out.size))
            rw [decide_eq_true HJE.out]
            clear hb
            have HC := Lib.hid (known_law x81 (HK.out.below HB.out) (shaped_below HSH.out HB.out))
            go_wp2_with fail
            refine HC.out.mono ?_
            rintro e x82 ⟨rfl, hb⟩
            clear HC
            replace HS := Lib.hid (HS.out.below hb)
            replace HL := Lib.hid (HL.out.below hb)
            replace HB := Lib.hid (HB.out.trans (hb.mono HB.out.size))
            clear hb
            go_wp2_with fail
            go_ret
            exact ⟨rfl, HB.out⟩
        case neg =>
          have HFX : Hid (ls.length ≤ 60 → ls.flatten.length ≤ 300) := Lib.hid (fun h => by have := HFL.out.1; omega)
          have HC := Lib.hid (joints_ref ls HFX.out (by omega) _ x55 HL.out)
          go_wp2_with fail
          refine HC.out.mono ?_
          rintro e x90 ⟨u6, ex, rfl, hu6, hx0, hxs, hb⟩
          clear HC
          replace HS := Lib.hid (HS.out.below hb)
          replace HL := Lib.hid (HL.out.below hb)
          replace HEJ := Lib.hid (HEJ.out.below hb)
          replace HB := Lib.hid (HB.out.trans (hb.mono HB.out.size))
          obtain ⟨p6, c6, rfl⟩ := hu6.slice
          have HJE := Lib.hid (joints_same HJF.out.1 HJF.out.2 hx0 hxs)
          clear hx0 hxs
          have HEX := Lib.hid (hu6)
          clear hb
          clear hu6
          have HC := Lib.hid (edges_law ej ex _ _ x90 HEJ.out HEX.out)
          go_wp2_with fail
          refine HC.out.mono ?_
          rintro e x91 ⟨rfl, hb⟩
          clear HC
          clear HEX
          clear HEJ
          replace HS := Lib.hid (HS.out.below hb)
          replace HL := Lib.hid (HL.out.below hb)
          replace HB := Lib.hid (HB.out.trans (hb.mono HB.out.size))
          rw [decide_eq_true HJE.out]
          clear hb
          have HC := Lib.hid (known_law x91 (HK.out.below HB.out) (shaped_below HSH.out HB.out))
          go_wp2_with fail
          refine HC.out.mono ?_
          rintro e x92 ⟨rfl, hb⟩
          clear HC
          replace HS := Lib.hid (HS.out.below hb)
          replace HL := Lib.hid (HL.out.below hb)
          replace HB := Lib.hid (HB.out.trans (hb.mono HB.out.size))
          clear hb
          go_wp2_with fail
          go_ret
          exact ⟨rfl, HB.out⟩
      case pos =>
        have HCL := Lib.hid hc
        rw [hc] at HBF ⊢
        clear hc
        have HC := Lib.hid (border_ref l HCL.out _ x55 HS.out)
        go_wp2_with fail
        refine HC.out.mono ?_
        rintro e x110 ⟨u5, er, rfl, hu5, hpr, hsr, hb⟩
        clear HC
        replace HS := Lib.hid (HS.out.below hb)
        replace HL := Lib.hid (HL.out.below hb)
        replace HEB := Lib.hid (HEB.out.below hb)
        replace HEJ := Lib.hid (HEJ.out.below hb)
        replace HB := Lib.hid (HB.out.trans (hb.mono HB.out.size))
        obtain ⟨p5, c5, rfl⟩ := hu5.slice
        have HEE := Lib.hid (border_same HCL.out (HBF.out.2 (by simp)).1 (HBF.out.2 (by simp)).2 hpr hsr)
        clear hpr hsr
        have HER := Lib.hid (hu5)
        clear hb
        clear hu5
        have HC := Lib.hid (edges_law eb er _ _ x110 HEB.out HER.out)
        go_wp2_with fail
        refine HC.out.mono ?_
        rintro e x111 ⟨rfl, hb⟩
        clear HC
        clear HEB
        clear HER
        replace HS := Lib.hid (HS.out.below hb)
        replace HL := Lib.hid (HL.out.below hb)
        replace HEJ := Lib.hid (HEJ.out.below hb)
        replace HB := Lib.hid (HB.out.trans (hb.mono HB.out.size))
        rw [decide_eq_true HEE.out]
        clear hb
        by_cases h3 : 300 < m
        case pos =>
          by_cases h6 : ls.length ≤ 60
          case pos =>
            have HC := Lib.hid (known_law x111 (HK.out.below HB.out) (shaped_below HSH.out HB.out))
            go_wp2_with fail
            refine HC.out.mono ?_
            rintro e x130 ⟨rfl, hb⟩
            clear HC
            replace HS := Lib.hid (HS.out.below hb)
            replace HL := Lib.hid (HL.out.below hb)
            replace HEJ := Lib.hid (HEJ.out.below hb)
            replace HB := Lib.hid (HB.out.trans (hb.mono HB.out.size))
            clear hb
            go_wp2_with fail
            go_ret
            exact ⟨rfl, HB.out⟩
          case neg =>
            have HFX : Hid (ls.length ≤ 60 → ls.flatten.length ≤ 300) := Lib.hid (fun h => by have := HFL.out.1; omega)
            have HC := Lib.hid (joints_ref ls HFX.out (by omega) _ x111 HL.out)
            go_wp2_with fail
            refine HC.out.mono ?_
            rintro e x140 ⟨u6, ex, rfl, hu6, hx0, hxs, hb⟩
            clear HC
            replace HS := Lib.hid (HS.out.below hb)
            replace HL := Lib.hid (HL.out.below hb)
            replace HEJ := Lib.hid (HEJ.out.below hb)
            replace HB := Lib.hid (HB.out.trans (hb.mono HB.out.size))
            obtain ⟨p6, c6, rfl⟩ := hu6.slice
            have HJE := Lib.hid (joints_same HJF.out.1 HJF.out.2 hx0 hxs)
            clear hx0 hxs
            have HEX := Lib.hid (hu6)
            clear hb
            clear hu6
            have HC := Lib.hid (edges_law ej ex _ _ x140 HEJ.out HEX.out)
            go_wp2_with fail
            refine HC.out.mono ?_
            rintro e x141 ⟨rfl, hb⟩
            clear HC
            clear HEX
            clear HEJ
            replace HS := Lib.hid (HS.out.below hb)
            replace HL := Lib.hid (HL.out.below hb)
            replace HB := Lib.hid (HB.out.trans (hb.mono HB.out.size))
            rw [decide_eq_true HJE.out]
            clear hb
            have HC := Lib.hid (known_law x141 (HK.out.below HB.out) (shaped_below HSH.out HB.out))
            go_wp2_with fail
            refine HC.out.mono ?_
            rintro e x142 ⟨rfl, hb⟩
            clear HC
            replace HS := Lib.hid (HS.out.below hb)
            replace HL := Lib.hid (HL.out.below hb)
            replace HB := Lib.hid (HB.out.trans (hb.mono HB.out.size))
            clear hb
            go_wp2_with fail
            go_ret
            exact ⟨rfl, HB.out⟩
        case neg =>
          have HFX : Hid (ls.length ≤ 60 → ls.flatten.length ≤ 300) := Lib.hid (fun h => by have := HFL.out.1; omega)
          have HC := Lib.hid (joints_ref ls HFX.out (by omega) _ x111 HL.out)
          go_wp2_with fail
          refine HC.out.mono ?_
          rintro e x150 ⟨u6, ex, rfl, hu6, hx0, hxs, hb⟩
          clear HC
          replace HS := Lib.hid (HS.out.below hb)
          replace HL := Lib.hid (HL.out.below hb)
          replace HEJ := Lib.hid (HEJ.out.below hb)
          replace HB := Lib.hid (HB.out.trans (hb.mono HB.out.size))
          obtain ⟨p6, c6, rfl⟩ := hu6.slice
          have HJE := Lib.hid (joints_same HJF.out.1 HJF.out.2 hx0 hxs)
          clear hx0 hxs
          have HEX := Lib.hid (hu6)
          clear hb
          clear hu6
          have HC := Lib.hid (edges_law ej ex _ _ x150 HEJ.out HEX.out)
          go_wp2_with fail
          refine HC.out.mono ?_
          rintro e x151 ⟨rfl, hb⟩
          clear HC
          clear HEX
          clear HEJ
          replace HS := Lib.hid (HS.out.below hb)
          replace HL := Lib.hid (HL.out.below hb)
          replace HB := Lib.hid (HB.out.trans (hb.mono HB.out.size))
          rw [decide_eq_true HJE.out]
          clear hb
          have HC := Lib.hid (known_law x151 (HK.out.below HB.out) (shaped_below HSH.out HB.out))
          go_wp2_with fail
          refine HC.out.mono ?_
          rintro e x152 ⟨rfl, hb⟩
          clear HC
          replace HS := Lib.hid (HS.out.below hb)
          replace HL := Lib.hid (HL.out.below hb)
          replace HB := Lib.hid (HB.out.trans (hb.mono HB.out.size))
          clear hb
          go_wp2_with fail
          go_ret
          exact ⟨rfl, HB.out⟩
end Go.Proofs.YtimnmfjbfbkooaaGreatDoor

/- BrickEdges: WHATEVER THE INPUT: the edges around any shape, and those between any shapes, or the errors, are what the document says; the shapes stay as they are: the tied card. -/
namespace Go.Proofs.YtimnmfjbfbkooaaGreatDoor
set_option linter.all false
set_option linter.unusedSimpArgs false
set_option linter.unusedVariables false
open Go.RowKit Go.ChangeShapes Go.WideShapes Go.Deep

set_option maxRecDepth 100000 in
theorem brickEdges_lifted (os : Os) (started : os.Started) (H : Type) (enc : TypeId × Value → H) :
    ReturnsInHanded {} Tryz.checked os 5 .any (fun w args => (Rows.brickEdgesSpec.pre enc Tryz.prog Tryz.f5 [] false w args ∧ laidMetH Tryz.prog laid3 w) ∧ sizedMet enc Tryz.prog Tryz.f5 (OpenSpec.ofChange Rows.brickEdgesSpec) false w args)
      (Rows.brickEdgesSpec.post enc Tryz.prog Tryz.f5 false true false false) := by
  refine ret_shaped (C := Tryz.checked) (X := fun w _ => laidMetH Tryz.prog laid3 w) (fun _ _ _ hh h => h.of_heap hh) ownKnobs started (by kernel_rfl) Tryz.func5
    (ChangeSpec.witness_at (enc := enc) (C := Tryz.checked) (os := os) (X := fun w _ => laidMetH Tryz.prog laid3 w) false (laidWorld os) #[.slice none 0 0, .slice none 0 0] 8 rfl (by kernel_rfl) (by kernel_rfl) (by kernel_rfl) (by kernel_rfl) (by kernel_rfl) (laidWorld_met os _)) ?_
  intro W base args ds gs before hval0 hW _ hL hsh
  have hval : ∀ (j : Nat) t v, Tryz.f5.params[j]? = some t → args[j]? = some v → Value.okWide Tryz.prog W .any base t v := hval0
  have hW' := hW
  obtain ⟨p, q, hA0, hV, rfl, hfz, hnd⟩ := hW
  have hA : DataW.TrodAll enc Tryz.prog W 0 (fun _ => true) true Tryz.f5.params.toList args.toList ds p := hA0
  rw [Tryz.params5] at hA hval
  obtain ⟨v0, v1, d0, d1, p0, p1, rfl, rfl, rfl, h0, h1⟩ := trodAll_two hA
  obtain ⟨rfl, rfl⟩ := trodVars_none hV
  have hlt : ∀ x ∈ p0 ++ p1, x.block < W.heap.size := fun x hx => hW'.lt x (by simpa using hx)
  obtain ⟨l0, hq0⟩ := arg_quarters (hval 0 22 v0 rfl rfl) h0
  obtain ⟨l1, hq1⟩ := arg_shapes (hval 1 43 v1 rfl rfl) h1
  refine (BrickEdges_any l0 v0 l1 v1 W hq0 hq1 (kinds_of_row hL) hsh).mono ?_
  rintro e W' ⟨rfl, hB⟩
  have e1 : Rows.brickEdgesSpec.fn H ([d0, d1] ++ []) = { results := [.lit (.bool true)], args := [d0, d1] } := rfl
  refine ⟨_, rfl, _, _, _, [], p0 ++ p1, [], hW', ?_, ?_, ?_, hB.frame _, fun h => by cases h⟩
  · rw [e1]; exact trodAll_mk1 (shut_bool Tryz.underlying4 true)
  · rw [e1]; exact trodAll_mk2 (Below.trod laidOuts (by kernel_rfl) (of_decide_eq_true (by kernel_rfl)) h0 hB (fun x hx => hlt x (by simp [hx]))) (Below.trod laidOuts (by kernel_rfl) (of_decide_eq_true (by kernel_rfl)) h1 hB (fun x hx => hlt x (by simp [hx])))
  · rw [e1]; rfl

theorem brickEdges_holds : Rows.BrickEdgesSaid :=
  OpenClaim.holds_of_wide 5 Tryz.f5 rfl rfl rfl rfl rfl rfl rfl ⟨rfl, rfl, rfl, rfl, rfl⟩ rfl rfl rfl rfl rfl (by kernel_rfl) Tryz.func5 (by kernel_rfl)
    (of_decide_eq_true (by kernel_rfl)) (by unfold Func.isWrapper; rw [if_neg (of_decide_eq_false (by kernel_rfl))]; exact ⟨rfl, rfl⟩)
    (fun os started H enc _ => brickEdges_lifted os started H enc)
theorem brickEdges_card : Rows.BrickEdgesCardSaid :=
  Claim7.holds_tied_plain_at .later [] [.data, .data, .pinned] true Rows.brickEdgesCard.stood.harness false
    brickEdges_holds (fun _ h => by cases h) (by kernel_rfl) (fun _ h => by cases h) brickEdges_row_tie rfl ⟨rfl, rfl⟩ (by kernel_rfl) rfl
    (fun f fn hf hfn => by
      obtain rfl : f = 5 := Option.some.inj ((show Tryz.prog.funcNamed "chiti/chitilaw05.BrickEdges" = some 5 by kernel_rfl).symm.trans hf) |>.symm
      obtain rfl : fn = Tryz.f5 := (Option.some.inj (Tryz.func5.symm.trans hfn)).symm
      exact ⟨by kernel_rfl, fun j t ht => by
        rw [Tryz.params5] at ht
        have hm : t ∈ [22, 43] := by simpa using Array.mem_of_getElem? ht
        have hall : ([22, 43].all fun u => !Tryz.prog.wantsStandIn u) = true := by kernel_rfl
        exact (show Tryz.prog.wantsStandIn t = false by simpa using List.all_eq_true.1 hall t hm)⟩)
    (by kernel_rfl)
end Go.Proofs.YtimnmfjbfbkooaaGreatDoor
