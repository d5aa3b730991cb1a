/- BrickBorders: WHATEVER THE INPUT: the borders of shapes that have no quarter in common have together as many edges as that of all quarters, and twice as many as there are joints; the pieces of a shape have no joints: the tied card. -/
import Derived.Test.YtimnmfjbfbkooaaGreatDoorZzBrickBorders0
import Derived.Test.YtimnmfjbfbkooaaGreatDoorJo
import Derived.Test.YtimnmfjbfbkooaaGreatDoorKw
import Derived.SevenTiedAt
import Derived.Test.YtimnmfjbfbkooaaGreatDoorCards
import Derived.Test.YtimnmfjbfbkooaaGreatDoorTie

/- The law's edges and same. -/
namespace Go.Proofs.YtimnmfjbfbkooaaGreatDoor
set_option linter.all false
set_option linter.unusedSimpArgs false
set_option linter.unusedVariables false
open Go.RowKit
attribute [local go_sem] Oper.semAt_some

theorem equalIn_E (x y s x' y' s' : Int) (W : World) : (Op.equalIn 10000 72 (.agg #[.int .i64 x, .int .i64 y, .int .i64 s]) (.agg #[.int .i64 x', .int .i64 y', .int .i64 s'])).run Tryz.prog W = .ok (decide ((⟨x, y, s⟩ : E) = ⟨x', y', s'⟩)) W := by
  have hf : Tryz.prog.fieldsOf 72 = _ := rfl
  rw [run_equalIn_agg W 9999 72 _ _ (by kernel_rfl) (by kernel_rfl)]
  have e : decide ((⟨x, y, s⟩ : E) = ⟨x', y', s'⟩) = (x == x' && (y == y' && s == s')) := by
    rw [Bool.eq_iff_iff]; simp
  rw [e]
  by_cases h1 : x = x' <;> by_cases h2 : y = y' <;> by_cases h3 : s = s' <;> simp [go_sem, h1, h2, h3]
set_option maxRecDepth 100000 in
set_option maxHeartbeats 2000000 in
theorem edges_law (l m : List E) (u v : Value) (w : World) (hu : HasEs w u l) (hv : HasEs w v m) :
    Calls Tryz.prog 27 #[u, v] w fun e w' => e = .returned (.bool (decide (l = m))) ∧ Below w.heap.size w w' := by
  obtain ⟨up, uc, rfl⟩ := hu.slice
  obtain ⟨vp, vc, rfl⟩ := hv.slice
  have HU := Lib.hid hu; clear hu
  have HV := Lib.hid hv; clear hv
  have hlm : l.length ≤ maxLen := by
    rcases HU.out with ⟨_, h⟩ | ⟨a, c, _, h1, h2, _⟩
    · rw [h]; decide
    · exact Nat.le_trans h1 h2
  simp only [maxLen] at hlm
  by_cases hlen : l.length = m.length
  case neg =>
    have hne : decide (l = m) = false := decide_eq_false (fun e => hlen (by rw [e]))
    have HNE := Lib.hid hne; clear hne
    have hb : ((l.length : Int) != (m.length : Int)) = true := by simpa using (fun e => hlen (by omega))
    go_enter Tryz.func27, Tryz.ntmps27
    go_wp2_with fail
    go_ret
    exact ⟨by rw [HNE.out]; rfl, Below.refl _ _⟩
  have hb : ((l.length : Int) != (m.length : Int)) = false := by simp [hlen]
  have HLEN := Lib.hid hlen; clear hlen
  go_enter Tryz.func27, Tryz.ntmps27
  go_wp2_with fail
  go_loopw [5] (fun z wr => ∃ k : Nat, k ≤ l.length ∧ z = .int .i64 k ∧ Hid (l.take k = m.take k ∧ Below w.heap.size w wr)) (fun z _ => l.length - (intOf z).toNat)
  case atStart => exact ⟨0, by omega, rfl, Lib.hid ⟨rfl, Below.refl _ _⟩⟩
  case round =>
    obtain ⟨k, hk, rfl, HR⟩ := hrel
    by_cases hlt : k < l.length
    · obtain ⟨⟨x, y, s⟩, ha⟩ : ∃ a, l[k]? = some a := ⟨_, List.getElem?_eq_getElem hlt⟩
      have hltm : k < m.length := by have := HLEN.out; omega
      obtain ⟨⟨x', y', s'⟩, hb'⟩ : ∃ a, m[k]? = some a := ⟨_, List.getElem?_eq_getElem hltm⟩
      obtain ⟨a, rfl, hqa⟩ : ∃ a, up = some a ∧ EsAt w a l := by
        rcases HU.out with ⟨_, h⟩ | ⟨a, c, h1, _, _, h2⟩
        · rw [h] at hlt; cases hlt
        · simp only [Value.slice.injEq] at h1; exact ⟨a, h1.1, h2⟩
      obtain ⟨b, rfl, hqb⟩ : ∃ a, vp = some a ∧ EsAt w a m := by
        rcases HV.out with ⟨_, h⟩ | ⟨a, c, h1, _, _, h2⟩
        · rw [h] at hltm; cases hltm
        · simp only [Value.slice.injEq] at h1; exact ⟨a, h1.1, h2⟩
      have hqa' := hqa.below HR.out.2
      have hqb' := hqb.below HR.out.2
      have a0 := hqa'.at0 k _ ha
      have a1 := hqa'.at1 k _ ha
      have a2 := hqa'.at2 k _ ha
      have b0 := hqb'.at0 k _ hb'
      have b1 := hqb'.at1 k _ hb'
      have b2 := hqb'.at2 k _ hb'
      have HS := Lib.hid (take_eq_step ha hb' HR.out.1)
      clear hqa hqb hqa' hqb' ha hb'
      have hguard : Tryz.prog.eqGuardType Tryz.prog.depth 72 = false := by kernel_rfl
      have heq : ∀ W : World, (Op.equalIn 10000 72 (.agg #[.int .i64 x, .int .i64 y, .int .i64 s]) (.agg #[.int .i64 x', .int .i64 y', .int .i64 s'])).run Tryz.prog W = .ok (decide ((⟨x, y, s⟩ : E) = ⟨x', y', s'⟩)) W := fun W => equalIn_E x y s x' y' s' W
      go_wp2
      go_quiet (fail)
      by_cases hq : (⟨x, y, s⟩ : E) = ⟨x', y', s'⟩
      · have hv : (!decide (x = x') || (!decide (y = y') || !decide (s = s'))) = false := by
          simp only [E.mk.injEq] at hq
          simp [hq.1, hq.2.1, hq.2.2]
        have HN : Hid (l.take (k + 1) = m.take (k + 1)) := Lib.hid (HS.out.2 hq)
        rw [hv]
        have HB := Lib.hid (HR.out.2.trans (below_drewN _ wr nq))
        clear hq hv heq a0 a1 a2 b0 b1 b2
        go_wp2_with fail
        go_roundw
        case rel => exact ⟨k + 1, by omega, by go_num, Lib.hid ⟨HN.out, HB.out⟩⟩
        case measure => simp [intOf]; omega
      · have hv : (!decide (x = x') || (!decide (y = y') || !decide (s = s'))) = true := by
          simp only [E.mk.injEq] at hq
          by_cases h1 : x = x' <;> by_cases h2 : y = y' <;> by_cases h3 : s = s' <;> simp_all
        have HN : Hid (decide (l = m) = false) := Lib.hid (decide_eq_false (fun e => hq (HS.out.1 (by rw [e]))))
        rw [hv]
        have HB := Lib.hid (HR.out.2.trans (below_drewN _ wr nq))
        clear hq hv heq a0 a1 a2 b0 b1 b2
        go_wp2_with fail
        go_ret
        exact ⟨by rw [HN.out]; rfl, HB.out⟩
    · obtain rfl : k = l.length := by omega
      have hfin : l = m := by
        have h1 := HR.out.1
        rw [List.take_length, HLEN.out, List.take_length] at h1; exact h1
      have HF : Hid (decide (l = m) = true) := Lib.hid (decide_eq_true hfin)
      clear hfin
      go_wp2_with fail
      go_ret
      exact ⟨by rw [HF.out]; rfl, HR.out.2⟩

/-! ### same -/
theorem HasQQ.at {W : World} {p : Option Addr} {n c : Nat} {ls : List (List Q)} (h : HasQQ W (.slice p n c) ls) {k : Nat} {l : List Q} (hk : ls[k]? = some l) :
    ∃ a x, p = some a ∧ W.cell? (a.add k) = some x ∧ HasQ W x l := by
  rcases h with ⟨_, h⟩ | ⟨a, c, vs, h1, _, _, h4, h5, h6⟩
  · rw [h] at hk; simp at hk
  · simp only [Value.slice.injEq] at h1
    obtain ⟨x, hx⟩ : ∃ u, vs[k]? = some u := ⟨_, List.getElem?_eq_getElem (by rw [h5]; exact (List.getElem?_eq_some_iff.1 hk).1)⟩
    exact ⟨a, x, h1.1, h4.at_ k x hx, h6 k x l hx hk⟩
set_option maxRecDepth 100000 in
set_option maxHeartbeats 2000000 in
theorem same_law (l m : List (List Q)) (u v : Value) (w : World) (hu : HasQQ w u l) (hv : HasQQ w v m) :
    Calls Tryz.prog 26 #[u, v] w fun e w' => e = .returned (.bool (decide (l = m))) ∧ Below w.heap.size w w' := by
  obtain ⟨up, uc, rfl⟩ := hu.slice
  obtain ⟨vp, vc, rfl⟩ := hv.slice
  have HU := Lib.hid hu; clear hu
  have HV := Lib.hid hv; clear hv
  have hlm : l.length ≤ maxLen := by
    rcases HU.out with ⟨_, h⟩ | ⟨a, c, vs, _, h1, h2, _⟩
    · rw [h]; decide
    · exact Nat.le_trans h1 h2
  simp only [maxLen] at hlm
  by_cases hlen : l.length = m.length
  case neg =>
    have hne : decide (l = m) = false := decide_eq_false (fun e => hlen (by rw [e]))
    have HNE := Lib.hid hne; clear hne
    have hb : ((l.length : Int) != (m.length : Int)) = true := by simpa using (fun e => hlen (by omega))
    go_enter Tryz.func26, Tryz.ntmps26
    go_wp2_with fail
    go_ret
    exact ⟨by rw [HNE.out]; rfl, Below.refl _ _⟩
  have hb : ((l.length : Int) != (m.length : Int)) = false := by simp [hlen]
  have HLEN := Lib.hid hlen; clear hlen
  go_enter Tryz.func26, Tryz.ntmps26
  go_wp2_with fail
  go_loopw [5] (fun z wr => ∃ k : Nat, k ≤ l.length ∧ z = .int .i64 k ∧ Hid (l.take k = m.take k ∧ Below w.heap.size w wr)) (fun z _ => l.length - (intOf z).toNat)
  case atStart => exact ⟨0, by omega, rfl, Lib.hid ⟨rfl, Below.refl _ _⟩⟩
  case round =>
    obtain ⟨k, hk, rfl, HR⟩ := hrel
    by_cases hlt : k < l.length
    · obtain ⟨la, ha⟩ : ∃ a, l[k]? = some a := ⟨_, List.getElem?_eq_getElem hlt⟩
      have hltm : k < m.length := by have := HLEN.out; omega
      obtain ⟨lb, hb'⟩ : ∃ a, m[k]? = some a := ⟨_, List.getElem?_eq_getElem hltm⟩
      obtain ⟨a, x, rfl, a0, hx⟩ := (HU.out.below HR.out.2).at ha
      obtain ⟨b, y, rfl, b0, hy⟩ := (HV.out.below HR.out.2).at hb'
      obtain ⟨px, cx, rfl⟩ := hx.slice
      obtain ⟨py, cy, rfl⟩ := hy.slice
      have HS := Lib.hid (take_eq_step ha hb' HR.out.1)
      have HX := Lib.hid hx
      have HY := Lib.hid hy
      clear hx hy ha hb'
      go_wp2_with fail
      refine wp_region_qd 8 (by kernel_rfl) (by kernel_rfl) ?_
      simp only [List.take_succ_cons, List.take_zero, List.drop_succ_cons, List.drop_zero]
      repeat (go_big_quiet_step (fail))
      refine wpQuiet_nil ?_
      intro nq
      go_wp2_with fail
      refine (equal_ref la lb _ _ _ (HX.out.below (below_drewN _ wr nq)) (HY.out.below (below_drewN _ wr nq))).mono ?_
      rintro e w2 ⟨rfl, hB2⟩
      have HB := Lib.hid (HR.out.2.trans (((below_drewN _ wr nq).trans hB2).mono HR.out.2.size))
      clear hB2 a0 b0 HX HY
      by_cases hq : la = lb
      · have HN : Hid (l.take (k + 1) = m.take (k + 1)) := Lib.hid (HS.out.2 hq)
        rw [decide_eq_true hq]
        clear hq
        go_wp2_with fail
        go_roundw
        case rel => exact ⟨k + 1, by omega, by go_num, Lib.hid ⟨HN.out, HB.out⟩⟩
        case measure => simp [intOf]; omega
      · have HN : Hid (decide (l = m) = false) := Lib.hid (decide_eq_false (fun e => hq (HS.out.1 (by rw [e]))))
        rw [decide_eq_false hq]
        clear hq
        go_wp2_with fail
        go_ret
        exact ⟨by rw [HN.out]; rfl, HB.out⟩
    · obtain rfl : k = l.length := by omega
      have hfin : l = m := by
        have h1 := HR.out.1
        rw [List.take_length, HLEN.out, List.take_length] at h1; exact h1
      have HF : Hid (decide (l = m) = true) := Lib.hid (decide_eq_true hfin)
      clear hfin
      go_wp2_with fail
      go_ret
      exact ⟨by rw [HF.out]; rfl, HR.out.2⟩
end Go.Proofs.YtimnmfjbfbkooaaGreatDoor

/- Border. -/
namespace Go.Proofs.YtimnmfjbfbkooaaGreatDoor
set_option linter.all false
set_option linter.unusedSimpArgs false
set_option linter.unusedVariables false
open Go.RowKit
attribute [local go_sem] Oper.semAt_some

def oneP (l : List Q) : Bool := decide (l.length = 1)
/-- The edges that one quarter has. -/
def borderE (l : List Q) : List E := ((ownL [] l).filter (fun m => oneP m.2)).map (·.1)
set_option maxRecDepth 100000 in
theorem oneP_any (l : List Q) (v : Value) (w : World) (h : HasQ w v l) :
    Calls Tryz.prog 63 #[v] w fun e w' => e = .returned (.bool (oneP l)) ∧ Below w.heap.size w w' := by
  obtain ⟨p, c, rfl⟩ := h.slice
  have hl : l.length ≤ maxLen := by
    rcases h with ⟨_, h⟩ | ⟨a, c, _, h1, h2, _⟩
    · rw [h]; decide
    · exact Nat.le_trans h1 h2
  simp only [maxLen] at hl
  clear h
  have HO : Hid (oneP l = decide (l.length = 1)) := Lib.hid rfl
  by_cases h1 : l.length = 1
  · have hb : ((l.length : Int) == 1) = true := by rw [h1]; rfl
    have HR : Hid (oneP l = true) := Lib.hid (by rw [HO.out]; exact decide_eq_true h1)
    clear h1
    go_enter Tryz.func63, Tryz.ntmps63
    go_wp2_with fail
    go_ret
    exact ⟨ret_bool (by first | exact HR.out.symm | (rw [HR.out]; simp <;> omega)), Below.refl _ _⟩
  · have hb : ((l.length : Int) == 1) = false := by rw [beq_eq_false_iff_ne]; omega
    have HR : Hid (oneP l = false) := Lib.hid (by rw [HO.out]; exact decide_eq_false h1)
    clear h1
    go_enter Tryz.func63, Tryz.ntmps63
    go_wp2_with fail
    go_ret
    exact ⟨ret_bool (by first | exact HR.out.symm | (rw [HR.out]; simp <;> omega)), Below.refl _ _⟩
set_option maxRecDepth 100000 in
set_option maxHeartbeats 4000000 in
theorem Border_any (l : List Q) (v : Value) (w : World) (hv : HasQ w v l) :
    Calls Tryz.prog 24 #[v] w fun e w' => ∃ u es, e = .returned (.tuple #[u, .int .i64 (checkN l)]) ∧ HasEs w' u es ∧ (checkN l ≠ 0 → es = []) ∧ (checkN l = 0 → es.Perm (borderE l) ∧ es.Pairwise (fun a b => ¬ ltE b a)) ∧ Below w.heap.size w w' := by
  obtain ⟨vp, vc, rfl⟩ := hv.slice
  have HV := Lib.hid hv; clear hv
  have hmm := @run_makeMap Tryz.prog
  go_enter Tryz.func24, Tryz.ntmps24
  go_wp2_with fail
  refine (check_any l _ w HV.out).mono ?_
  rintro e w1 ⟨rfl, hB1⟩
  have HB1 := Lib.hid hB1
  clear hB1
  by_cases hc : checkN l = 0
  case neg =>
    have hc1 : ((checkN l : Int) != 0) = true := by simpa using hc
    have HC : Hid (checkN l ≠ 0) := Lib.hid hc
    clear hc
    go_wp2_with fail
    go_ret2
    exact ⟨.slice none 0 0, [], rfl, .inl ⟨rfl, rfl⟩, fun _ => rfl, fun h => absurd h HC.out, HB1.out⟩
  have hc1 : ((checkN l : Int) != 0) = false := by simpa using hc
  have HC := Lib.hid hc
  have HOK := Lib.hid (checkN_ok hc)
  rw [hc]
  clear hc
  have hl400 : l.length ≤ 400 := HOK.out.2.2
  have hal : Below w1.heap.size w1 (w1.alloc (.map #[] 0)) := (Below.refl _ w1).alloc (Nat.le_refl _) _
  have hG : Grp (w1.alloc (.map #[] 0)) w1.heap.size (w1.heap.size + 1) [] [] := ⟨World.alloc_heap_new w1 _, rfl, fun m hm => (by cases hm), List.nodup_nil, fun i v m hv _ => (by simp at hv), fun i j u v _ hu _ => (by simp at hu)⟩
  have HOWN := Lib.hid (own_any w1.heap.size (w1.heap.size + 1) 0 [] [] l (.slice vp l.length vc) (w1.alloc (.map #[] 0)) hG (by rw [World.size_alloc]; exact Nat.le_refl _) ((HV.out.below HB1.out).below hal)
    (fun b hb => by have := (HV.out.below HB1.out).own_lt HOK.out.2.1 b hb; exact ⟨by omega, by omega⟩) HOK.out.1.1 (fun m hm => by cases hm) (by omega))
  clear hal hG
  go_wp2_with fail
  clear hmm
  refine HOWN.out.mono ?_
  rintro e w2 ⟨rfl, ⟨vs', hg'⟩, _, hBB⟩
  have HG := Lib.hid hg'
  have HB2 : Hid (Below w.heap.size w w2) := Lib.hid (by
    have h0 : Below w1.heap.size w1 w2 := ((Below.refl _ w1).alloc (Nat.le_refl _) _).trans (hBB.below (by omega) (Nat.le_refl _))
    exact HB1.out.trans (h0.mono HB1.out.size))
  clear hg' hBB HOWN
  have hML : (ownL [] l).length ≤ 1000000 := by
    have := ownL_length l []
    simp only [List.length_nil] at this; omega
  have HORD := Lib.hid (ordered_any w1.heap.size (w1.heap.size + 1) 63 #[] (ownL [] l) vs' oneP w2 HG.out hML
    (fun args w => by kernel_rfl)
    (fun W i v m hB hv hm => oneP_any m.2 v W ((HG.out.each i v m hv hm).has.below hB)))
  clear hML
  go_wp2_with fail
  refine HORD.out.mono ?_
  rintro e w5 ⟨u, es, rfl, hes, hperm, hsort, hBo⟩
  have HE := Lib.hid hes; clear hes
  have HP := Lib.hid hperm; clear hperm
  have HS := Lib.hid hsort; clear hsort
  have HB5 := Lib.hid (HB2.out.trans (hBo.mono HB2.out.size)); clear hBo
  go_wp2_with fail
  go_ret2
  exact ⟨u, es, by rw [HC.out]; rfl, HE.out, fun h => absurd HC.out h, fun _ => ⟨HP.out, HS.out⟩, HB5.out⟩
end Go.Proofs.YtimnmfjbfbkooaaGreatDoor

/- Plain maths: which quarters have an edge. -/
namespace Go.Proofs.YtimnmfjbfbkooaaGreatDoor
set_option linter.all false
set_option linter.unusedSimpArgs false
set_option linter.unusedVariables false
open Go.RowKit

/-- The quarters of a shape that have an edge. -/
def whoE (l : List Q) (e : E) : List Q := l.filter fun q => decide (e ∈ edgesQ q)
def GoodM (M : List (E × List Q)) (f : E → List Q) : Prop := (M.map (·.1)).Nodup ∧ (∀ m ∈ M, m.2 = f m.1) ∧ (∀ e, f e ≠ [] → e ∈ M.map (·.1)) ∧ ∀ m ∈ M, m.2 ≠ []
theorem addE_keys {M : List (E × List Q)} {e : E} {q : Q} (h : (M.map (·.1)).Nodup) : ((addE M e q).map (·.1)).Nodup ∧ (∀ x, x ∈ (addE M e q).map (·.1) ↔ x = e ∨ x ∈ M.map (·.1)) := by
  induction M with
  | nil => simp [addE]
  | cons m M ih =>
    unfold addE
    rw [List.map_cons, List.nodup_cons] at h
    by_cases he : m.1 = e
    · rw [if_pos he]
      refine ⟨by rw [List.map_cons, List.nodup_cons]; rw [← he]; exact h, fun x => ?_⟩
      simp only [List.map_cons, List.mem_cons]
      constructor
      · rintro (h1 | h1)
        · exact .inl h1
        · exact .inr (.inr h1)
      · rintro (h1 | h1 | h1)
        · exact .inl h1
        · exact .inl (h1.trans he)
        · exact .inr h1
    · rw [if_neg he]
      obtain ⟨i1, i2⟩ := ih h.2
      refine ⟨by rw [List.map_cons, List.nodup_cons]; exact ⟨fun h' => by rcases (i2 _).1 h' with h'' | h''; exact he h''; exact h.1 h'', i1⟩, fun x => ?_⟩
      simp only [List.map_cons, List.mem_cons, i2]
      constructor
      · rintro (h1 | h1 | h1)
        · exact .inr (.inl h1)
        · exact .inl h1
        · exact .inr (.inr h1)
      · rintro (h1 | h1 | h1)
        · exact .inr (.inl h1)
        · exact .inl h1
        · exact .inr (.inr h1)
theorem addE_val {M : List (E × List Q)} {e : E} {q : Q} {f : E → List Q} (h : GoodM M f) : GoodM (addE M e q) (fun x => if x = e then f e ++ [q] else f x) := by
  obtain ⟨h1, h2, h3, h4⟩ := h
  obtain ⟨k1, k2⟩ := addE_keys (e := e) (q := q) h1
  refine ⟨k1, ?_, fun x hx => ?_, ?_⟩
  · by_cases hm : e ∈ M.map (·.1)
    · obtain ⟨m, hmM, rfl⟩ := List.mem_map.1 hm
      obtain ⟨M1, M2, rfl⟩ := List.append_of_mem hmM
      have hno : ∀ x ∈ M1, x.1 ≠ m.1 := fun x hx e => by
        rw [List.map_append, List.nodup_append] at h1
        exact h1.2.2 x.1 (List.mem_map.2 ⟨x, hx, rfl⟩) m.1 (by simp) e
      have hno2 : ∀ x ∈ M2, x.1 ≠ m.1 := fun x hx e => by
        rw [List.map_append, List.nodup_append, List.map_cons, List.nodup_cons] at h1
        exact h1.2.1.1 (List.mem_map.2 ⟨x, hx, e⟩)
      rw [show (m : E × List Q) = (m.1, m.2) from rfl, addE_hit hno q]
      intro x hx
      rcases List.mem_append.1 hx with hx | hx
      · simp only [if_neg (hno x hx)]; exact h2 x (by simp [hx])
      · rcases List.mem_cons.1 hx with rfl | hx
        · simp only [if_true]; rw [h2 m (by simp)]
        · simp only [if_neg (hno2 x hx)]; exact h2 x (by simp [hx])
    · have hno : ∀ x ∈ M, x.1 ≠ e := fun x hx he => hm (List.mem_map.2 ⟨x, hx, he⟩)
      rw [addE_miss hno q]
      have hfe : f e = [] := by
        by_cases h : f e = []
        · exact h
        · exact absurd (h3 e h) hm
      intro x hx
      rcases List.mem_append.1 hx with hx | hx
      · simp only [if_neg (hno x hx)]; exact h2 x hx
      · rw [List.mem_singleton] at hx; subst hx; simp [hfe]
  · rw [k2]
    by_cases he : x = e
    · exact .inl he
    · simp only [if_neg he] at hx; exact .inr (h3 x hx)
  · by_cases hm : e ∈ M.map (·.1)
    · obtain ⟨m, hmM, rfl⟩ := List.mem_map.1 hm
      obtain ⟨M1, M2, rfl⟩ := List.append_of_mem hmM
      have hno : ∀ x ∈ M1, x.1 ≠ m.1 := fun x hx e => by
        rw [List.map_append, List.nodup_append] at h1
        exact h1.2.2 x.1 (List.mem_map.2 ⟨x, hx, rfl⟩) m.1 (by simp) e
      rw [show (m : E × List Q) = (m.1, m.2) from rfl, addE_hit hno q]
      intro x hx
      rcases List.mem_append.1 hx with hx | hx
      · exact h4 x (by simp [hx])
      · rcases List.mem_cons.1 hx with rfl | hx
        · simp
        · exact h4 x (by simp [hx])
    · have hno : ∀ x ∈ M, x.1 ≠ e := fun x hx he => hm (List.mem_map.2 ⟨x, hx, he⟩)
      rw [addE_miss hno q]
      intro x hx
      rcases List.mem_append.1 hx with hx | hx
      · exact h4 x hx
      · rw [List.mem_singleton] at hx; subst hx; simp
theorem edgesQ_nodup {q : Q} (h : inQ q) : (edgesQ q).Nodup := by
  obtain ⟨x, y, s, rfl, hx, hy, hs⟩ := inQ_nat h
  rcases (by omega : s = 0 ∨ s = 1 ∨ s = 2 ∨ s = 3) with rfl | rfl | rfl | rfl <;> simp [edgesQ, sideE]
theorem foldE_val {f : E → List Q} {q : Q} : ∀ {es : List E} {M : List (E × List Q)} {f : E → List Q}, GoodM M f → es.Nodup → GoodM (es.foldl (fun M e => addE M e q) M) (fun x => if x ∈ es then f x ++ [q] else f x)
  | [], M, f, h, _ => by simpa using h
  | e :: es, M, f, h, hn => by
    rw [List.nodup_cons] at hn
    have h1 := foldE_val (f := f) (q := q) (es := es) (addE_val (e := e) (q := q) h) hn.2
    rw [List.foldl_cons]
    have e2 : (fun x => if x ∈ es then (if x = e then f e ++ [q] else f x) ++ [q] else if x = e then f e ++ [q] else f x) = fun x => if x ∈ e :: es then f x ++ [q] else f x := by
      funext x
      by_cases hx : x = e
      · subst hx; simp [hn.1]
      · simp [hx]
    rw [← e2]; exact h1
theorem ownL_good : ∀ {l : List Q} {M : List (E × List Q)} {f : E → List Q}, GoodM M f → (∀ q ∈ l, inQ q) → GoodM (ownL M l) (fun e => f e ++ whoE l e)
  | [], M, f, h, _ => by simpa [whoE, ownL] using h
  | q :: l, M, f, h, hq => by
    have h1 := foldE_val (f := f) (q := q) h (edgesQ_nodup (hq q (by simp)))
    have h2 := ownL_good (l := l) h1 (fun p hp => hq p (by simp [hp]))
    have e2 : (fun e => (if e ∈ edgesQ q then f e ++ [q] else f e) ++ whoE l e) = fun e => f e ++ whoE (q :: l) e := by
      funext e
      unfold whoE
      by_cases he : e ∈ edgesQ q
      · rw [if_pos he, List.filter_cons_of_pos (by simpa using he)]; simp
      · rw [if_neg he, List.filter_cons_of_neg (by simpa using he)]
    rw [e2] at h2
    exact h2
theorem ownL_who {l : List Q} (h : ∀ q ∈ l, inQ q) : GoodM (ownL [] l) (whoE l) := by
  have := ownL_good (l := l) (M := []) (f := fun _ => []) ⟨by simp, fun m hm => (by cases hm), fun e he => absurd rfl he, fun m hm => (by cases hm)⟩ h
  simpa using this
/-- The edges of which something is true of the quarters that have them. -/
theorem pick_mem {l : List Q} (h : ∀ q ∈ l, inQ q) {p : List Q → Bool} (hp : p [] = false) (e : E) : e ∈ ((ownL [] l).filter (fun m => p m.2)).map (·.1) ↔ p (whoE l e) = true := by
  obtain ⟨h1, h2, h3, h4⟩ := ownL_who h
  rw [List.mem_map]
  constructor
  · rintro ⟨m, hm, rfl⟩
    rw [List.mem_filter] at hm
    rw [← h2 m hm.1]; exact hm.2
  · intro hpe
    have hne : whoE l e ≠ [] := fun e0 => by rw [e0, hp] at hpe; cases hpe
    obtain ⟨m, hm, he⟩ := List.mem_map.1 (h3 e hne)
    refine ⟨m, List.mem_filter.2 ⟨hm, ?_⟩, he⟩
    rw [h2 m hm, he]; exact hpe
theorem pick_nodup {l : List Q} (h : ∀ q ∈ l, inQ q) (p : List Q → Bool) : (((ownL [] l).filter (fun m => p m.2)).map (·.1)).Nodup :=
  (ownL_who h).1.sublist (List.filter_sublist.map _)
end Go.Proofs.YtimnmfjbfbkooaaGreatDoor

/- Plain maths: the reference's Border. -/
namespace Go.Proofs.YtimnmfjbfbkooaaGreatDoor
set_option linter.all false
set_option linter.unusedSimpArgs false
set_option linter.unusedVariables false
open Go.RowKit

def SrtE (l : List E) : Prop := l.Pairwise fun a b => ¬ ltE b a
theorem ltE_tri {a b : E} (h1 : ¬ ltE a b) (h2 : ¬ ltE b a) : a = b := by
  unfold ltE E.toQ Q.lt at h1 h2
  simp only at h1 h2
  exact E.ext' (by omega) (by omega) (by omega)
theorem ltE_trans' {a b c : E} (h1 : ¬ ltE b a) (h2 : ¬ ltE c b) : ¬ ltE c a := by
  unfold ltE E.toQ Q.lt at *
  simp only at *
  omega
theorem ltE_asymm {a b : E} (h : ltE a b) : ¬ ltE b a := by
  unfold ltE E.toQ Q.lt at *
  simp only at *
  omega
theorem srtE_eq : ∀ {l m : List E}, SrtE l → SrtE m → l.Perm m → l = m
  | [], m, _, _, h => by rw [List.nil_perm.1 h]
  | a :: l, [], _, _, h => by have := h.length_eq; simp at this
  | a :: l, b :: m, hl, hm, h => by
    unfold SrtE at hl hm
    rw [List.pairwise_cons] at hl hm
    have hab : a = b := by
      by_cases e : a = b
      · exact e
      · have ha : a ∈ m := by
          rcases List.mem_cons.1 (h.mem_iff.1 (List.mem_cons_self (a := a) (l := l))) with h' | h'
          · exact absurd h' e
          · exact h'
        have hb : b ∈ l := by
          rcases List.mem_cons.1 (h.mem_iff.2 (List.mem_cons_self (a := b) (l := m))) with h' | h'
          · exact absurd h'.symm e
          · exact h'
        exact ltE_tri (hm.1 a ha) (hl.1 b hb)
    subst hab
    rw [srtE_eq hl.2 hm.2 (List.Perm.cons_inv h)]
theorem srtE_ins {l : List E} {e : E} {j : Nat} (hs : SrtE l) (hlow : ∀ i f, i < j → l[i]? = some f → ltE f e) (hhigh : ∀ f, l[j]? = some f → ¬ ltE f e) : SrtE (l.take j ++ [e] ++ l.drop j) := by
  unfold SrtE at *
  have hdrop : ∀ y ∈ l.drop j, ¬ ltE y e := by
    intro y hy
    obtain ⟨d, hd, rfl⟩ := List.getElem_of_mem hy
    rw [List.getElem_drop]
    have hjl : j < l.length := by rw [List.length_drop] at hd; omega
    have h0 := hhigh _ (List.getElem?_eq_getElem hjl)
    rcases Nat.eq_zero_or_pos d with rfl | hd0
    · exact h0
    · have hdl : j + d < l.length := by rw [List.length_drop] at hd; omega
      exact ltE_trans' h0 (List.pairwise_iff_getElem.1 hs j (j + d) hjl hdl (by omega))
  rw [List.append_assoc]
  refine List.pairwise_append.2 ⟨hs.sublist (List.take_sublist _ _), ?_, ?_⟩
  · rw [List.singleton_append]
    exact List.pairwise_cons.2 ⟨hdrop, hs.sublist (List.drop_sublist _ _)⟩
  · intro a ha b hb
    have hae : ltE a e := by
      obtain ⟨i, hi, rfl⟩ := List.getElem_of_mem ha
      rw [List.length_take] at hi
      rw [List.getElem_take]
      exact hlow i _ (by omega) (List.getElem?_eq_getElem (by omega))
    rcases List.mem_cons.1 (by simpa using hb) with rfl | hb
    · exact ltE_asymm hae
    · exact ltE_trans' (ltE_asymm hae) (hdrop b hb)
theorem permE_ins {ls ms : List E} {X : E} (j : Nat) (h : ls.Perm ms) : (ls.take j ++ [X] ++ ls.drop j).Perm (ms ++ [X]) := by
  have e : (ls.take j ++ [X] ++ ls.drop j).Perm (ls.take j ++ ls.drop j ++ [X]) := by
    rw [List.append_assoc, List.append_assoc]
    exact List.Perm.append_left _ List.perm_append_comm
  rw [List.take_append_drop] at e
  exact e.trans (h.append_right _)
/-- No other quarter of the first k has the edge. -/
def aloneK (l : List Q) (i : Nat) (e : E) (k : Nat) : Bool := (List.range k).all fun j => decide (j = i) || (match l[j]? with | some q => decide (e ∉ edgesQ q) | none => true)
theorem aloneK_step {l : List Q} {i k : Nat} {q : Q} (e : E) (h : l[k]? = some q) : aloneK l i e (k + 1) = (aloneK l i e k && (decide (k = i) || decide (e ∉ edgesQ q))) := by
  unfold aloneK
  rw [List.range_succ, List.all_append]
  simp [h]
def rowE (l : List Q) (i n : Nat) : List E := match l[i]? with | some q => ((edgesQ q).take n).filter fun e => aloneK l i e l.length | none => []
def bPart (l : List Q) (i n : Nat) : List E := ((List.range i).flatMap fun a => rowE l a 3) ++ rowE l i n
theorem edgesQ_length (q : Q) : (edgesQ q).length = 3 := rfl
theorem bPart_zero (l : List Q) : bPart l 0 0 = [] := by unfold bPart rowE; cases l[0]? <;> simp
theorem bPart_row {l : List Q} {i : Nat} : bPart l (i + 1) 0 = bPart l i 3 := by
  unfold bPart
  rw [List.range_succ, List.flatMap_append]
  have : rowE l (i + 1) 0 = [] := by unfold rowE; cases l[i + 1]? <;> simp
  rw [this]; simp
theorem bPart_step {l : List Q} {i n : Nat} {q : Q} {e : E} (h : l[i]? = some q) (he : (edgesQ q)[n]? = some e) : bPart l i (n + 1) = bPart l i n ++ (if aloneK l i e l.length then [e] else []) := by
  unfold bPart rowE
  rw [h]
  simp only [List.append_assoc]
  congr 1
  rw [take_snocG he, List.filter_append]
  congr 1
  by_cases hb : aloneK l i e l.length = true
  · simp [hb]
  · simp [hb]
theorem alone_iff {l : List Q} {i : Nat} {q : Q} {e : E} (hn : l.Nodup) (h : l[i]? = some q) (he : e ∈ edgesQ q) : aloneK l i e l.length = true ↔ whoE l e = [q] := by
  have hmem : q ∈ whoE l e := List.mem_filter.2 ⟨List.mem_of_getElem? h, by simpa using he⟩
  have hnd : (whoE l e).Nodup := hn.sublist List.filter_sublist
  obtain ⟨hi, hi'⟩ := List.getElem?_eq_some_iff.1 h
  constructor
  · intro ha
    have hall : ∀ p ∈ whoE l e, p = q := fun p hp => by
      obtain ⟨hpl, hpe⟩ := List.mem_filter.1 hp
      obtain ⟨j, hj, rfl⟩ := List.getElem_of_mem hpl
      have := List.all_eq_true.1 ha j (List.mem_range.2 hj)
      rw [List.getElem?_eq_getElem hj] at this
      simp only [Bool.or_eq_true, decide_eq_true_eq] at this hpe
      rcases this with h' | h'
      · subst h'; exact hi'
      · exact absurd hpe h'
    rcases hw : whoE l e with _ | ⟨a, t⟩
    · rw [hw] at hmem; simp at hmem
    · rw [hw] at hall hnd
      have ha := hall a (by simp)
      subst ha
      rcases t with _ | ⟨b, t⟩
      · rfl
      · have hb := hall b (by simp)
        subst hb
        rw [List.nodup_cons] at hnd
        exact absurd (by simp) hnd.1
  · intro hw
    unfold aloneK
    rw [List.all_eq_true]
    intro j hj
    rw [List.mem_range] at hj
    rw [List.getElem?_eq_getElem hj]
    simp only [Bool.or_eq_true, decide_eq_true_eq]
    by_cases hji : j = i
    · exact .inl hji
    · refine .inr fun hje => hji ?_
      have hp : l[j] ∈ whoE l e := List.mem_filter.2 ⟨List.getElem_mem hj, by simpa using hje⟩
      rw [hw, List.mem_singleton] at hp
      exact (List.getElem_inj hn).1 (hp.trans hi'.symm)
theorem mem_bPart {l : List Q} (hn : l.Nodup) {e : E} : e ∈ bPart l l.length 0 ↔ oneP (whoE l e) = true := by
  have h0 : rowE l l.length 0 = [] := by unfold rowE; simp
  unfold bPart
  rw [h0, List.append_nil, List.mem_flatMap]
  unfold oneP
  rw [decide_eq_true_eq]
  constructor
  · rintro ⟨a, ha, he⟩
    rw [List.mem_range] at ha
    have hg := List.getElem?_eq_getElem ha
    unfold rowE at he
    rw [hg] at he
    simp only at he
    obtain ⟨h1, h2⟩ := List.mem_filter.1 he
    rw [(alone_iff hn hg (List.mem_of_mem_take h1)).1 h2]; rfl
  · intro hlen
    obtain ⟨q, hq⟩ := List.length_eq_one_iff.1 hlen
    have hqm : q ∈ whoE l e := by rw [hq]; simp
    obtain ⟨hql, hqe⟩ := List.mem_filter.1 hqm
    obtain ⟨a, ha, rfl⟩ := List.getElem_of_mem hql
    have hg := List.getElem?_eq_getElem ha
    refine ⟨a, List.mem_range.2 ha, ?_⟩
    unfold rowE
    rw [hg]
    have hqe' : e ∈ edgesQ l[a] := by simpa using hqe
    exact List.mem_filter.2 ⟨by rw [List.take_of_length_le (by rw [edgesQ_length]; exact Nat.le_refl _)]; exact hqe', (alone_iff hn hg hqe').2 hq⟩
theorem bPart_nodup {l : List Q} (hn : l.Nodup) (hq : ∀ q ∈ l, inQ q) : (bPart l l.length 0).Nodup := by
  have h0 : rowE l l.length 0 = [] := by unfold rowE; simp
  unfold bPart
  rw [h0, List.append_nil]
  unfold List.Nodup
  refine List.pairwise_flatMap.2 ⟨fun a ha => ?_, ?_⟩
  · rw [List.mem_range] at ha
    unfold rowE
    rw [List.getElem?_eq_getElem ha]
    exact ((edgesQ_nodup (hq _ (List.getElem_mem ha))).sublist (List.take_sublist _ _)).sublist List.filter_sublist
  · refine List.Pairwise.imp_of_mem ?_ List.pairwise_lt_range
    intro a b ha hb hab x hx y hy hxy
    subst hxy
    rw [List.mem_range] at ha hb
    unfold rowE at hx hy
    rw [List.getElem?_eq_getElem ha] at hx
    rw [List.getElem?_eq_getElem hb] at hy
    obtain ⟨x1, x2⟩ := List.mem_filter.1 hx
    obtain ⟨y1, y2⟩ := List.mem_filter.1 hy
    have e1 := (alone_iff hn (List.getElem?_eq_getElem ha) (List.mem_of_mem_take x1)).1 x2
    have e2 := (alone_iff hn (List.getElem?_eq_getElem hb) (List.mem_of_mem_take y1)).1 y2
    have : l[a] = l[b] := by rw [e1] at e2; exact List.singleton_inj.1 e2
    have := (List.getElem_inj hn).1 this
    omega
theorem border_perm {l : List Q} (hn : l.Nodup) (hq : ∀ q ∈ l, inQ q) : (bPart l l.length 0).Perm (borderE l) :=
  (List.perm_ext_iff_of_nodup (bPart_nodup hn hq) (pick_nodup hq oneP)).2 fun e => by
    rw [mem_bPart hn]; exact (pick_mem hq (by rfl) e).symm
theorem bPart_length (l : List Q) (i n : Nat) : (bPart l i n).length ≤ 3 * i + 3 := by
  have hrow : ∀ a n, (rowE l a n).length ≤ 3 := fun a n => by
    unfold rowE
    split
    · exact Nat.le_trans (List.length_filter_le _ _) (by rw [List.length_take, edgesQ_length]; omega)
    · simp
  unfold bPart
  rw [List.length_append]
  have h1 : ((List.range i).flatMap fun a => rowE l a 3).length ≤ 3 * i := by
    induction i with
    | zero => simp
    | succ i ih =>
      rw [List.range_succ, List.flatMap_append, List.length_append]
      have := hrow i 3
      simp only [List.flatMap_cons, List.flatMap_nil, List.append_nil]
      omega
  have := hrow i n
  omega
end Go.Proofs.YtimnmfjbfbkooaaGreatDoor

/- The reference's Border; printed by mkborder.py. -/
namespace Go.Proofs.YtimnmfjbfbkooaaGreatDoor
set_option linter.all false
set_option linter.unusedSimpArgs false
set_option linter.unusedVariables false
open Go.RowKit
attribute [local go_sem] Oper.semAt_some

theorem edges_three (q : Q) : ∃ a0 b0 c0 a1 b1 c1 a2 b2 c2 : Int, edgesQ q = [⟨a0, b0, c0⟩, ⟨a1, b1, c1⟩, ⟨a2, b2, c2⟩] ∧ edgesV q = .agg #[.int .i64 a0, .int .i64 b0, .int .i64 c0, .int .i64 a1, .int .i64 b1, .int .i64 c1, .int .i64 a2, .int .i64 b2, .int .i64 c2] :=
  ⟨_, _, _, _, _, _, _, _, _, rfl, rfl⟩
theorem equalE_yes (x y k : Int) (W : World) : (Op.equalIn 10000 72 (.agg #[.int .i64 x, .int .i64 y, .int .i64 k]) (.agg #[.int .i64 x, .int .i64 y, .int .i64 k])).run Tryz.prog W = .ok true W := by
  rw [equalIn_E]; simp
theorem equalE_no {x y k x' y' k' : Int} (h : ¬ (⟨x, y, k⟩ : E) = ⟨x', y', k'⟩) (W : World) : (Op.equalIn 10000 72 (.agg #[.int .i64 x, .int .i64 y, .int .i64 k]) (.agg #[.int .i64 x', .int .i64 y', .int .i64 k'])).run Tryz.prog W = .ok false W := by
  rw [equalIn_E, decide_eq_false h]
def Has9 (W : World) (b : Nat) (a0 b0 c0 a1 b1 c1 a2 b2 c2 : Int) : Prop := W.heap[b]? = some (.cells #[.int .i64 a0, .int .i64 b0, .int .i64 c0, .int .i64 a1, .int .i64 b1, .int .i64 c1, .int .i64 a2, .int .i64 b2, .int .i64 c2] 101)
theorem Has9.below {W W' : World} {b : Nat} {a0 b0 c0 a1 b1 c1 a2 b2 c2 : Int} (h : Has9 W b a0 b0 c0 a1 b1 c1 a2 b2 c2) (e : Below W.heap.size W W') : Has9 W' b a0 b0 c0 a1 b1 c1 a2 b2 c2 := (e.block _ (Array.getElem?_eq_some_iff.1 h).1).trans h
theorem Has9.cells {W : World} {b : Nat} {a0 b0 c0 a1 b1 c1 a2 b2 c2 : Int} (h : Has9 W b a0 b0 c0 a1 b1 c1 a2 b2 c2) :
    (W.cell? ⟨b, 0, none⟩ = some (.int .i64 a0) ∧ W.cell? ⟨b, 1, none⟩ = some (.int .i64 b0) ∧ W.cell? ⟨b, 2, none⟩ = some (.int .i64 c0)) ∧ (W.cell? ⟨b, 3, none⟩ = some (.int .i64 a1) ∧ W.cell? ⟨b, 4, none⟩ = some (.int .i64 b1) ∧ W.cell? ⟨b, 5, none⟩ = some (.int .i64 c1)) ∧
      (W.cell? ⟨b, 6, none⟩ = some (.int .i64 a2) ∧ W.cell? ⟨b, 7, none⟩ = some (.int .i64 b2) ∧ W.cell? ⟨b, 8, none⟩ = some (.int .i64 c2)) := by
  unfold Has9 at h
  refine ⟨⟨?_, ?_, ?_⟩, ⟨?_, ?_, ?_⟩, ?_, ?_, ?_⟩ <;> simp [World.cell?, h]
/-- What holds while the reference gathers edges. -/
structure BI (w W : World) (u : Value) (es : List E) : Prop where
  own : OwnEd W w.heap.size u es
  form : ∃ g cap, u = .slice (some ⟨g, 0, none⟩) es.length cap
  below : Below w.heap.size w W
theorem BI.keep {w W W' : World} {u : Value} {es : List E} (h : BI w W u es) (e : Below W.heap.size W W') : BI w W' u es :=
  ⟨owns_below h.own e, h.form, h.below.trans (e.mono h.below.size)⟩
theorem own_es {W : World} {base : Nat} {v : Value} {l : List E} (h : OwnEd W base v l) : HasEs W v l := by
  rcases h.2 with ⟨rfl, h0⟩ | ⟨g, cap, cur, rfl, h1, h2, h3, h4, h5⟩
  · exact .inl ⟨rfl, List.length_eq_zero_iff.1 h0⟩
  · refine .inr ⟨⟨g, 0, none⟩, cap, rfl, h3, h4, ⟨(h.lt g rfl).2, fun i q hq => ?_, fun i q hq => ?_, fun i q hq => ?_⟩⟩
    · exact World.ownsRow.cells h (g := g) rfl _ _ (eCells_get hq).1
    · have := World.ownsRow.cells h (g := g) rfl _ _ (eCells_get hq).2.1
      rw [addr_add] at this ⊢; simpa using this
    · have := World.ownsRow.cells h (g := g) rfl _ _ (eCells_get hq).2.2
      rw [addr_add] at this ⊢; simpa using this
set_option maxRecDepth 100000 in
set_option maxHeartbeats 16000000 in
theorem border_ref (l : List Q) (hc : checkN l = 0) (v : Value) (w : World) (hv : HasQ w v l) :
    Calls Tryz.prog 28 #[v] w fun e w' => ∃ u es, e = .returned u ∧ HasEs w' u es ∧ es.Perm (bPart l l.length 0) ∧ SrtE es ∧ Below w.heap.size w w' := by
  have HOK := Lib.hid (checkN_ok hc)
  have hll : l.length ≤ 400 := HOK.out.2.2
  clear hc
  obtain ⟨sp, sc, rfl⟩ := hv.slice
  obtain ⟨sa, rfl, hsq⟩ : ∃ a, sp = some a ∧ QsAt w a l := by
    rcases hv with ⟨_, h⟩ | ⟨a, c, h1, _, _, h2⟩
    · exact absurd h HOK.out.2.1
    · simp only [Value.slice.injEq] at h1; exact ⟨a, h1.1, h2⟩
  have HSQ := Lib.hid hsq; clear hsq hv
  have h0 : BI w (w.alloc (.cells #[] 72)) (.slice (some ⟨w.heap.size, 0, none⟩) 0 0) [] := ⟨⟨rfl, .inr ⟨w.heap.size, 0, #[], rfl, Nat.le_refl _, World.alloc_heap_new w _, Nat.le_refl _, by decide, rfl, rfl⟩⟩, ⟨_, _, rfl⟩, (Below.refl _ w).alloc (Nat.le_refl _) _⟩
  have H0 := Lib.hid h0
  clear h0
  go_enter Tryz.func28, Tryz.ntmps28
  go_wp2_with fail
  revert H0
  generalize w.alloc (.cells #[] 72) = w0
  generalize (Value.slice (some ⟨w.heap.size, 0, none⟩) 0 0) = v0
  intro H0
  go_loopw [3, 4] (fun u z wr => ∃ (i : Nat) (es : List E), i ≤ l.length ∧ z = .int .i64 i ∧ Hid (BI w wr u es ∧ es.Perm (bPart l i 0) ∧ SrtE es)) (fun _ z _ => l.length - (intOf z).toNat)
  case atStart => exact ⟨0, [], by omega, rfl, Lib.hid ⟨H0.out, by rw [bPart_zero], List.Pairwise.nil⟩⟩
  case round =>
    clear H0
    obtain ⟨i, es, hi, rfl, HR⟩ := hrel
    obtain ⟨g, cap, rfl⟩ := HR.out.1.form
    by_cases hlt : i < l.length
    · obtain ⟨q, hqi⟩ : ∃ q, l[i]? = some q := ⟨_, List.getElem?_eq_getElem hlt⟩
      have hqs := HSQ.out.below HR.out.1.below
      have c0 := hqs.at0 i q hqi
      have c1 := hqs.at1 i q hqi
      have c2 := hqs.at2 i q hqi
      have HQI := Lib.hid hqi
      obtain ⟨a0, b0, k0, a1, b1, k1, a2, b2, k2, he3, hev⟩ := edges_three q
      have HED := edges_ref q (HOK.out.1.1 q (List.mem_of_getElem? hqi)) wr
      rw [hev] at HED
      have HED := Lib.hid HED
      have HE3 := Lib.hid he3
      clear hqs hqi he3 hev
      obtain ⟨qx, qy, qs⟩ := q
      simp only at c0 c1 c2
      unfold Q.val at HED
      go_wp2_with fail
      refine HED.out.mono ?_
      rintro e w1 ⟨rfl, hB1⟩
      have HR1 := Lib.hid (And.intro (HR.out.1.keep hB1) HR.out.2)
      clear hB1 HR HED c0 c1 c2
      have hal : Below w1.heap.size w1 (w1.alloc (.cells #[.int .i64 a0, .int .i64 b0, .int .i64 k0, .int .i64 a1, .int .i64 b1, .int .i64 k1, .int .i64 a2, .int .i64 b2, .int .i64 k2] 101)) := (Below.refl _ w1).alloc (Nat.le_refl _) _
      have H9 : Hid (Has9 (w1.alloc (.cells #[.int .i64 a0, .int .i64 b0, .int .i64 k0, .int .i64 a1, .int .i64 b1, .int .i64 k1, .int .i64 a2, .int .i64 b2, .int .i64 k2] 101)) w1.heap.size a0 b0 k0 a1 b1 k1 a2 b2 k2) := Lib.hid (World.alloc_heap_new w1 _)
      have HR2 := Lib.hid (And.intro (HR1.out.1.keep hal) HR1.out.2)
      clear hal HR1
      go_wp2_with fail
      revert H9 HR2
      generalize w1.alloc (.cells #[.int .i64 a0, .int .i64 b0, .int .i64 k0, .int .i64 a1, .int .i64 b1, .int .i64 k1, .int .i64 a2, .int .i64 b2, .int .i64 k2] 101) = w2
      generalize w1.heap.size = eb
      intro H9 HR2
      go_loopw [3, 6] (fun u z wr => ∃ (n : Nat) (es : List E), n ≤ 3 ∧ z = .int .i64 n ∧ Hid (BI w wr u es ∧ es.Perm (bPart l i n) ∧ SrtE es ∧ Has9 wr eb a0 b0 k0 a1 b1 k1 a2 b2 k2)) (fun _ z _ => 3 - (intOf z).toNat)
      case atStart => exact ⟨0, es, by omega, rfl, Lib.hid ⟨HR2.out.1, HR2.out.2.1, HR2.out.2.2, H9.out⟩⟩
      case round =>
        clear HR2 H9
        obtain ⟨n, es, hn, rfl, HR⟩ := hrel
        obtain ⟨g, cap, rfl⟩ := HR.out.1.form
        by_cases hn3 : n < 3
        · obtain ⟨ex, ey, ek, hen⟩ : ∃ ex ey ek, (edgesQ ⟨qx, qy, qs⟩)[n]? = some ⟨ex, ey, ek⟩ := by
            rw [HE3.out]
            rcases (by omega : n = 0 ∨ n = 1 ∨ n = 2) with rfl | rfl | rfl
            · exact ⟨_, _, _, rfl⟩
            · exact ⟨_, _, _, rfl⟩
            · exact ⟨_, _, _, rfl⟩
          have HEN := Lib.hid hen
          have HN9 : Hid (∀ W, Has9 W eb a0 b0 k0 a1 b1 k1 a2 b2 k2 → W.cell? ⟨eb, n * 3, none⟩ = some (.int .i64 ex) ∧ W.cell? ⟨eb, n * 3 + 1, none⟩ = some (.int .i64 ey) ∧ W.cell? ⟨eb, n * 3 + 2, none⟩ = some (.int .i64 ek)) := Lib.hid (by
            intro W h9
            obtain ⟨⟨c0, c1, c2⟩, ⟨c3, c4, c5⟩, c6, c7, c8⟩ := h9.cells
            rw [HE3.out] at hen
            rcases (by omega : n = 0 ∨ n = 1 ∨ n = 2) with rfl | rfl | rfl
            · simp only [List.getElem?_cons_zero, Option.some.injEq, E.mk.injEq] at hen; obtain ⟨rfl, rfl, rfl⟩ := hen; exact ⟨c0, c1, c2⟩
            · simp only [List.getElem?_cons_succ, List.getElem?_cons_zero, Option.some.injEq, E.mk.injEq] at hen; obtain ⟨rfl, rfl, rfl⟩ := hen; exact ⟨c3, c4, c5⟩
            · simp only [List.getElem?_cons_succ, List.getElem?_cons_zero, Option.some.injEq, E.mk.injEq] at hen; obtain ⟨rfl, rfl, rfl⟩ := hen; exact ⟨c6, c7, c8⟩)
          clear hen
          have HES := Lib.hid HR.out.2
          have HBI := Lib.hid HR.out.1
          clear HR
          have e3 : decide ((n : Int) < 3) = true := decide_eq_true (by omega)
          go_wp2_with fail
          clear e3
          go_loopw [7, 8] (fun x z wr => ∃ (k : Nat) (b : Bool), k ≤ l.length ∧ z = .int .i64 k ∧ x = .bool b ∧ Hid (b = aloneK l i ⟨ex, ey, ek⟩ k ∧ BI w wr (.slice (some ⟨g, 0, none⟩) es.length cap) es ∧ Has9 wr eb a0 b0 k0 a1 b1 k1 a2 b2 k2)) (fun _ z _ => l.length - (intOf z).toNat)
          case atStart => exact ⟨0, true, by omega, rfl, rfl, Lib.hid ⟨rfl, HBI.out, HES.out.2.2⟩⟩
          case round =>
            clear HBI
            obtain ⟨k, b, hk, rfl, rfl, HR⟩ := hrel
            by_cases hkl : k < l.length
            · obtain ⟨p, hpk⟩ : ∃ p, l[k]? = some p := ⟨_, List.getElem?_eq_getElem hkl⟩
              have hqs := HSQ.out.below HR.out.2.1.below
              have c0 := hqs.at0 k p hpk
              have c1 := hqs.at1 k p hpk
              have c2 := hqs.at2 k p hpk
              obtain ⟨x0, y0, z0, x1, y1, z1, x2, y2, z2, he3, hev⟩ := edges_three p
              have hED := edges_ref p (HOK.out.1.1 p (List.mem_of_getElem? hpk)) wr
              rw [hev] at hED
              have HED := Lib.hid hED
              have HST := Lib.hid (aloneK_step (i := i) (⟨ex, ey, ek⟩ : E) hpk)
              have HIN : Hid (∀ e : E, e ∈ edgesQ p ↔ e = ⟨x0, y0, z0⟩ ∨ e = ⟨x1, y1, z1⟩ ∨ e = ⟨x2, y2, z2⟩) := Lib.hid (fun e => by rw [he3]; simp)
              have HP0 := Lib.hid (And.intro he3 rfl : edgesQ p = _ ∧ True = True)
              clear hqs hpk he3 hev hED HP0
              obtain ⟨px, py, ps⟩ := p
              simp only at c0 c1 c2
              unfold Q.val at HED
              go_wp2_with fail
              refine HED.out.mono ?_
              rintro e w3 ⟨rfl, hB3⟩
              have HR3 := Lib.hid (And.intro (HR.out.2.1.keep hB3) (HR.out.2.2.below hB3))
              have HBB := Lib.hid HR.out.1
              clear hB3 HR HED c0 c1 c2
              have hal : Below w3.heap.size w3 (w3.alloc (.cells #[.int .i64 x0, .int .i64 y0, .int .i64 z0, .int .i64 x1, .int .i64 y1, .int .i64 z1, .int .i64 x2, .int .i64 y2, .int .i64 z2] 101)) := (Below.refl _ w3).alloc (Nat.le_refl _) _
              have H9 : Hid (Has9 (w3.alloc (.cells #[.int .i64 x0, .int .i64 y0, .int .i64 z0, .int .i64 x1, .int .i64 y1, .int .i64 z1, .int .i64 x2, .int .i64 y2, .int .i64 z2] 101)) w3.heap.size x0 y0 z0 x1 y1 z1 x2 y2 z2) := Lib.hid (World.alloc_heap_new w3 _)
              have HR4 := Lib.hid (And.intro (HR3.out.1.keep hal) (HR3.out.2.below hal))
              clear hal HR3
              go_upto_region 14 with fail
              revert H9 HR4
              generalize w3.alloc (.cells #[.int .i64 x0, .int .i64 y0, .int .i64 z0, .int .i64 x1, .int .i64 y1, .int .i64 z1, .int .i64 x2, .int .i64 y2, .int .i64 z2] 101) = w4
              generalize w3.heap.size = ob
              intro H9 HR4
              have HRD : Hid (∀ m, BI w (w4.drewN m) (.slice (some ⟨g, 0, none⟩) es.length cap) es ∧ Has9 (w4.drewN m) eb a0 b0 k0 a1 b1 k1 a2 b2 k2) := Lib.hid (fun m => ⟨HR4.out.1.keep (below_drewN _ w4 m), HR4.out.2.below (below_drewN _ w4 m)⟩)
              obtain ⟨⟨d0, d1, d2⟩, ⟨d3, d4, d5⟩, d6, d7, d8⟩ := H9.out.cells
              obtain ⟨f0, f1, f2⟩ := HN9.out w4 HR4.out.2
              have hguard : Tryz.prog.eqGuardType Tryz.prog.depth 72 = false := by kernel_rfl
              clear H9 HR4
              cases b with
              | false =>
                have HNX : Hid (aloneK l i ⟨ex, ey, ek⟩ (k + 1) = false) := Lib.hid (by rw [HST.out, ← HBB.out, Bool.false_and])
                clear d0 d1 d2 d3 d4 d5 d6 d7 d8 f0 f1 f2 hguard
                go_quiet (fail)
                go_wp2_with fail
                go_roundw
                case rel => exact ⟨k + 1, false, by omega, by go_num, rfl, Lib.hid ⟨HNX.out.symm, (HRD.out _).1, (HRD.out _).2⟩⟩
                case measure => simp [intOf]; omega
              | true =>
                by_cases hki : k = i
                · have hkb : ((k : Int) == (i : Int)) = true := by rw [hki]; simp
                  have HNX : Hid (aloneK l i ⟨ex, ey, ek⟩ (k + 1) = true) := Lib.hid (by rw [HST.out, ← HBB.out, decide_eq_true hki, Bool.true_or, Bool.and_true])
                  clear d0 d1 d2 d3 d4 d5 d6 d7 d8 f0 f1 f2 hguard hki
                  go_quiet (fail)
                  go_wp2_with fail
                  go_roundw
                  case rel => exact ⟨k + 1, true, by omega, by go_num, rfl, Lib.hid ⟨HNX.out.symm, (HRD.out _).1, (HRD.out _).2⟩⟩
                  case measure => simp [intOf]; omega
                · have hkb : ((k : Int) == (i : Int)) = false := by rw [beq_eq_false_iff_ne]; omega
                  have HNX : Hid (aloneK l i ⟨ex, ey, ek⟩ (k + 1) = decide ((⟨ex, ey, ek⟩ : E) ∉ edgesQ ⟨px, py, ps⟩)) := Lib.hid (by rw [HST.out, ← HBB.out, decide_eq_false hki, Bool.false_or, Bool.true_and])
                  clear hki
                  by_cases h0 : (⟨x0, y0, z0⟩ : E) = ⟨ex, ey, ek⟩
                  · have HF : Hid (aloneK l i ⟨ex, ey, ek⟩ (k + 1) = false) := Lib.hid (by rw [HNX.out, decide_eq_false]; intro h; exact h ((HIN.out _).2 (.inl h0.symm)))
                    simp only [E.mk.injEq] at h0
                    obtain ⟨rfl, rfl, rfl⟩ := h0
                    have heq0 := equalE_yes x0 y0 z0
                    go_quiet (fail)
                    clear d0 d1 d2 d3 d4 d5 d6 d7 d8 f0 f1 f2 hguard heq0
                    go_wp2_with fail
                    go_roundw
                    case rel => exact ⟨k + 1, false, by omega, by go_num, rfl, Lib.hid ⟨HF.out.symm, (HRD.out _).1, (HRD.out _).2⟩⟩
                    case measure => simp [intOf]; omega
                  · have heq0 := equalE_no h0
                    by_cases h1 : (⟨x1, y1, z1⟩ : E) = ⟨ex, ey, ek⟩
                    · have HF : Hid (aloneK l i ⟨ex, ey, ek⟩ (k + 1) = false) := Lib.hid (by rw [HNX.out, decide_eq_false]; intro h; exact h ((HIN.out _).2 (.inr (.inl h1.symm))))
                      simp only [E.mk.injEq] at h1
                      obtain ⟨rfl, rfl, rfl⟩ := h1
                      have heq1 := equalE_yes x1 y1 z1
                      clear h0
                      go_quiet (fail)
                      clear d0 d1 d2 d3 d4 d5 d6 d7 d8 f0 f1 f2 hguard heq0 heq1
                      go_wp2_with fail
                      go_roundw
                      case rel => exact ⟨k + 1, false, by omega, by go_num, rfl, Lib.hid ⟨HF.out.symm, (HRD.out _).1, (HRD.out _).2⟩⟩
                      case measure => simp [intOf]; omega
                    · have heq1 := equalE_no h1
                      by_cases h2 : (⟨x2, y2, z2⟩ : E) = ⟨ex, ey, ek⟩
                      · have HF : Hid (aloneK l i ⟨ex, ey, ek⟩ (k + 1) = false) := Lib.hid (by rw [HNX.out, decide_eq_false]; intro h; exact h ((HIN.out _).2 (.inr (.inr h2.symm))))
                        simp only [E.mk.injEq] at h2
                        obtain ⟨rfl, rfl, rfl⟩ := h2
                        have heq2 := equalE_yes x2 y2 z2
                        clear h0 h1
                        go_quiet (fail)
                        clear d0 d1 d2 d3 d4 d5 d6 d7 d8 f0 f1 f2 hguard heq0 heq1 heq2
                        go_wp2_with fail
                        go_roundw
                        case rel => exact ⟨k + 1, false, by omega, by go_num, rfl, Lib.hid ⟨HF.out.symm, (HRD.out _).1, (HRD.out _).2⟩⟩
                        case measure => simp [intOf]; omega
                      · have heq2 := equalE_no h2
                        have HF : Hid (aloneK l i ⟨ex, ey, ek⟩ (k + 1) = true) := Lib.hid (by
                          rw [HNX.out, decide_eq_true]
                          intro h
                          rcases (HIN.out _).1 h with h | h | h
                          · exact h0 h.symm
                          · exact h1 h.symm
                          · exact h2 h.symm)
                        clear h0 h1 h2
                        go_quiet (fail)
                        clear d0 d1 d2 d3 d4 d5 d6 d7 d8 f0 f1 f2 hguard heq0 heq1 heq2
                        go_wp2_with fail
                        go_roundw
                        case rel => exact ⟨k + 1, true, by omega, by go_num, rfl, Lib.hid ⟨HF.out.symm, (HRD.out _).1, (HRD.out _).2⟩⟩
                        case measure => simp [intOf]; omega
            · have hkk : k = l.length := by omega
              have HBP := Lib.hid (bPart_step HQI.out HEN.out)
              have HAL : Hid (aloneK l i ⟨ex, ey, ek⟩ l.length = b) := Lib.hid (by rw [HR.out.1, hkk])
              have HBI := Lib.hid HR.out.2
              clear hkk HR
              cases b with
              | false =>
                go_wp2_with fail
                go_roundw
                case rel => exact ⟨n + 1, es, by omega, by go_num, Lib.hid ⟨HBI.out.1, by rw [HBP.out, HAL.out]; simpa using HES.out.1, HES.out.2.1, HBI.out.2⟩⟩
                case measure => simp [intOf]; omega
              | true =>
                obtain ⟨f0, f1, f2⟩ := HN9.out wr HBI.out.2
                have hel : es.length ≤ 2000 := by
                  have h1 := HES.out.1.length_eq
                  have h2 := bPart_length l i n
                  omega
                have HWI := Lib.hid (with_ref es ex ey ek w.heap.size g cap wr HBI.out.1.own (by omega))
                go_wp2_with fail
                refine HWI.out.mono ?_
                rintro e w5 ⟨j, g', cap', rfl, hj, hlow, hhigh, hown, hB5⟩
                have hlen : (es.take j ++ [(⟨ex, ey, ek⟩ : E)] ++ es.drop j).length = j + 1 + (es.length - j) := by simp; omega
                have hnew : BI w w5 (.slice (some ⟨g', 0, none⟩) (j + 1 + (es.length - j)) cap') (es.take j ++ [(⟨ex, ey, ek⟩ : E)] ++ es.drop j) := by
                  refine ⟨?_, ⟨g', cap', by rw [hlen]⟩, HBI.out.1.below.trans (hB5.mono HBI.out.1.below.size)⟩
                  have := ownsRow_mono hown HBI.out.1.below.size
                  unfold OwnEd
                  rw [hlen, show j + 1 + (es.length - j) = es.length + 1 by omega]
                  have e9 : (es.take j ++ [(⟨ex, ey, ek⟩ : E)] ++ es.drop j).length = es.length + 1 := by omega
                  unfold OwnEd at this
                  rw [e9] at this
                  exact this
                have HN : Hid (BI w w5 (.slice (some ⟨g', 0, none⟩) (j + 1 + (es.length - j)) cap') (es.take j ++ [(⟨ex, ey, ek⟩ : E)] ++ es.drop j) ∧ (es.take j ++ [(⟨ex, ey, ek⟩ : E)] ++ es.drop j).Perm (bPart l i (n + 1)) ∧ SrtE (es.take j ++ [(⟨ex, ey, ek⟩ : E)] ++ es.drop j) ∧ Has9 w5 eb a0 b0 k0 a1 b1 k1 a2 b2 k2) := Lib.hid ⟨hnew, by rw [HBP.out, HAL.out]; exact permE_ins j HES.out.1, srtE_ins HES.out.2.1 hlow hhigh, HBI.out.2.below hB5⟩
                clear hnew hlen hown hB5 hlow hhigh HWI f0 f1 f2
                go_wp2_with fail
                go_roundw
                case rel => exact ⟨n + 1, _, by omega, by go_num, HN⟩
                case measure => simp [intOf]; omega
        · obtain rfl : n = 3 := by omega
          have HNX : Hid (BI w wr (.slice (some ⟨g, 0, none⟩) es.length cap) es ∧ es.Perm (bPart l (i + 1) 0) ∧ SrtE es) := Lib.hid ⟨HR.out.1, by rw [bPart_row]; exact HR.out.2.1, HR.out.2.2.1⟩
          clear HR
          go_wp2_with fail
          go_roundw
          case rel => exact ⟨i + 1, es, by omega, by go_num, HNX⟩
          case measure => simp [intOf]; omega
    · obtain rfl : i = l.length := by omega
      go_wp2_with fail
      go_ret
      exact ⟨_, es, rfl, own_es HR.out.1.own, HR.out.2.1, HR.out.2.2, HR.out.1.below⟩
end Go.Proofs.YtimnmfjbfbkooaaGreatDoor

/- Plain maths: the reference's Joints. -/
namespace Go.Proofs.YtimnmfjbfbkooaaGreatDoor
set_option linter.all false
set_option linter.unusedSimpArgs false
set_option linter.unusedVariables false
open Go.RowKit

/-- Which two quarters can have an edge. -/
theorem edge_two {q : Q} (h : inQ q) {e : E} (he : e ∈ edgesQ q) :
    q = (if e.k < 4 then ⟨e.x, e.y, e.k⟩ else if e.k = 4 then ⟨e.x, e.y - 1, 0⟩ else ⟨e.x - 1, e.y, 1⟩) ∨ q = (if e.k < 4 then ⟨e.x, e.y, (e.k + 1) % 4⟩ else if e.k = 4 then ⟨e.x, e.y, 2⟩ else ⟨e.x, e.y, 3⟩) := by
  obtain ⟨x, y, s⟩ := q
  unfold inQ at h; simp only at h
  rcases (by omega : s = 0 ∨ s = 1 ∨ s = 2 ∨ s = 3) with rfl | rfl | rfl | rfl <;> (
    simp only [edgesQ, sideE, List.mem_cons, List.not_mem_nil, or_false] at he
    rcases he with rfl | rfl | rfl <;> simp)
theorem edge_third {p q r : Q} (hp : inQ p) (hq : inQ q) (hr : inQ r) {e : E} (h1 : e ∈ edgesQ p) (h2 : e ∈ edgesQ q) (h3 : e ∈ edgesQ r) (hpq : p ≠ q) : r = p ∨ r = q := by
  have a := edge_two hp h1
  have b := edge_two hq h2
  have c := edge_two hr h3
  rcases a with a | a <;> rcases b with b | b
  · exact absurd (a.trans b.symm) hpq
  · rcases c with c | c
    · exact .inl (c.trans a.symm)
    · exact .inr (c.trans b.symm)
  · rcases c with c | c
    · exact .inr (c.trans b.symm)
    · exact .inl (c.trans a.symm)
  · exact absurd (a.trans b.symm) hpq
def cellJ (p q : Q) (n : Nat) : List E := match (edgesQ p)[n / 3]?, (edgesQ q)[n % 3]? with | some a, some b => if a = b then [a] else [] | _, _ => []
def pairJ (p q : Q) (n : Nat) : List E := (List.range n).flatMap (cellJ p q)
theorem mem_cellJ {p q : Q} {n : Nat} {e : E} : e ∈ cellJ p q n ↔ (edgesQ p)[n / 3]? = some e ∧ (edgesQ q)[n % 3]? = some e := by
  unfold cellJ
  cases h1 : (edgesQ p)[n / 3]? with
  | none => simp
  | some a =>
    cases h2 : (edgesQ q)[n % 3]? with
    | none => simp
    | some b =>
      by_cases hab : a = b
      · subst hab; simp; exact eq_comm
      · simp only [if_neg hab, List.not_mem_nil, false_iff, Option.some.injEq, not_and]
        intro h h'; exact hab (h.trans h'.symm)
theorem pairJ_mem {p q : Q} {e : E} : e ∈ pairJ p q 9 ↔ e ∈ edgesQ p ∧ e ∈ edgesQ q := by
  unfold pairJ
  rw [List.mem_flatMap]
  constructor
  · rintro ⟨n, _, hn⟩
    obtain ⟨h1, h2⟩ := mem_cellJ.1 hn
    exact ⟨List.mem_of_getElem? h1, List.mem_of_getElem? h2⟩
  · rintro ⟨h1, h2⟩
    obtain ⟨a, ha, rfl⟩ := List.getElem_of_mem h1
    obtain ⟨b, hb, hb'⟩ := List.getElem_of_mem h2
    rw [edgesQ_length] at ha hb
    refine ⟨3 * a + b, List.mem_range.2 (by omega), mem_cellJ.2 ⟨?_, ?_⟩⟩
    · rw [show (3 * a + b) / 3 = a by omega]; exact List.getElem?_eq_getElem _
    · rw [show (3 * a + b) % 3 = b by omega, ← hb']; exact List.getElem?_eq_getElem _
theorem nodup_flat {α β : Type} {l : List α} {f : α → List β} (hn : l.Nodup) (h1 : ∀ a ∈ l, (f a).Nodup) (h2 : ∀ a ∈ l, ∀ b ∈ l, a ≠ b → ∀ x ∈ f a, x ∉ f b) : (l.flatMap f).Nodup := by
  unfold List.Nodup
  refine List.pairwise_flatMap.2 ⟨h1, List.Pairwise.imp_of_mem ?_ hn⟩
  intro a b ha hb hab x hx y hy hxy
  subst hxy
  exact h2 a ha b hb hab x hx hy
theorem pairJ_nodup {p q : Q} (hp : inQ p) (hq : inQ q) (n : Nat) : (pairJ p q n).Nodup := by
  refine nodup_flat List.nodup_range (fun a _ => ?_) (fun a _ b _ hab x hx hx' => ?_)
  · unfold cellJ
    split
    · split <;> simp
    · exact List.nodup_nil
  · obtain ⟨h1, h2⟩ := mem_cellJ.1 hx
    obtain ⟨h3, h4⟩ := mem_cellJ.1 hx'
    obtain ⟨i1, e1⟩ := List.getElem?_eq_some_iff.1 h1
    obtain ⟨i2, e2⟩ := List.getElem?_eq_some_iff.1 h2
    obtain ⟨i3, e3⟩ := List.getElem?_eq_some_iff.1 h3
    obtain ⟨i4, e4⟩ := List.getElem?_eq_some_iff.1 h4
    have a1 := (List.getElem_inj (edgesQ_nodup hp)).1 (e1.trans e3.symm)
    have a2 := (List.getElem_inj (edgesQ_nodup hq)).1 (e2.trans e4.symm)
    omega
/-- One quarter against the first b of a shape; the first a quarters of a shape; the first k shapes; the first i rows. -/
def rowJ (p : Q) (m : List Q) (b : Nat) : List E := (m.take b).flatMap fun q => pairJ p q 9
def shpJ (l m : List Q) (a : Nat) : List E := (l.take a).flatMap fun p => rowJ p m m.length
def befJ (ls : List (List Q)) (l : List Q) (k : Nat) : List E := (ls.take k).flatMap fun m => shpJ l m l.length
def allJ (ls : List (List Q)) (i : Nat) : List E := (List.range i).flatMap fun j => befJ ls ((ls[j]?).getD []) j
theorem mem_rowJ {p : Q} {m : List Q} {e : E} : e ∈ rowJ p m m.length ↔ e ∈ edgesQ p ∧ ∃ q ∈ m, e ∈ edgesQ q := by
  unfold rowJ
  rw [List.take_length, List.mem_flatMap]
  constructor
  · rintro ⟨q, hq, he⟩
    exact ⟨(pairJ_mem.1 he).1, q, hq, (pairJ_mem.1 he).2⟩
  · rintro ⟨h, q, hq, he⟩
    exact ⟨q, hq, pairJ_mem.2 ⟨h, he⟩⟩
theorem mem_shpJ {l m : List Q} {e : E} : e ∈ shpJ l m l.length ↔ ∃ p ∈ l, e ∈ edgesQ p ∧ ∃ q ∈ m, e ∈ edgesQ q := by
  unfold shpJ
  rw [List.take_length, List.mem_flatMap]
  constructor
  · rintro ⟨p, hp, he⟩; exact ⟨p, hp, mem_rowJ.1 he⟩
  · rintro ⟨p, hp, he⟩; exact ⟨p, hp, mem_rowJ.2 he⟩
theorem mem_befJ {ls : List (List Q)} {l : List Q} {k : Nat} {e : E} : e ∈ befJ ls l k ↔ ∃ m ∈ ls.take k, ∃ p ∈ l, e ∈ edgesQ p ∧ ∃ q ∈ m, e ∈ edgesQ q := by
  unfold befJ
  rw [List.mem_flatMap]
  constructor
  · rintro ⟨p, hp, he⟩; exact ⟨p, hp, mem_shpJ.1 he⟩
  · rintro ⟨p, hp, he⟩; exact ⟨p, hp, mem_shpJ.2 he⟩
/-- Two shapes with a quarter of each on the edge. -/
def linkJ (ls : List (List Q)) (e : E) : Prop := ∃ (i k : Nat) (l m : List Q), k < i ∧ ls[i]? = some l ∧ ls[k]? = some m ∧ ∃ p ∈ l, e ∈ edgesQ p ∧ ∃ q ∈ m, e ∈ edgesQ q
theorem mem_allJ {ls : List (List Q)} {e : E} : e ∈ allJ ls ls.length ↔ linkJ ls e := by
  unfold allJ linkJ
  rw [List.mem_flatMap]
  constructor
  · rintro ⟨i, hi, he⟩
    rw [List.mem_range] at hi
    rw [List.getElem?_eq_getElem hi, Option.getD_some] at he
    obtain ⟨m, hm, h⟩ := mem_befJ.1 he
    obtain ⟨k, hk, rfl⟩ := List.getElem_of_mem hm
    rw [List.length_take] at hk
    rw [List.getElem_take] at h
    exact ⟨i, k, _, _, by omega, List.getElem?_eq_getElem hi, List.getElem?_eq_getElem (by omega), h⟩
  · rintro ⟨i, k, l, m, hk, hi, hm, h⟩
    obtain ⟨hi', rfl⟩ := List.getElem?_eq_some_iff.1 hi
    obtain ⟨hk', rfl⟩ := List.getElem?_eq_some_iff.1 hm
    refine ⟨i, List.mem_range.2 hi', ?_⟩
    rw [hi, Option.getD_some]
    refine mem_befJ.2 ⟨_, ?_, h⟩
    exact List.mem_of_getElem? (i := k) (by rw [List.getElem?_take, if_pos hk, hm])
theorem flat_at {α : Type} {ls : List (List α)} (hn : ls.flatten.Nodup) : ∀ {i k : Nat} {l m : List α} {q : α}, ls[i]? = some l → ls[k]? = some m → q ∈ l → q ∈ m → i = k := by
  unfold List.Nodup at hn
  rw [List.pairwise_flatten] at hn
  intro i k l m q hi hk hl hm
  obtain ⟨hi', rfl⟩ := List.getElem?_eq_some_iff.1 hi
  obtain ⟨hk', rfl⟩ := List.getElem?_eq_some_iff.1 hk
  rcases Nat.lt_trichotomy i k with h | h | h
  · exact absurd rfl (List.pairwise_iff_getElem.1 hn.2 i k hi' hk' h _ hl _ hm)
  · exact h
  · exact absurd rfl (List.pairwise_iff_getElem.1 hn.2 k i hk' hi' h _ hm _ hl)
theorem mem_flat {α : Type} {ls : List (List α)} {i : Nat} {l : List α} {q : α} (h : ls[i]? = some l) (hq : q ∈ l) : q ∈ ls.flatten := List.mem_flatten.2 ⟨l, List.mem_of_getElem? h, hq⟩
theorem part_nodup {α : Type} {ls : List (List α)} (hn : ls.flatten.Nodup) {i : Nat} {l : List α} (h : ls[i]? = some l) : l.Nodup := (List.pairwise_flatten.1 hn).1 l (List.mem_of_getElem? h)
theorem allJ_nodup {ls : List (List Q)} (hn : ls.flatten.Nodup) (hq : ∀ q ∈ ls.flatten, inQ q) : (allJ ls ls.length).Nodup := by
  have third : ∀ {i j k : Nat} {a b c : List Q} {p q r : Q} {e : E}, ls[i]? = some a → ls[j]? = some b → ls[k]? = some c → p ∈ a → q ∈ b → r ∈ c → e ∈ edgesQ p → e ∈ edgesQ q → e ∈ edgesQ r → p ≠ q → r = p ∨ r = q :=
    fun ha hb hc hp hq' hr h1 h2 h3 hne => edge_third (hq _ (mem_flat ha hp)) (hq _ (mem_flat hb hq')) (hq _ (mem_flat hc hr)) h1 h2 h3 hne
  have diff : ∀ {i j : Nat} {a b : List Q} {p q : Q}, ls[i]? = some a → ls[j]? = some b → p ∈ a → q ∈ b → i ≠ j → p ≠ q :=
    fun ha hb hp hq' hne h => by subst h; exact hne (flat_at hn ha hb hp hq')
  unfold allJ
  refine nodup_flat List.nodup_range (fun i hi => ?_) (fun i hi i' hi' hne e he he' => ?_)
  · rw [List.mem_range] at hi
    have gi := List.getElem?_eq_getElem hi
    rw [gi, Option.getD_some]
    unfold befJ
    rw [show (ls.take i).flatMap (fun m => shpJ ls[i] m ls[i].length) = (List.range i).flatMap (fun k => shpJ ls[i] ((ls[k]?).getD []) ls[i].length) from ?_]
    · refine nodup_flat List.nodup_range (fun k hk => ?_) (fun k hk k' hk' hne e he he' => ?_)
      · rw [List.mem_range] at hk
        have gk : ls[k]? = some (ls[k]'(by omega)) := List.getElem?_eq_getElem _
        rw [gk, Option.getD_some]
        unfold shpJ
        rw [List.take_length]
        refine nodup_flat (part_nodup hn gi) (fun p hp => ?_) (fun p hp p' hp' hne e he he' => ?_)
        · unfold rowJ
          rw [List.take_length]
          refine nodup_flat (part_nodup hn gk) (fun q hq' => ?_) (fun q hq1 q' hq2 hne e he he' => ?_)
          · exact pairJ_nodup (hq _ (mem_flat gi hp)) (hq _ (mem_flat gk hq')) 9
          · have h1 := pairJ_mem.1 he
            have h2 := pairJ_mem.1 he'
            rcases third gk gk gi hq1 hq2 hp h1.2 h2.2 h1.1 hne with h | h
            · exact diff gi gk hp hq1 (by omega) h
            · exact diff gi gk hp hq2 (by omega) h
        · obtain ⟨h1, q, hq1, hqe⟩ := mem_rowJ.1 he
          obtain ⟨h2, _⟩ := mem_rowJ.1 he'
          rcases third gi gi gk hp hp' hq1 h1 h2 hqe hne with h | h
          · exact diff gk gi hq1 hp (by omega) h
          · exact diff gk gi hq1 hp' (by omega) h
      · rw [List.mem_range] at hk hk'
        have gk : ls[k]? = some (ls[k]'(by omega)) := List.getElem?_eq_getElem _
        have gk' : ls[k']? = some (ls[k']'(by omega)) := List.getElem?_eq_getElem _
        rw [gk, Option.getD_some] at he
        rw [gk', Option.getD_some] at he'
        obtain ⟨p, hp, h1, q, hq1, h2⟩ := mem_shpJ.1 he
        obtain ⟨p', hp', h3, q', hq2, h4⟩ := mem_shpJ.1 he'
        rcases third gk gk' gi hq1 hq2 hp h2 h4 h1 (diff gk gk' hq1 hq2 hne) with h | h
        · exact diff gi gk hp hq1 (by omega) h
        · exact diff gi gk' hp hq2 (by omega) h
    · have ht : ls.take i = (List.range i).map fun k => (ls[k]?).getD [] := by
        refine List.ext_getElem (by rw [List.length_take, List.length_map, List.length_range]; omega) (fun n h1 h2 => ?_)
        rw [List.length_take] at h1
        rw [List.getElem_take, List.getElem_map, List.getElem_range, List.getElem?_eq_getElem (by omega), Option.getD_some]
      rw [ht, List.flatMap_map]
  · rw [List.mem_range] at hi hi'
    have gi := List.getElem?_eq_getElem hi
    have gi' := List.getElem?_eq_getElem hi'
    rw [gi, Option.getD_some] at he
    rw [gi', Option.getD_some] at he'
    obtain ⟨m, hm, p, hp, h1, q, hq1, h2⟩ := mem_befJ.1 he
    obtain ⟨m', hm', p', hp', h3, q', hq2, h4⟩ := mem_befJ.1 he'
    obtain ⟨k, hk, rfl⟩ := List.getElem_of_mem hm
    obtain ⟨k', hk', rfl⟩ := List.getElem_of_mem hm'
    rw [List.length_take] at hk hk'
    rw [List.getElem_take] at hq1 hq2
    have gk : ls[k]? = some (ls[k]'(by omega)) := List.getElem?_eq_getElem _
    have gk' : ls[k']? = some (ls[k']'(by omega)) := List.getElem?_eq_getElem _
    have hpp := diff gi gi' hp hp' hne
    rcases third gi gi' gk hp hp' hq1 h1 h3 h2 hpp with h | h
    · exact diff gk gi hq1 hp (by omega) h
    · have e1 := flat_at hn gk gi' hq1 (h ▸ hp')
      rcases third gi gi' gk' hp hp' hq2 h1 h3 h4 hpp with h | h
      · have e2 := flat_at hn gk' gi hq2 (h ▸ hp)
        omega
      · exact diff gk' gi' hq2 hp' (by omega) h
theorem shapesFrom_mem : ∀ {ls : List (List Q)} {i n : Nat} {q : Q}, (q, n) ∈ shapesFrom i ls → ∃ l, i ≤ n ∧ ls[n - i]? = some l ∧ q ∈ l
  | [], _, _, _, h => by simp [shapesFrom] at h
  | a :: ls, i, n, q, h => by
    simp only [shapesFrom, List.mem_append, List.mem_map, Prod.mk.injEq] at h
    rcases h with ⟨p, hp, rfl, rfl⟩ | h
    · exact ⟨a, Nat.le_refl _, by simp, hp⟩
    · obtain ⟨l, h1, h2, h3⟩ := shapesFrom_mem h
      exact ⟨l, by omega, by rw [show n - i = (n - (i + 1)) + 1 by omega, List.getElem?_cons_succ]; exact h2, h3⟩
theorem shape_of {ls : List (List Q)} (hn : ls.flatten.Nodup) {i : Nat} {l : List Q} {q : Q} (h : ls[i]? = some l) (hq : q ∈ l) : shapeAt (shapesFrom 0 ls) q = i := by
  have := shapeAt_mem (S := shapesFrom 0 ls) (q := q) (by rw [shapesFrom_keys]; exact mem_flat h hq)
  obtain ⟨m, _, h1, h2⟩ := shapesFrom_mem this
  exact (flat_at hn h h1 hq h2).symm
theorem link_iff {ls : List (List Q)} (hn : ls.flatten.Nodup) (hq : ∀ q ∈ ls.flatten, inQ q) (e : E) : linkJ ls e ↔ jointP (shapesFrom 0 ls) (whoE ls.flatten e) = true := by
  have hnd : (whoE ls.flatten e).Nodup := hn.sublist List.filter_sublist
  constructor
  · rintro ⟨i, k, l, m, hk, hi, hm, p, hp, h1, q, hq1, h2⟩
    have hne : p ≠ q := fun h => by subst h; have := flat_at hn hi hm hp hq1; omega
    have mp : p ∈ whoE ls.flatten e := List.mem_filter.2 ⟨mem_flat hi hp, by simpa using h1⟩
    have mq : q ∈ whoE ls.flatten e := List.mem_filter.2 ⟨mem_flat hm hq1, by simpa using h2⟩
    have hall : ∀ r ∈ whoE ls.flatten e, r = p ∨ r = q := fun r hr => by
      obtain ⟨r1, r2⟩ := List.mem_filter.1 hr
      exact edge_third (hq _ (mem_flat hi hp)) (hq _ (mem_flat hm hq1)) (hq _ r1) h1 h2 (by simpa using r2) hne
    have sp := shape_of hn hi hp
    have sq := shape_of hn hm hq1
    generalize whoE ls.flatten e = W at hnd mp mq hall
    rcases W with _ | ⟨a, _ | ⟨b, _ | ⟨c, t⟩⟩⟩
    · cases mp
    · rw [List.mem_singleton] at mp mq; exact absurd (mp.trans mq.symm) hne
    · have hab : a ≠ b := by simp at hnd; exact hnd
      rcases hall a (by simp) with rfl | rfl <;> rcases hall b (by simp) with rfl | rfl
      · exact absurd rfl hab
      · simp only [jointP, sp, sq, bne_iff_ne]; omega
      · simp only [jointP, sp, sq, bne_iff_ne]; omega
      · exact absurd rfl hab
    · simp only [List.nodup_cons, List.mem_cons, not_or] at hnd
      rcases hall a (by simp) with ha | ha <;> rcases hall b (by simp) with hb | hb <;> rcases hall c (by simp) with hc | hc <;> (exfalso; subst_vars; simp_all)
  · intro h
    have hmem : ∀ r ∈ whoE ls.flatten e, r ∈ ls.flatten ∧ e ∈ edgesQ r := fun r hr => by
      obtain ⟨r1, r2⟩ := List.mem_filter.1 hr
      exact ⟨r1, by simpa using r2⟩
    generalize whoE ls.flatten e = W at h hmem
    rcases W with _ | ⟨a, _ | ⟨b, _ | ⟨c, t⟩⟩⟩
    · cases h
    · cases h
    · simp only [jointP, bne_iff_ne] at h
      obtain ⟨a1, a2⟩ := hmem a (by simp)
      obtain ⟨b1, b2⟩ := hmem b (by simp)
      obtain ⟨l, hl, hal⟩ := List.mem_flatten.1 a1
      obtain ⟨m, hm, hbm⟩ := List.mem_flatten.1 b1
      obtain ⟨i, hi, rfl⟩ := List.getElem_of_mem hl
      obtain ⟨k, hk, rfl⟩ := List.getElem_of_mem hm
      have gi := List.getElem?_eq_getElem hi
      have gk := List.getElem?_eq_getElem hk
      rw [shape_of hn gi hal, shape_of hn gk hbm] at h
      rcases Nat.lt_or_gt_of_ne h with h | h
      · exact ⟨k, i, _, _, h, gk, gi, b, hbm, b2, a, hal, a2⟩
      · exact ⟨i, k, _, _, h, gi, gk, a, hal, a2, b, hbm, b2⟩
    · cases h
/-- The steps of the loops. -/
theorem pairJ_step (p q : Q) (n : Nat) : pairJ p q (n + 1) = pairJ p q n ++ cellJ p q n := by
  unfold pairJ; rw [List.range_succ, List.flatMap_append]; simp
theorem rowJ_step {p : Q} {m : List Q} {b : Nat} {q : Q} (h : m[b]? = some q) : rowJ p m (b + 1) = rowJ p m b ++ pairJ p q 9 := by
  unfold rowJ; rw [take_snocG h, List.flatMap_append]; simp
theorem shpJ_step {l m : List Q} {a : Nat} {p : Q} (h : l[a]? = some p) : shpJ l m (a + 1) = shpJ l m a ++ rowJ p m m.length := by
  unfold shpJ; rw [take_snocG h, List.flatMap_append]; simp
theorem befJ_step {ls : List (List Q)} {l m : List Q} {k : Nat} (h : ls[k]? = some m) : befJ ls l (k + 1) = befJ ls l k ++ shpJ l m l.length := by
  unfold befJ; rw [take_snocG h, List.flatMap_append]; simp
theorem allJ_step {ls : List (List Q)} {i : Nat} {l : List Q} (h : ls[i]? = some l) : allJ ls (i + 1) = allJ ls i ++ befJ ls l i := by
  unfold allJ; rw [List.range_succ, List.flatMap_append]; simp [h]
/-- How many there can be. -/
theorem nodup_le {α : Type} [DecidableEq α] : ∀ {l m : List α}, l.Nodup → (∀ x ∈ l, x ∈ m) → l.length ≤ m.length
  | [], m, _, _ => Nat.zero_le _
  | a :: l, m, h, hs => by
    rw [List.nodup_cons] at h
    have ha : a ∈ m := hs a (by simp)
    have := nodup_le (l := l) (m := m.erase a) h.2 (fun x hx => (List.mem_erase_of_ne (fun e => h.1 (by rw [← e]; exact hx))).2 (hs x (by simp [hx])))
    rw [List.length_erase_of_mem ha] at this
    have hpos := List.length_pos_of_mem ha
    simp only [List.length_cons]; omega
theorem allJ_length {ls : List (List Q)} (hn : ls.flatten.Nodup) (hq : ∀ q ∈ ls.flatten, inQ q) : (allJ ls ls.length).length ≤ 3 * ls.flatten.length := by
  have h := nodup_le (m := ls.flatten.flatMap edgesQ) (allJ_nodup hn hq) (fun e he => by
    obtain ⟨i, k, l, m, _, hi, _, p, hp, h1, _⟩ := mem_allJ.1 he
    exact List.mem_flatMap.2 ⟨p, mem_flat hi hp, h1⟩)
  rw [List.length_flatMap] at h
  refine Nat.le_trans h ?_
  generalize ls.flatten = f
  clear h hn hq
  induction f with
  | nil => simp
  | cons a f ih => simp only [List.map_cons, List.sum_cons, List.length_cons, edgesQ_length] at ih ⊢; omega
theorem allJ_prefix {ls : List (List Q)} {i j : Nat} (h : i ≤ j) : (allJ ls i).length ≤ (allJ ls j).length := by
  induction j with
  | zero => rw [Nat.le_zero.1 h]; exact Nat.le_refl _
  | succ j ih =>
    rcases Nat.eq_or_lt_of_le h with rfl | h
    · exact Nat.le_refl _
    · refine Nat.le_trans (ih (by omega)) ?_
      unfold allJ
      rw [List.range_succ, List.flatMap_append, List.length_append]; omega
theorem flatMap_take_le {α β : Type} (f : α → List β) (l : List α) (n : Nat) : ((l.take n).flatMap f).length ≤ (l.flatMap f).length := by
  conv => rhs; rw [← List.take_append_drop n l, List.flatMap_append, List.length_append]
  omega
theorem partJ_length {ls : List (List Q)} (hn : ls.flatten.Nodup) (hq : ∀ q ∈ ls.flatten, inQ q) {i k a b n : Nat} {l m : List Q} {p q : Q} (hi : ls[i]? = some l) (hk : ls[k]? = some m) (hki : k < i) (ha : l[a]? = some p) (hb : m[b]? = some q) (hn9 : n ≤ 9) :
    (allJ ls i ++ (befJ ls l k ++ (shpJ l m a ++ (rowJ p m b ++ pairJ p q n)))).length ≤ 3 * ls.flatten.length := by
  refine Nat.le_trans ?_ (Nat.le_trans (allJ_prefix (ls := ls) (i := i + 1) (j := ls.length) (List.getElem?_eq_some_iff.1 hi).1) (allJ_length hn hq))
  have h1 : (pairJ p q n).length ≤ (pairJ p q 9).length := by
    unfold pairJ
    rw [show List.range n = (List.range 9).take n from by rw [List.take_range, Nat.min_eq_left hn9]]
    exact flatMap_take_le _ _ _
  have h2 : (rowJ p m (b + 1)).length ≤ (rowJ p m m.length).length := by
    unfold rowJ; rw [List.take_length]; exact flatMap_take_le _ _ _
  have h3 : (shpJ l m (a + 1)).length ≤ (shpJ l m l.length).length := by
    unfold shpJ; rw [List.take_length]; exact flatMap_take_le _ _ _
  have h4 : (befJ ls l (k + 1)).length ≤ (befJ ls l i).length := by
    unfold befJ
    rw [show ls.take (k + 1) = (ls.take i).take (k + 1) from by rw [List.take_take, Nat.min_eq_left (by omega)]]
    exact flatMap_take_le _ _ _
  rw [allJ_step hi]
  rw [rowJ_step hb] at h2
  rw [shpJ_step ha] at h3
  rw [befJ_step hk] at h4
  simp only [List.length_append] at *
  omega
/-- No quarter of a shape is in an earlier one: so all are different. -/
theorem flat_nodup {α : Type} {ls : List (List α)} (h1 : ∀ l ∈ ls, l.Nodup) (h2 : ∀ (i k : Nat) (l m : List α), k < i → ls[i]? = some l → ls[k]? = some m → ∀ q ∈ l, q ∉ m) : ls.flatten.Nodup := by
  refine List.pairwise_flatten.2 ⟨h1, List.pairwise_iff_getElem.2 fun i j hi hj hij a ha b hb hab => ?_⟩
  subst hab
  exact h2 j i _ _ hij (List.getElem?_eq_getElem hj) (List.getElem?_eq_getElem hi) a hb ha
end Go.Proofs.YtimnmfjbfbkooaaGreatDoor

/- Two arrays of edges that are made and filled in any order. -/
namespace Go.Proofs.YtimnmfjbfbkooaaGreatDoor
set_option linter.all false
set_option linter.unusedSimpArgs false
set_option linter.unusedVariables false
open Go.RowKit
attribute [local go_sem] Oper.semAt_some

section
variable {P : Program} {ops : Array Oper}
/-- Two arrays, made by the operations a1 and a2, filled by s1 and s2. -/
structure TwoJ (W1 : World) (T : TypeId) (x y z : Array Value) (a1 a2 s1 s2 : Nat) (c : Nat → Option Value) (L : Nat → Bool) (vals : Nat → Value) (W : World) : Prop where
  below : Below W1.heap.size W1 W
  pure_ : ∀ i v, c i = some v → L i = true → vals i = v
  one : L a1 = true → ∃ g, vals a1 = .pointer (some ⟨g, 0, none⟩) ∧ W1.heap.size ≤ g ∧ W.heap[g]? = some (.cells (if L s1 = true then x else z) T (0, 0))
  two : L a2 = true → ∃ g, vals a2 = .pointer (some ⟨g, 0, none⟩) ∧ W1.heap.size ≤ g ∧ W.heap[g]? = some (.cells (if L s2 = true then y else z) T (0, 0))
  ne : L a1 = true → L a2 = true → vals a1 ≠ vals a2
variable {W1 W W' : World} {T : TypeId} {x y z : Array Value} {a1 a2 s1 s2 : Nat} {c : Nat → Option Value} {L : Nat → Bool} {vals : Nat → Value}
theorem TwoJ.other (h : TwoJ W1 T x y z a1 a2 s1 s2 c L vals W) {i : Nat} {v : Value} (hi : i ≠ a1 ∧ i ≠ a2 ∧ i ≠ s1 ∧ i ≠ s2) (hv : c i = some v) (hB : Below W.heap.size W W') :
    TwoJ W1 T x y z a1 a2 s1 s2 c (fun j => L j || j == i) (fun j => if j = i then v else vals j) W' := by
  obtain ⟨n1, n2, n3, n4⟩ := hi
  have q1 := or_ne (L := L) (Ne.symm n1)
  have q2 := or_ne (L := L) (Ne.symm n2)
  have q3 := or_ne (L := L) (Ne.symm n3)
  have q4 := or_ne (L := L) (Ne.symm n4)
  refine ⟨h.below.trans (hB.mono h.below.size), fun j u hj hl => ?_, ?_, ?_, ?_⟩
  · by_cases e : j = i
    · subst e; rw [if_pos rfl]; rw [hv] at hj; exact Option.some.inj hj
    · rw [if_neg e]; exact h.pure_ j u hj (by simpa [e] using hl)
  · simp only [q1, q3, if_neg (Ne.symm n1)]
    intro hl
    obtain ⟨g, e1, e2, e3⟩ := h.one hl
    exact ⟨g, e1, e2, (hB.block _ (Array.getElem?_eq_some_iff.1 e3).1).trans e3⟩
  · simp only [q2, q4, if_neg (Ne.symm n2)]
    intro hl
    obtain ⟨g, e1, e2, e3⟩ := h.two hl
    exact ⟨g, e1, e2, (hB.block _ (Array.getElem?_eq_some_iff.1 e3).1).trans e3⟩
  · simp only [q1, q2, if_neg (Ne.symm n1), if_neg (Ne.symm n2)]
    exact h.ne
theorem TwoJ.alloc1 (h : TwoJ W1 T x y z a1 a2 s1 s2 c L vals W) (hd : a1 ≠ a2 ∧ a1 ≠ s1 ∧ a1 ≠ s2) (hc : c a1 = none) (hs : L s1 = false) :
    TwoJ W1 T x y z a1 a2 s1 s2 c (fun j => L j || j == a1) (fun j => if j = a1 then .pointer (some ⟨W.heap.size, 0, none⟩) else vals j) (W.alloc (.cells z T)) := by
  obtain ⟨n2, n3, n4⟩ := hd
  have q2 := or_ne (L := L) (Ne.symm n2)
  have q3 := or_ne (L := L) (Ne.symm n3)
  have q4 := or_ne (L := L) (Ne.symm n4)
  have hB : Below W.heap.size W (W.alloc (.cells z T)) := (Below.refl _ W).alloc (Nat.le_refl _) _
  refine ⟨h.below.trans (hB.mono h.below.size), fun j u hj hl => ?_, fun _ => ?_, ?_, ?_⟩
  · by_cases e : j = a1
    · subst e; rw [hc] at hj; cases hj
    · rw [if_neg e]; exact h.pure_ j u hj (by simpa [e] using hl)
  · have e : (L s1 || s1 == a1) = false := q3.trans hs
    simp only [e, if_true, Bool.false_eq_true, if_false]
    exact ⟨_, rfl, h.below.size, World.alloc_heap_new W _⟩
  · simp only [q2, q4, if_neg (Ne.symm n2)]
    intro hl
    obtain ⟨g, e1, e2, e3⟩ := h.two hl
    exact ⟨g, e1, e2, (hB.block _ (Array.getElem?_eq_some_iff.1 e3).1).trans e3⟩
  · simp only [q2, if_true, if_neg (Ne.symm n2)]
    intro _ hl e
    obtain ⟨g, e1, e2, e3⟩ := h.two hl
    have := (Array.getElem?_eq_some_iff.1 e3).1
    rw [e1] at e
    simp only [Value.pointer.injEq, Option.some.injEq, Addr.mk.injEq, and_true] at e
    omega
theorem TwoJ.alloc2 (h : TwoJ W1 T x y z a1 a2 s1 s2 c L vals W) (hd : a1 ≠ a2 ∧ a2 ≠ s1 ∧ a2 ≠ s2) (hc : c a2 = none) (hs : L s2 = false) :
    TwoJ W1 T x y z a1 a2 s1 s2 c (fun j => L j || j == a2) (fun j => if j = a2 then .pointer (some ⟨W.heap.size, 0, none⟩) else vals j) (W.alloc (.cells z T)) := by
  obtain ⟨n2, n3, n4⟩ := hd
  have q2 := or_ne (L := L) n2
  have q3 := or_ne (L := L) (Ne.symm n3)
  have q4 := or_ne (L := L) (Ne.symm n4)
  have hB : Below W.heap.size W (W.alloc (.cells z T)) := (Below.refl _ W).alloc (Nat.le_refl _) _
  refine ⟨h.below.trans (hB.mono h.below.size), fun j u hj hl => ?_, ?_, fun _ => ?_, ?_⟩
  · by_cases e : j = a2
    · subst e; rw [hc] at hj; cases hj
    · rw [if_neg e]; exact h.pure_ j u hj (by simpa [e] using hl)
  · simp only [q2, q3, if_neg n2]
    intro hl
    obtain ⟨g, e1, e2, e3⟩ := h.one hl
    exact ⟨g, e1, e2, (hB.block _ (Array.getElem?_eq_some_iff.1 e3).1).trans e3⟩
  · have e : (L s2 || s2 == a2) = false := q4.trans hs
    simp only [e, if_true, Bool.false_eq_true, if_false]
    exact ⟨_, rfl, h.below.size, World.alloc_heap_new W _⟩
  · simp only [q2, if_true, if_neg n2]
    intro hl _ e
    obtain ⟨g, e1, e2, e3⟩ := h.one hl
    have := (Array.getElem?_eq_some_iff.1 e3).1
    rw [e1] at e
    simp only [Value.pointer.injEq, Option.some.injEq, Addr.mk.injEq, and_true] at e
    omega
theorem TwoJ.store1 (h : TwoJ W1 T x y z a1 a2 s1 s2 c L vals W) (hd : a1 ≠ s1 ∧ a2 ≠ s1 ∧ s1 ≠ s2) (hc : c s1 = none) (h1 : L a1 = true) (hs : L s1 = false) :
    ∃ g, vals a1 = .pointer (some ⟨g, 0, none⟩) ∧ W.heap[g]? = some (.cells z T (0, 0)) ∧ TwoJ W1 T x y z a1 a2 s1 s2 c (fun j => L j || j == s1) (fun j => if j = s1 then undef else vals j) (W.setRow g x) := by
  obtain ⟨n2, n3, n4⟩ := hd
  have q1 := or_ne (L := L) n2
  have q2 := or_ne (L := L) n3
  have q4 := or_ne (L := L) (Ne.symm n4)
  obtain ⟨g, e1, e2, e3⟩ := h.one h1
  have e3' := e3
  rw [hs, if_neg (by decide)] at e3
  refine ⟨g, e1, e3, setRow_below h.below e2 _, fun j u hj hl => ?_, fun _ => ?_, ?_, ?_⟩
  · by_cases e : j = s1
    · subst e; rw [hc] at hj; cases hj
    · rw [if_neg e]; exact h.pure_ j u hj (by simpa [e] using hl)
  · simp only [if_neg n2, beq_self_eq_true, Bool.or_true, if_true]
    exact ⟨g, e1, e2, setRow_heap _ _ _ _ _ _ e3⟩
  · simp only [q2, q4, if_neg n3]
    intro hl
    obtain ⟨k, f1, f2, f3⟩ := h.two hl
    have hne := h.ne h1 hl
    rw [e1, f1] at hne
    refine ⟨k, f1, f2, (setRow_other _ _ _ _ (fun e => hne (by rw [e]))).trans f3⟩
  · simp only [q1, q2, if_neg n2, if_neg n3]
    exact h.ne
theorem TwoJ.store2 (h : TwoJ W1 T x y z a1 a2 s1 s2 c L vals W) (hd : a1 ≠ s2 ∧ a2 ≠ s2 ∧ s1 ≠ s2) (hc : c s2 = none) (h2 : L a2 = true) (hs : L s2 = false) :
    ∃ g, vals a2 = .pointer (some ⟨g, 0, none⟩) ∧ W.heap[g]? = some (.cells z T (0, 0)) ∧ TwoJ W1 T x y z a1 a2 s1 s2 c (fun j => L j || j == s2) (fun j => if j = s2 then undef else vals j) (W.setRow g y) := by
  obtain ⟨n2, n3, n4⟩ := hd
  have q1 := or_ne (L := L) n2
  have q2 := or_ne (L := L) n3
  have q4 := or_ne (L := L) n4
  obtain ⟨g, e1, e2, e3⟩ := h.two h2
  have e3' := e3
  rw [hs, if_neg (by decide)] at e3
  refine ⟨g, e1, e3, setRow_below h.below e2 _, fun j u hj hl => ?_, ?_, fun _ => ?_, ?_⟩
  · by_cases e : j = s2
    · subst e; rw [hc] at hj; cases hj
    · rw [if_neg e]; exact h.pure_ j u hj (by simpa [e] using hl)
  · simp only [q1, q4, if_neg n2]
    intro hl
    obtain ⟨k, f1, f2, f3⟩ := h.one hl
    have hne := h.ne hl h2
    rw [e1, f1] at hne
    refine ⟨k, f1, f2, (setRow_other _ _ _ _ (fun e => hne (by rw [e]))).trans f3⟩
  · simp only [if_neg n3, beq_self_eq_true, Bool.or_true, if_true]
    exact ⟨g, e1, e2, setRow_heap _ _ _ _ _ _ e3⟩
  · simp only [q1, q2, if_neg n2, if_neg n3]
    exact h.ne
theorem run_alloc_exec {o : Oper} {T : TypeId} {b : Act} {W : World} {v : Value} {next : Value → World → Prop} (ho : o.op = .alloc T) (hz : (zeroValue T).run P W = .ok v W)
    (hn : next (.pointer (some ⟨W.heap.size, 0, none⟩)) (W.alloc (.cells v.cells T))) : loudUpon P next ((execOp b.eval o).run P W) := by
  refine lu_value (v := .pointer (some ⟨W.heap.size, 0, none⟩)) (W' := W.alloc (.cells v.cells T)) ?_ hn
  unfold execOp
  simp [ho, Instr.alloc, Sem.run_bind, hz, newVar, newRow, Result.andThen]
theorem run_store_exec {o : Oper} {T t : TypeId} {p u : Operand} {b : Act} {W : World} {g : Nat} {old cells : Array Value} {next : Value → World → Prop} (ho : o.op = .store T p u) (hp : b.eval p = .pointer (some ⟨g, 0, none⟩)) (hu : b.eval u = .agg cells)
    (hg : W.heap[g]? = some (.cells old t (0, 0))) (hi : (P.info? T).map (·.size) = some cells.size) (hold : old.size = cells.size) (h1 : cells.all (·.oneCell') = true)
    (hn : next undef (W.setRow g cells)) : loudUpon P next ((execOp b.eval o).run P W) := by
  refine lu_skip (W' := W.setRow g cells) ?_ hn
  unfold execOp
  simp only [ho, hp, hu, Instr.storeAt, Instr.sureAddr, Sem.run_bind, Sem.run_pure, Result.andThen_ok, run_storeVar_row W g t T old cells hg hi hold h1]
end
def nine (a0 b0 c0 a1 b1 c1 a2 b2 c2 : Int) : Array Value := #[.int .i64 a0, .int .i64 b0, .int .i64 c0, .int .i64 a1, .int .i64 b1, .int .i64 c1, .int .i64 a2, .int .i64 b2, .int .i64 c2]
theorem nine_one (a0 b0 c0 a1 b1 c1 a2 b2 c2 : Int) : (nine a0 b0 c0 a1 b1 c1 a2 b2 c2).all (fun x => x.oneCell') = true := by simp [nine, Value.oneCell']
theorem zeroE3 (W : World) : (zeroValue 101).run Tryz.prog W = .ok (.agg (nine 0 0 0 0 0 0 0 0 0)) W := by kernel_rfl
theorem infoE3 : (Tryz.prog.info? 101).map (·.size) = some 9 := by kernel_rfl
end Go.Proofs.YtimnmfjbfbkooaaGreatDoor

/- The law's all: copies of shapes. -/
namespace Go.Proofs.YtimnmfjbfbkooaaGreatDoor
set_option linter.all false
set_option linter.unusedSimpArgs false
set_option linter.unusedVariables false
open Go.RowKit
attribute [local go_sem] Oper.semAt_some

set_option maxRecDepth 100000 in
set_option maxHeartbeats 4000000 in
theorem all_law (ls : List (List Q)) (v : Value) (w : World) (hv : HasQQ w v ls) (hlen : ls.length ≤ 1000) (hq : ∀ l ∈ ls, l.length ≤ 410) :
    Calls Tryz.prog 23 #[v] w fun e w' => ∃ u vs, e = .returned u ∧ OwnQQ w' w.heap.size u vs ls ∧ Below w.heap.size w w' := by
  obtain ⟨sp, sc, rfl⟩ := hv.slice
  have HV := Lib.hid hv; clear hv
  have HQ := Lib.hid hq; clear hq
  have hal : Below w.heap.size w (w.alloc (.cells #[] 22)) := (Below.refl _ w).alloc (Nat.le_refl _) _
  have H0 : Hid (Below w.heap.size w (w.alloc (.cells #[] 22)) ∧ OwnQQ (w.alloc (.cells #[] 22)) w.heap.size (.slice (some ⟨w.heap.size, 0, none⟩) 0 0) [] []) := Lib.hid ⟨hal, ⟨⟨rfl, .inr ⟨w.heap.size, 0, #[], rfl, Nat.le_refl _, World.alloc_heap_new w _, Nat.le_refl _, by decide, rfl, rfl⟩⟩, rfl, fun i u m h => by simp at h⟩⟩
  clear hal
  go_enter Tryz.func23, Tryz.ntmps23
  go_wp2_with fail
  revert H0
  generalize w.alloc (.cells #[] 22) = W0
  generalize (Value.slice (some ⟨w.heap.size, 0, none⟩) 0 0) = v0
  intro H0
  go_loopw [3, 4] (fun u z wr => ∃ (k : Nat) (vs : List Value), k ≤ ls.length ∧ z = .int .i64 k ∧ Hid (Below w.heap.size w wr ∧ OwnQQ wr w.heap.size u vs (ls.take k))) (fun _ z _ => ls.length - (intOf z).toNat)
  case atStart => exact ⟨0, [], by omega, rfl, Lib.hid H0.out⟩
  case round =>
    clear H0
    obtain ⟨k, vs, hk, rfl, HR⟩ := hrel
    have hvl : vs.length = k := by rw [HR.out.2.len, List.length_take]; omega
    obtain ⟨p', c', rfl⟩ := own_slice HR.out.2.row
    rw [hvl] at HR ⊢
    have HVL := Lib.hid hvl; clear hvl
    by_cases hlt : k < ls.length
    · obtain ⟨l, hkl⟩ : ∃ l, ls[k]? = some l := ⟨_, List.getElem?_eq_getElem hlt⟩
      obtain ⟨a, x, rfl, a0, hx⟩ := (HV.out.below HR.out.1).at hkl
      obtain ⟨px, cx, rfl⟩ := hx.slice
      have HO := Lib.hid (own_law l _ wr hx (Nat.le_trans (HQ.out l (List.mem_of_getElem? hkl)) (by decide)))
      have HKL := Lib.hid hkl
      clear hx hkl
      go_wp2_with fail
      refine HO.out.mono ?_
      rintro e w3 ⟨u, rfl, hu, hb⟩
      have hsz := HR.out.1.size
      have HQ3 := Lib.hid (HR.out.2.below hb)
      have HB3 := Lib.hid (HR.out.1.trans (hb.mono hsz))
      have HU3 := Lib.hid (OwnQ.mono hu hsz)
      obtain ⟨xp, xc, rfl⟩ := own_slice hu
      clear hu hb HR a0 HO hsz
      have HROW : Hid (w3.ownsRow w.heap.size 22 1 (.slice p' k c') vs.length vs) := Lib.hid HQ3.out.row
      rw [HVL.out] at HROW
      have HM1 : Hid (k + 1 ≤ maxLen) := Lib.hid (by simp only [maxLen]; omega)
      have HM2 : Hid ((k + 1) * 24 ≤ 140737488355328) := Lib.hid (by omega)
      have hsz3 := HB3.out.size
      obtain ⟨iQ, hiQ, hzQ, hsQ, hbQ⟩ := info_parts infoQs
      go_wp2_with (first
        | (at_builtin; refine wpList_append_own _ rfl _ _ 43 rfl w.heap.size 22 iQ _ 1 24 Tryz.underlying43 hiQ hzQ hsQ hbQ rfl (by decide) (.slice p' k c') k vs rfl (HROW.out.alloc _) ⟨w3.heap.size, 0, none⟩ 1 1 [.slice xp l.length xc] rfl rfl (one_at _ _ _) (by simp [Value.oneCell']) HM1.out HM2.out (by rw [World.size_alloc]; omega) ?_; intro v' w4 hown' hgrow _; obtain ⟨p'', c'', rfl⟩ := own_slice hown'))
      have hown2 : w4.ownsRow w.heap.size 22 1 (.slice p'' (k + 1) c'') (vs.length + 1) (vs ++ [.slice xp l.length xc]) := by rw [HVL.out]; exact hown'
      have hq4 := HQ3.out.snoc HU3.out hown2 hgrow
      have hga : w3.grownBy w4 (Value.slice p' k c').ownBlock := ⟨hgrow.os, hgrow.tape, hgrow.output, Nat.le_trans (by simp) hgrow.size, fun k hk hne => (hgrow.block k (by simp; omega) hne).trans (Below.heap_alloc _ _ _ hk)⟩
      have hrow : ∀ j, (Value.slice p' k c').ownBlock = some j → w.heap.size ≤ j := fun j hj => (HROW.out.lt j hj).1
      rw [← take_snoc' HKL.out] at hq4
      have HQ4 : Hid (Below w.heap.size w w4 ∧ OwnQQ w4 w.heap.size (.slice p'' (k + 1) c'') (vs ++ [.slice xp l.length xc]) (ls.take (k + 1))) := Lib.hid ⟨HB3.out.grown hga hsz3 hrow, hq4⟩
      clear hq4 hga hrow hown2 hown' hgrow
      go_roundw
      case rel => exact ⟨k + 1, _, by omega, by go_num, HQ4⟩
      case measure => simp [intOf]; omega
    · obtain rfl : k = ls.length := by omega
      have HN : Hid (Below w.heap.size w wr ∧ OwnQQ wr w.heap.size (.slice p' ls.length c') vs ls) := Lib.hid (by have := HR.out; rwa [List.take_length] at this)
      clear HR
      go_wp2_with fail
      go_ret
      exact ⟨_, vs, rfl, HN.out.2, HN.out.1⟩
end Go.Proofs.YtimnmfjbfbkooaaGreatDoor

/- Plain maths: the pieces of a shape. -/
namespace Go.Proofs.YtimnmfjbfbkooaaGreatDoor
set_option linter.all false
set_option linter.unusedSimpArgs false
set_option linter.unusedVariables false
open Go.RowKit

/-- Two quarters have an edge in common. -/
def shareE (p q : Q) : Prop := ∃ e, e ∈ edgesQ p ∧ e ∈ edgesQ q
instance (p q : Q) : Decidable (shareE p q) := decidable_of_iff (∃ e ∈ edgesQ p, e ∈ edgesQ q) ⟨fun ⟨e, h1, h2⟩ => ⟨e, h1, h2⟩, fun ⟨e, h1, h2⟩ => ⟨e, h1, h2⟩⟩
theorem shareE_symm {p q : Q} (h : shareE p q) : shareE q p := by obtain ⟨e, h1, h2⟩ := h; exact ⟨e, h2, h1⟩
/-- Connected within a shape. -/
inductive Conn (s : List Q) : Q → Q → Prop
  | refl {p : Q} : p ∈ s → Conn s p p
  | step {p q r : Q} : Conn s p q → r ∈ s → shareE q r → Conn s p r
theorem Conn.left {s : List Q} {p q : Q} (h : Conn s p q) : p ∈ s := by
  induction h with
  | refl h => exact h
  | step _ _ _ ih => exact ih
theorem Conn.right {s : List Q} {p q : Q} (h : Conn s p q) : q ∈ s := by
  cases h with
  | refl h => exact h
  | step _ h _ => exact h
theorem Conn.trans {s : List Q} {p q r : Q} (h : Conn s p q) (h' : Conn s q r) : Conn s p r := by
  induction h' with
  | refl _ => exact h
  | step _ h2 h3 ih => exact ih.step h2 h3
theorem Conn.symm {s : List Q} {p q : Q} (h : Conn s p q) : Conn s q p := by
  induction h with
  | refl h => exact .refl h
  | step h1 h2 h3 ih => exact ((Conn.refl h2).step h1.right (shareE_symm h3)).trans ih
/-- No quarter in front of this one is connected with it. -/
def LeadQ (s : List Q) (i : Nat) (p : Q) : Prop := ∀ j q, j < i → s[j]? = some q → ¬ Conn s q p
/-- What the pieces of a shape are: behind the first i quarters. -/
structure IsPieces (s : List Q) (i : Nat) (ls : List (List Q)) : Prop where
  firsts : ∃ fs : List Nat, fs.Pairwise (· < ·) ∧ (∀ n, n ∈ fs ↔ n < i ∧ ∃ p, s[n]? = some p ∧ LeadQ s n p) ∧ ls.length = fs.length ∧
    ∀ (k n : Nat) (p : Q) (l : List Q), fs[k]? = some n → s[n]? = some p → ls[k]? = some l → l.Sublist s ∧ ∀ q, q ∈ l ↔ Conn s p q
theorem sorted_nat_eq : ∀ {l m : List Nat}, l.Pairwise (· < ·) → m.Pairwise (· < ·) → (∀ n, n ∈ l ↔ n ∈ m) → l = m
  | [], [], _, _, _ => rfl
  | [], b :: m, _, _, h => by have := (h b).2 (by simp); cases this
  | a :: l, [], _, _, h => by have := (h a).1 (by simp); cases this
  | a :: l, b :: m, hl, hm, h => by
    rw [List.pairwise_cons] at hl hm
    have hab : a = b := by
      rcases List.mem_cons.1 ((h a).1 (by simp)) with h1 | h1
      · exact h1
      · rcases List.mem_cons.1 ((h b).2 (by simp)) with h2 | h2
        · exact h2.symm
        · have := hl.1 b h2; have := hm.1 a h1; omega
    subst hab
    congr 1
    refine sorted_nat_eq hl.2 hm.2 fun n => ⟨fun hn => ?_, fun hn => ?_⟩
    · rcases List.mem_cons.1 ((h n).1 (by simp [hn])) with h1 | h1
      · have := hl.1 n hn; omega
      · exact h1
    · rcases List.mem_cons.1 ((h n).2 (by simp [hn])) with h1 | h1
      · have := hm.1 n hn; omega
      · exact h1
theorem sub_filter {α : Type} [DecidableEq α] {s l : List α} (h : l.Sublist s) : s.Nodup → l = s.filter (fun x => decide (x ∈ l)) := by
  induction h with
  | slnil => intro _; rfl
  | @cons l s a h ih =>
    intro hn
    rw [List.nodup_cons] at hn
    rw [List.filter_cons_of_neg (by simpa using fun x => hn.1 (h.subset x))]
    exact ih hn.2
  | @cons_cons l s a h ih =>
    intro hn
    rw [List.nodup_cons] at hn
    rw [List.filter_cons_of_pos (by simp)]
    congr 1
    refine (ih hn.2).trans (List.filter_congr fun x hx => ?_)
    have : x ≠ a := fun e => hn.1 (e ▸ hx)
    simp [this]
theorem sub_eq {α : Type} [DecidableEq α] {s l m : List α} (hn : s.Nodup) (hl : l.Sublist s) (hm : m.Sublist s) (h : ∀ q, q ∈ l ↔ q ∈ m) : l = m := by
  rw [sub_filter hl hn, sub_filter hm hn]
  exact List.filter_congr fun x _ => by simp only [h x]
theorem pieces_eq {s : List Q} (hn : s.Nodup) {i : Nat} {ls ms : List (List Q)} (hl : IsPieces s i ls) (hm : IsPieces s i ms) : ls = ms := by
  obtain ⟨fs, f1, f2, f3, f4⟩ := hl.firsts
  obtain ⟨gs, g1, g2, g3, g4⟩ := hm.firsts
  have e := sorted_nat_eq f1 g1 (fun n => (f2 n).trans (g2 n).symm)
  subst e
  refine List.ext_getElem (f3.trans g3.symm) fun k h1 h2 => ?_
  have hk := List.getElem?_eq_getElem (l := fs) (i := k) (by omega)
  obtain ⟨_, p, hp, _⟩ := (f2 _).1 (List.getElem_mem (l := fs) (n := k) (by omega))
  obtain ⟨a1, a2⟩ := f4 k _ p _ hk hp (List.getElem?_eq_getElem h1)
  obtain ⟨b1, b2⟩ := g4 k _ p _ hk hp (List.getElem?_eq_getElem h2)
  exact sub_eq hn a1 b1 fun q => (a2 q).trans (b2 q).symm
theorem pieces_zero (s : List Q) : IsPieces s 0 [] := ⟨[], List.Pairwise.nil, fun n => by simp, rfl, fun k n p l h => by simp at h⟩
/-- A quarter that is connected with one in front of it is passed over. -/
theorem pieces_skip {s : List Q} {i : Nat} {ls : List (List Q)} {p : Q} (h : IsPieces s i ls) (hp : s[i]? = some p) (hn : ¬ LeadQ s i p) : IsPieces s (i + 1) ls := by
  obtain ⟨fs, f1, f2, f3, f4⟩ := h.firsts
  refine ⟨fs, f1, fun n => ?_, f3, f4⟩
  rw [f2]
  constructor
  · rintro ⟨h1, h2⟩; exact ⟨by omega, h2⟩
  · rintro ⟨h1, q, h2, h3⟩
    rcases Nat.lt_or_ge n i with h4 | h4
    · exact ⟨h4, q, h2, h3⟩
    · obtain rfl : n = i := by omega
      rw [hp] at h2; cases h2
      exact absurd h3 hn
theorem pieces_take {s : List Q} {i : Nat} {ls : List (List Q)} {p : Q} {l : List Q} (h : IsPieces s i ls) (hp : s[i]? = some p) (hl : LeadQ s i p) (h1 : l.Sublist s) (h2 : ∀ q, q ∈ l ↔ Conn s p q) : IsPieces s (i + 1) (ls ++ [l]) := by
  obtain ⟨fs, f1, f2, f3, f4⟩ := h.firsts
  refine ⟨fs ++ [i], ?_, fun n => ?_, by simp [f3], fun k n q m hk hq hm => ?_⟩
  · refine List.pairwise_append.2 ⟨f1, List.pairwise_singleton _ _, fun a ha b hb => ?_⟩
    rw [List.mem_singleton] at hb
    have := ((f2 a).1 ha).1
    omega
  · rw [List.mem_append, List.mem_singleton, f2]
    constructor
    · rintro (⟨a1, a2⟩ | rfl)
      · exact ⟨by omega, a2⟩
      · exact ⟨by omega, p, hp, hl⟩
    · rintro ⟨a1, a2⟩
      rcases Nat.lt_or_ge n i with a3 | a3
      · exact .inl ⟨a3, a2⟩
      · exact .inr (by omega)
  · rcases Nat.lt_or_ge k fs.length with hkl | hkl
    · rw [List.getElem?_append_left hkl] at hk
      rw [List.getElem?_append_left (by omega)] at hm
      exact f4 k n q m hk hq hm
    · rw [List.getElem?_append_right hkl] at hk
      rw [List.getElem?_append_right (by omega)] at hm
      have hk0 : k - fs.length = 0 := by have := (List.getElem?_eq_some_iff.1 hk).1; simp at this; omega
      rw [hk0] at hk
      rw [f3, hk0] at hm
      simp only [List.getElem?_cons_zero, Option.some.injEq] at hk hm
      subst hk hm
      rw [hp] at hq; cases hq
      exact ⟨h1, h2⟩
/-! ### The program's search -/
/-- The quarters that are connected with one of the first i. -/
def SeenQ (s : List Q) (i : Nat) (q : Q) : Prop := ∃ j p, j < i ∧ s[j]? = some p ∧ Conn s p q
theorem lead_iff {s : List Q} {i : Nat} {p : Q} : LeadQ s i p ↔ ¬ SeenQ s i p := by
  unfold LeadQ SeenQ
  constructor
  · rintro h ⟨j, q, h1, h2, h3⟩; exact h j q h1 h2 h3
  · intro h j q h1 h2 h3; exact h ⟨j, q, h1, h2, h3⟩
theorem seen_step {s : List Q} {i : Nat} {p : Q} (hp : s[i]? = some p) (q : Q) : SeenQ s (i + 1) q ↔ SeenQ s i q ∨ Conn s p q := by
  constructor
  · rintro ⟨j, r, h1, h2, h3⟩
    rcases Nat.lt_or_ge j i with h | h
    · exact .inl ⟨j, r, h, h2, h3⟩
    · obtain rfl : j = i := by omega
      rw [hp] at h2; cases h2
      exact .inr h3
  · rintro (⟨j, r, h1, h2, h3⟩ | h)
    · exact ⟨j, r, by omega, h2, h3⟩
    · exact ⟨i, p, by omega, hp, h⟩
theorem seen_skip {s : List Q} {i : Nat} {p : Q} (hp : s[i]? = some p) (h : SeenQ s i p) (q : Q) : SeenQ s (i + 1) q ↔ SeenQ s i q := by
  rw [seen_step hp]
  refine ⟨?_, .inl⟩
  rintro (h1 | h1)
  · exact h1
  · obtain ⟨j, r, a1, a2, a3⟩ := h
    exact ⟨j, r, a1, a2, a3.trans h1⟩
/-- What holds while the program gathers a part: its quarters, those looked at, and the keys of the map. -/
structure PartI (s : List Q) (i : Nat) (p : Q) (K : List Q) (part : List Q) : Prop where
  nodup : part.Nodup
  conn : ∀ q ∈ part, Conn s p q
  first : p ∈ part
  keys : ∀ q, q ∈ K ↔ SeenQ s i q ∨ q ∈ part
  lead : ¬ SeenQ s i p
/-- Those that share an edge with one of the first j are in the part. -/
def DoneE (s : List Q) (part : List Q) (j : Nat) : Prop := ∀ q ∈ part.take j, ∀ r ∈ s, shareE q r → r ∈ part
theorem PartI.notSeen {s : List Q} {i : Nat} {p : Q} {K part : List Q} (h : PartI s i p K part) {q : Q} (hq : Conn s p q) : ¬ SeenQ s i q := by
  rintro ⟨j, r, a1, a2, a3⟩
  exact h.lead ⟨j, r, a1, a2, a3.trans hq.symm⟩
theorem PartI.closed {s : List Q} {i : Nat} {p : Q} {K part : List Q} (h : PartI s i p K part) (hd : DoneE s part part.length) (q : Q) : q ∈ part ↔ Conn s p q := by
  refine ⟨h.conn q, fun hq => ?_⟩
  induction hq with
  | refl _ => exact h.first
  | step h1 h2 h3 ih => exact hd _ (by rw [List.take_length]; exact ih) _ h2 h3
theorem PartI.add {s : List Q} {i : Nat} {p : Q} {K part : List Q} (h : PartI s i p K part) {q r : Q} (hq : q ∈ part) (hr : r ∈ s) (hs : shareE q r) (hK : r ∉ K) {K' : List Q} (hK' : ∀ x, x ∈ K' ↔ x = r ∨ x ∈ K) : PartI s i p K' (part ++ [r]) where
  nodup := by
    refine List.nodup_append.2 ⟨h.nodup, by simp, fun a ha b hb hab => ?_⟩
    rw [List.mem_singleton] at hb
    subst hb hab
    exact hK ((h.keys a).2 (.inr ha))
  conn := fun x hx => by
    rcases List.mem_append.1 hx with hx | hx
    · exact h.conn x hx
    · rw [List.mem_singleton] at hx; subst hx; exact (h.conn q hq).step hr hs
  first := List.mem_append_left _ h.first
  keys := fun x => by
    rw [hK', h.keys, List.mem_append, List.mem_singleton]
    constructor
    · rintro (h1 | h1 | h1)
      · exact .inr (.inr h1)
      · exact .inl h1
      · exact .inr (.inl h1)
    · rintro (h1 | h1 | h1)
      · exact .inr (.inl h1)
      · exact .inr (.inr h1)
      · exact .inl h1
  lead := h.lead
theorem PartI.had {s : List Q} {i : Nat} {p : Q} {K part : List Q} (h : PartI s i p K part) {q r : Q} (hq : q ∈ part) (hr : r ∈ s) (hs : shareE q r) (hK : r ∈ K) : r ∈ part := by
  rcases (h.keys r).1 hK with h1 | h1
  · exact absurd h1 (h.notSeen ((h.conn q hq).step hr hs))
  · exact h1
theorem PartI.start {s : List Q} {i : Nat} {p : Q} {K : List Q} (hp : s[i]? = some p) (hK : ∀ q, q ∈ K ↔ SeenQ s i q) (hl : p ∉ K) {K' : List Q} (hK' : ∀ x, x ∈ K' ↔ x = p ∨ x ∈ K) : PartI s i p K' [p] where
  nodup := by simp
  conn := fun q hq => by rw [List.mem_singleton] at hq; subst hq; exact .refl (List.mem_of_getElem? hp)
  first := by simp
  keys := fun q => by
    rw [hK', hK, List.mem_singleton]
    exact or_comm
  lead := fun h => hl ((hK p).2 h)
theorem PartI.stop {s : List Q} {i : Nat} {p : Q} {K part : List Q} (h : PartI s i p K part) (hp : s[i]? = some p) (hd : DoneE s part part.length) (q : Q) : q ∈ K ↔ SeenQ s (i + 1) q := by
  rw [h.keys, seen_step hp, h.closed hd]
theorem DoneE.snoc {s part : List Q} {j : Nat} (h : DoneE s part j) (hj : j ≤ part.length) {r : Q} : DoneE s (part ++ [r]) j := fun q hq x hx hs => by
  rw [List.take_append_of_le_length hj] at hq
  exact List.mem_append_left _ (h q hq x hx hs)
theorem part_length {s : List Q} {i : Nat} {p : Q} {K part : List Q} (h : PartI s i p K part) (nodup_le : ∀ {l m : List Q}, l.Nodup → (∀ x ∈ l, x ∈ m) → l.length ≤ m.length) : part.length ≤ s.length :=
  nodup_le h.nodup fun x hx => (h.conn x hx).right
/-! ### The reference's search -/
/-- Each quarter's number is that of a quarter not behind it that is connected with it. -/
structure RefP (s : List Q) (ps : List Nat) : Prop where
  len : ps.length = s.length
  ok : ∀ (i a : Nat) (p : Q), ps[i]? = some a → s[i]? = some p → a ≤ i ∧ ∃ q, s[a]? = some q ∧ Conn s q p
/-- Nothing is to be done for two quarters. -/
def stableQ (s : List Q) (ps : List Nat) (i k : Nat) : Prop := ∀ (p q : Q) (a b : Nat), s[i]? = some p → s[k]? = some q → ps[i]? = some a → ps[k]? = some b → b < a → ¬ shareE p q
/-- What holds within a round: no change so far, or a lesser sum. -/
structure RoundP (s : List Q) (ps0 ps : List Nat) (c : Bool) (i k : Nat) : Prop where
  good : RefP s ps
  no : c = false → ps = ps0 ∧ ∀ i' k', (i' < i ∧ k' < s.length) ∨ (i' = i ∧ k' < k) → stableQ s ps i' k'
  yes : c = true → ps.sum < ps0.sum
theorem refP_start (s : List Q) : RefP s (List.range s.length) where
  len := List.length_range
  ok := fun i a p h1 h2 => by
    obtain ⟨hi, e⟩ := List.getElem?_eq_some_iff.1 h1
    rw [List.getElem_range] at e
    subst e
    exact ⟨Nat.le_refl _, p, h2, .refl (List.mem_of_getElem? h2)⟩
theorem sum_set : ∀ {ps : List Nat} {i a b : Nat}, ps[i]? = some a → b < a → (ps.set i b).sum < ps.sum
  | [], _, _, _, h, _ => by simp at h
  | x :: ps, 0, a, b, h, hb => by
    simp only [List.getElem?_cons_zero, Option.some.injEq] at h; subst h
    simp only [List.set_cons_zero, List.sum_cons]; omega
  | x :: ps, i + 1, a, b, h, hb => by
    rw [List.getElem?_cons_succ] at h
    have := sum_set h hb
    simp only [List.set_cons_succ, List.sum_cons]; omega
theorem refP_set {s : List Q} {ps : List Nat} (h : RefP s ps) {i k a b : Nat} {p q : Q} (hp : s[i]? = some p) (hq : s[k]? = some q) (ha : ps[i]? = some a) (hb : ps[k]? = some b) (hlt : b < a) (hs : shareE p q) : RefP s (ps.set i b) where
  len := by rw [List.length_set]; exact h.len
  ok := fun j c r hc hr => by
    by_cases hij : i = j
    · subst hij
      have hi := (List.getElem?_eq_some_iff.1 ha).1
      rw [List.getElem?_set_self hi] at hc
      cases hc
      rw [hp] at hr; cases hr
      obtain ⟨_, x, hx, hc⟩ := h.ok k b q hb hq
      have := (h.ok i a p ha hp).1
      exact ⟨by omega, x, hx, hc.step (List.mem_of_getElem? hp) (shareE_symm hs)⟩
    · rw [List.getElem?_set_ne hij] at hc
      exact h.ok j c r hc hr
theorem roundP_set {s : List Q} {ps0 ps : List Nat} {c : Bool} {i k a b : Nat} {p q : Q} (h : RoundP s ps0 ps c i k) (hp : s[i]? = some p) (hq : s[k]? = some q) (ha : ps[i]? = some a) (hb : ps[k]? = some b) (hlt : b < a) (hs : shareE p q) : RoundP s ps0 (ps.set i b) true i (k + 1) where
  good := refP_set h.good hp hq ha hb hlt hs
  no := fun h => by cases h
  yes := fun _ => by
    have h1 := sum_set ha hlt
    cases c with
    | true => have := h.yes rfl; omega
    | false => rw [← (h.no rfl).1]; exact h1
theorem roundP_keep {s : List Q} {ps0 ps : List Nat} {c : Bool} {i k a b : Nat} {p q : Q} (h : RoundP s ps0 ps c i k) (hp : s[i]? = some p) (hq : s[k]? = some q) (ha : ps[i]? = some a) (hb : ps[k]? = some b) (hn : ¬ (b < a ∧ shareE p q)) : RoundP s ps0 ps c i (k + 1) where
  good := h.good
  yes := h.yes
  no := fun hc => by
    obtain ⟨h1, h2⟩ := h.no hc
    refine ⟨h1, fun i' k' hik => ?_⟩
    rcases hik with hik | ⟨rfl, hk⟩
    · exact h2 i' k' (.inl hik)
    · rcases Nat.lt_or_ge k' k with hk' | hk'
      · exact h2 i' k' (.inr ⟨rfl, hk'⟩)
      · obtain rfl : k' = k := by omega
        intro p' q' a' b' e1 e2 e3 e4 hlt hs
        rw [hp] at e1; rw [hq] at e2; rw [ha] at e3; rw [hb] at e4
        cases e1; cases e2; cases e3; cases e4
        exact hn ⟨hlt, hs⟩
theorem roundP_row {s : List Q} {ps0 ps : List Nat} {c : Bool} {i : Nat} (h : RoundP s ps0 ps c i s.length) : RoundP s ps0 ps c (i + 1) 0 where
  good := h.good
  yes := h.yes
  no := fun hc => by
    obtain ⟨h1, h2⟩ := h.no hc
    refine ⟨h1, fun i' k' hik => ?_⟩
    rcases hik with ⟨hi, hk⟩ | ⟨_, hk⟩
    · rcases Nat.lt_or_ge i' i with hi' | hi'
      · exact h2 i' k' (.inl ⟨hi', hk⟩)
      · obtain rfl : i' = i := by omega
        exact h2 i' k' (.inr ⟨rfl, hk⟩)
    · omega
theorem roundP_start {s : List Q} {ps : List Nat} (h : RefP s ps) : RoundP s ps ps false 0 0 where
  good := h
  yes := fun h => by cases h
  no := fun _ => ⟨rfl, fun i' k' hik => by omega⟩
/-- Nothing is left to do. -/
def RestP (s : List Q) (ps : List Nat) : Prop := RefP s ps ∧ ∀ i k, i < s.length → k < s.length → stableQ s ps i k
theorem roundP_rest {s : List Q} {ps0 ps : List Nat} {k : Nat} (h : RoundP s ps0 ps false s.length k) : RestP s ps := ⟨h.good, fun i k hi hk => (h.no rfl).2 i k (.inl ⟨hi, hk⟩)⟩
theorem rest_conn {s : List Q} (hn : s.Nodup) {ps : List Nat} (h : RestP s ps) {p q : Q} (hc : Conn s p q) : ∀ (i k : Nat), s[i]? = some p → s[k]? = some q → ps[i]? = ps[k]? := by
  have inj : ∀ {i k : Nat} {p : Q}, s[i]? = some p → s[k]? = some p → i = k := fun {i k p} h1 h2 => by
    obtain ⟨a, b⟩ := List.getElem?_eq_some_iff.1 h1
    obtain ⟨c, d⟩ := List.getElem?_eq_some_iff.1 h2
    exact (List.getElem_inj hn).1 (b.trans d.symm)
  induction hc with
  | refl _ => intro i k h1 h2; rw [inj h1 h2]
  | @step y z h1 h2 h3 ih =>
    intro i k hi hk
    obtain ⟨j, hj, e⟩ := List.getElem_of_mem h1.right
    have hjs : s[j]? = some y := by rw [List.getElem?_eq_getElem hj, e]
    rw [ih i j hi hjs]
    have hkl := (List.getElem?_eq_some_iff.1 hk).1
    have gj := List.getElem?_eq_getElem (l := ps) (i := j) (by rw [h.1.len]; exact hj)
    have gk := List.getElem?_eq_getElem (l := ps) (i := k) (by rw [h.1.len]; exact hkl)
    have a1 := h.2 j k hj hkl y z _ _ hjs hk gj gk
    have a2 := h.2 k j hkl hj z y _ _ hk hjs gk gj
    rw [gj, gk]
    congr 1
    rcases Nat.lt_trichotomy (ps[j]'(by rw [h.1.len]; exact hj)) (ps[k]'(by rw [h.1.len]; exact hkl)) with hlt | hlt | hlt
    · exact absurd (shareE_symm h3) (a2 hlt)
    · exact hlt
    · exact absurd h3 (a1 hlt)
/-- The quarters with a number. -/
def partN (s : List Q) (ps : List Nat) (n m : Nat) : List Q := (List.range m).flatMap fun i => match s[i]?, ps[i]? with | some q, some a => if a = n then [q] else [] | _, _ => []
theorem partN_step {s : List Q} {ps : List Nat} {n m a : Nat} {q : Q} (h : s[m]? = some q) (h' : ps[m]? = some a) : partN s ps n (m + 1) = partN s ps n m ++ if a = n then [q] else [] := by
  unfold partN
  rw [List.range_succ, List.flatMap_append]
  simp [h, h']
theorem partN_zero (s : List Q) (ps : List Nat) (n : Nat) : partN s ps n 0 = [] := rfl
theorem partN_sub (s : List Q) (ps : List Nat) (n : Nat) : ∀ m, (partN s ps n m).Sublist (s.take m)
  | 0 => by rw [partN_zero]; exact List.nil_sublist _
  | m + 1 => by
    have ih := partN_sub s ps n m
    unfold partN at ih ⊢
    rw [List.range_succ, List.flatMap_append]
    rcases Nat.lt_or_ge m s.length with hm | hm
    · rw [List.take_succ_eq_append_getElem hm]
      refine ih.append ?_
      simp only [List.flatMap_cons, List.flatMap_nil, List.append_nil, List.getElem?_eq_getElem hm]
      split
      · rename_i h1 h2
        cases h1
        split
        · exact List.Sublist.refl _
        · exact List.nil_sublist _
      · exact List.nil_sublist _
    · rw [List.take_of_length_le (by omega)] at ih
      rw [List.take_of_length_le (by omega)]
      simp only [List.flatMap_cons, List.flatMap_nil, List.append_nil, List.getElem?_eq_none hm]
      exact ih
theorem mem_partN {s : List Q} {ps : List Nat} {n m : Nat} {q : Q} : q ∈ partN s ps n m ↔ ∃ i, i < m ∧ s[i]? = some q ∧ ps[i]? = some n := by
  unfold partN
  rw [List.mem_flatMap]
  constructor
  · rintro ⟨i, hi, h⟩
    rw [List.mem_range] at hi
    split at h
    · rename_i h1 h2
      split at h
      · rename_i e
        subst e
        rw [List.mem_singleton] at h; subst h
        exact ⟨i, hi, h1, h2⟩
      · cases h
    · cases h
  · rintro ⟨i, hi, h1, h2⟩
    refine ⟨i, List.mem_range.2 hi, ?_⟩
    rw [h1, h2]; simp
theorem rest_part {s : List Q} (hn : s.Nodup) {ps : List Nat} (h : RestP s ps) {n : Nat} {p : Q} (hp : s[n]? = some p) :
    (LeadQ s n p → ∀ q, q ∈ partN s ps n s.length ↔ Conn s p q) ∧ (¬ LeadQ s n p → partN s ps n s.length = []) := by
  have lead : ∀ {i : Nat} {q : Q}, s[i]? = some q → ps[i]? = some n → Conn s p q ∧ LeadQ s n p := by
    intro i q hi hpi
    obtain ⟨h1, x, hx, hc⟩ := h.1.ok i n q hpi hi
    rw [hp] at hx; cases hx
    refine ⟨hc, fun j r hj hr hjr => ?_⟩
    have e1 := rest_conn hn h (hjr.trans hc) j i hr hi
    have hjl := (List.getElem?_eq_some_iff.1 hr).1
    rw [hpi] at e1
    have := (h.1.ok j n r e1 hr).1
    omega
  constructor
  · intro hl q
    rw [mem_partN]
    constructor
    · rintro ⟨i, _, h1, h2⟩; exact (lead h1 h2).1
    · intro hc
      obtain ⟨i, hi, e⟩ := List.getElem_of_mem hc.right
      have hi' : s[i]? = some q := by rw [List.getElem?_eq_getElem hi, e]
      refine ⟨i, hi, hi', ?_⟩
      rw [← rest_conn hn h hc n i hp hi']
      have hnl := (List.getElem?_eq_some_iff.1 hp).1
      have gn := List.getElem?_eq_getElem (l := ps) (i := n) (by rw [h.1.len]; exact hnl)
      obtain ⟨a1, x, hx, hcx⟩ := h.1.ok n _ p gn hp
      rw [gn]
      congr 1
      rcases Nat.eq_or_lt_of_le a1 with e | e
      · exact e
      · exact absurd hcx (hl _ x e hx)
  · intro hl
    rcases hpt : partN s ps n s.length with _ | ⟨q, t⟩
    · rfl
    · have : q ∈ partN s ps n s.length := by rw [hpt]; simp
      obtain ⟨i, _, h1, h2⟩ := mem_partN.1 this
      exact absurd (lead h1 h2).2 hl
theorem ref_round {s : List Q} (hn : s.Nodup) {ps : List Nat} (h : RestP s ps) {n : Nat} {p : Q} {ls : List (List Q)} (hp : s[n]? = some p) (hl : IsPieces s n ls) :
    IsPieces s (n + 1) (if partN s ps n s.length = [] then ls else ls ++ [partN s ps n s.length]) := by
  obtain ⟨h1, h2⟩ := rest_part hn h hp
  by_cases hL : LeadQ s n p
  · have hne : partN s ps n s.length ≠ [] := fun e => by
      have := (h1 hL p).2 (.refl (List.mem_of_getElem? hp))
      rw [e] at this; cases this
    rw [if_neg hne]
    have hsub := partN_sub s ps n s.length
    rw [List.take_length] at hsub
    exact pieces_take hl hp hL hsub (h1 hL)
  · rw [if_pos (h2 hL)]
    exact pieces_skip hl hp hL
end Go.Proofs.YtimnmfjbfbkooaaGreatDoor

/- slices.SortFunc over quarters: a slice of the call's own is sorted in place. -/
namespace Go.Proofs.YtimnmfjbfbkooaaGreatDoor
set_option linter.all false
set_option linter.unusedSimpArgs false
set_option linter.unusedVariables false
open Go.RowKit
attribute [local go_sem] Oper.semAt_some

theorem quarter_swo : Sort.SWO (ltOf cmpQ) where
  irrefl x := decide_eq_false (fun h => Q.lt_irrefl _ (cmpQ_lt.1 h))
  trans x y z h1 h2 := decide_eq_true (cmpQ_lt.2 (Q.lt_trans (cmpQ_lt.1 (of_decide_eq_true h1)) (cmpQ_lt.1 (of_decide_eq_true h2))))
  ntrans x y z h1 h2 := by
    have h1 := of_decide_eq_false h1
    have h2 := of_decide_eq_false h2
    refine decide_eq_false (fun h => ?_)
    have h := cmpQ_lt.1 h
    rcases Q.lt_total x y with h3 | h3 | h3
    · exact h1 (cmpQ_lt.2 h3)
    · exact h2 (cmpQ_lt.2 (h3 ▸ h))
    · exact h2 (cmpQ_lt.2 (Q.lt_trans h3 h))
theorem flatQ_get (d : Array Q) (j : Nat) (hj : j < d.size * 3) : ∃ e, d.toList[j / 3]? = some e ∧ (Sort.flatK qVals 3 d)[j]! = ((qVals e)[j % 3]?).getD default := by
  have h1 : j / 3 < d.size := by omega
  refine ⟨d[j / 3], by simp [h1], ?_⟩
  rw [Sort.get_flatK _ _ _ _ hj, getElem!_pos d (j / 3) h1]
  have h2 : j % 3 < (qVals d[j / 3]).length := by simp [qVals]; omega
  exact List.getElem!_eq_getElem?_getD ..
theorem qCells_mod {l : List Q} {j : Nat} {e : Q} (h : l[j / 3]? = some e) : (qCells l)[j]? = some (((qVals e)[j % 3]?).getD default) := by
  obtain ⟨h1, h2, h3⟩ := qCells_get h
  have hj : j = j / 3 * 3 + j % 3 := by omega
  rcases (by omega : j % 3 = 0 ∨ j % 3 = 1 ∨ j % 3 = 2) with h0 | h0 | h0
  · rw [h0]; rw [h0] at hj
    rw [show (qCells l)[j]? = (qCells l)[j / 3 * 3]? by congr 1]; rw [h1]; rfl
  · rw [h0]; rw [h0] at hj
    rw [show (qCells l)[j]? = (qCells l)[j / 3 * 3 + 1]? by congr 1]; rw [h2]; rfl
  · rw [h0]; rw [h0] at hj
    rw [show (qCells l)[j]? = (qCells l)[j / 3 * 3 + 2]? by congr 1]; rw [h3]; rfl
theorem sortK_block {α : Type} [Inhabited α] (enc : α → List Value) (n : Nat) (w : World) (g off m : Nat) (dk : Array α) (os : Array Obj) {cur : Array Value} {e : TypeId} {fr : Nat × Nat} (h : w.heap[g]? = some (.cells cur e fr)) :
    ∃ cur', (sortWorldK enc n w g off m dk os).heap[g]? = some (.cells cur' e fr) ∧ cur'.size = cur.size := by
  have hg : g < (Sort.putRow id (Sort.ahead w m) g off (Sort.flatK enc n dk)).heap.size := by
    have := (Array.getElem?_eq_some_iff.1 h).1
    simpa [Sort.putRow, Sort.mapBlock, Sort.ahead] using this
  refine ⟨Sort.putCells id off (Sort.flatK enc n dk) cur, ?_, by simp [Sort.putCells]⟩
  show ((Sort.putRow id (Sort.ahead w m) g off (Sort.flatK enc n dk)).heap ++ os)[g]? = _
  rw [Array.getElem?_append_left hg]
  simp only [Sort.putRow, Sort.mapBlock, Sort.ahead]
  simp [Array.getElem?_modify, h, Sort.onCells]
set_option maxRecDepth 100000 in
theorem sortQ_any (base g cap : Nat) (l : List Q) (W : World) (hq : OwnQ W base (.slice (some ⟨g, 0, none⟩) l.length cap) l) (hbase : base ≤ W.heap.size) (hn : l.length ≤ 1000000) :
    Calls Tryz.prog 72 #[.slice (some ⟨g, 0, none⟩) l.length cap, .func (.func 68) #[] #[]] W fun e W' =>
      e = .returned (.tuple #[]) ∧ ∃ l', l'.Perm l ∧ l'.Pairwise (fun a b => ¬ Q.lt b a) ∧ OwnQ W' base (.slice (some ⟨g, 0, none⟩) l'.length cap) l' ∧ l'.length = l.length ∧ BelowBut W.heap.size g W W' := by
  obtain ⟨hg, hgW⟩ := hq.lt g rfl
  have hfz : ∀ j, W.frozen? ⟨g, j, none⟩ = false := fun j => by
    rcases hq.2 with ⟨h, _⟩ | ⟨g', cap', cur, hv, _, h2, _⟩
    · cases h
    · simp only [Value.slice.injEq, Option.some.injEq, Addr.mk.injEq, and_true] at hv
      obtain ⟨rfl, _⟩ := hv
      exact frozen_of_row W _ j _ _ h2
  have hH : Sort.HoldsK qVals 3 W g 0 l.toArray := fun j hj => by
    rw [Sort.size_flatK] at hj
    obtain ⟨e, he, hf⟩ := flatQ_get l.toArray j hj
    rw [hf, Nat.zero_add]
    refine ⟨?_, hfz j⟩
    have := hq.cells (g := g) rfl j _ (qCells_mod (by simpa using he))
    rwa [add_at] at this
  have hcmp : CmpLays Tryz.prog 68 #[] qVals 3 cmpQ g 0 l.toArray.size W := fun m os dk _ x y => before_grew x.x x.y x.s y.x y.y y.s _
  have hcon := AnyQ.slices_SortFunc Tryz.sortQ 3 Tryz.isAgg64 Tryz.sizeOf64 qVals (fun _ => rfl) (fun x v hv => by simp [qVals] at hv; rcases hv with rfl | rfl | rfl <;> rfl) cmpQ quarter_swo 68 #[] g 0 cap l.toArray W (enters_of Tryz.func68 (by kernel_rfl) rfl) hcmp hH hgW (by simp; omega)
  rw [show l.toArray.size = l.length by simp] at hcon
  change Calls Tryz.prog 72 _ _ _ at hcon
  refine hcon.mono ?_
  rintro e W' ⟨rfl, d', nn, os, hp, hs, rfl⟩
  have hd's : d'.size = l.length := by simpa using hp.1
  have hperm : d'.toList.Perm l := by
    have := hp.2.2
    rw [show d'.extract 0 l.length = d' by rw [← hd's]; simp, show l.toArray.extract 0 l.length = l.toArray by simp] at this
    simpa using this
  have hH' := holdsK_sortWorldK_c (α := Q) qVals 3 W g 0 l.toArray d' nn os hH hgW (by simpa using hd's)
  refine ⟨rfl, d'.toList, hperm, ?_, ?_, by simpa using hd's, ⟨rfl, rfl, rfl, size_sortWorldK_c qVals 3 W g 0 nn d' os, fun k hk hne => sortWorldK_other qVals 3 W g 0 nn d' os hk hne⟩⟩
  · rw [List.pairwise_iff_getElem]
    intro i j hi hj hij
    have hi' : i < d'.size := by simpa using hi
    have hj' : j < d'.size := by simpa using hj
    have := hs i j (Nat.zero_le _) hij (by rw [← hd's]; exact hj')
    rw [getElem!_pos d' i hi', getElem!_pos d' j hj'] at this
    have := of_decide_eq_false this
    intro hlt
    exact this (cmpQ_lt.2 (by simpa using hlt))
  · rcases hq.2 with ⟨h, _⟩ | ⟨g', cap', cur, hv, hb, h2, h3, h4, h5, _⟩
    · cases h
    simp only [Value.slice.injEq, Option.some.injEq, Addr.mk.injEq, and_true] at hv
    obtain ⟨rfl, _, rfl⟩ := hv
    obtain ⟨cur', hc1, hc2⟩ := sortK_block qVals 3 W g 0 nn d' os h2
    have hdl : d'.toList.length = l.length := by simpa using hd's
    refine ⟨by rw [qCells_length], .inr ⟨g, cap, cur', rfl, hb, hc1, by rw [hdl]; exact h3, h4, by rw [hc2]; exact h5, ?_⟩⟩
    refine List.ext_getElem? fun j => ?_
    by_cases hj : j < d'.toList.length * 3
    · have hjs : j < (Sort.flatK qVals 3 d').size := by rw [Sort.size_flatK]; simpa using hj
      have h := (hH' j hjs).1
      rw [Nat.zero_add] at h
      have hcell : (sortWorldK qVals 3 W g 0 nn d' os).cell? ⟨g, j, none⟩ = cur'[j]? := by simp [World.cell?, hc1]
      rw [hcell] at h
      obtain ⟨e, he, hf⟩ := flatQ_get d' j (by simpa using hj)
      rw [List.getElem?_take_of_lt hj, qCells_mod he, ← hf]
      simpa using h
    · rw [List.getElem?_eq_none (by rw [List.length_take]; omega), List.getElem?_eq_none (by rw [qCells_length]; omega)]
end Go.Proofs.YtimnmfjbfbkooaaGreatDoor

/- The program's Pieces. -/
namespace Go.Proofs.YtimnmfjbfbkooaaGreatDoor
set_option linter.all false
set_option linter.unusedSimpArgs false
set_option linter.unusedVariables false
open Go.RowKit
attribute [local go_sem] Oper.semAt_some

/-- What holds while the program gathers pieces: the map of the edges' owners (block n0), that of the quarters seen (block n1), the pieces so far; all of it below the block np. -/
structure PcI (w W : World) (n0 n1 np : Nat) (M : List (E × List Q)) (vs : List Value) (S : List (Q × Nat)) (u : Value) (us : List Value) (ls : List (List Q)) : Prop where
  map0 : HasM E.val W n0 (zipM M vs)
  each : ∀ (i : Nat) (v : Value) (m : E × List Q), vs[i]? = some v → M[i]? = some m → HasQ W v m.2 ∧ ∀ k, v.ownBlock = some k → k < n1
  map1 : HasM Q.val W n1 (shapeM S)
  res : OwnQQ W (n1 + 1) u us ls
  hi : (∀ k, u.ownBlock = some k → k < np) ∧ ∀ (i : Nat) (x : Value), us[i]? = some x → ∀ k, x.ownBlock = some k → k < np
  ord : w.heap.size ≤ n0 ∧ n0 < n1 ∧ n1 < np ∧ np ≤ W.heap.size
  below : Below w.heap.size w W
theorem OwnQ.of_block {W W' : World} {base : Nat} {v : Value} {l : List Q} (h : OwnQ W base v l) (e : ∀ k, v.ownBlock = some k → W'.heap[k]? = W.heap[k]?) : OwnQ W' base v l := by
  refine ⟨h.1, ?_⟩
  rcases h.2 with h2 | ⟨g, cap, cur, hv, h1, h2, h3⟩
  · exact .inl h2
  · refine .inr ⟨g, cap, cur, hv, h1, ?_, h3⟩
    rw [e g (by rw [hv]; rfl)]; exact h2
theorem PcI.keep {w W W' : World} {n0 n1 np : Nat} {M : List (E × List Q)} {vs : List Value} {S : List (Q × Nat)} {u : Value} {us : List Value} {ls : List (List Q)} (h : PcI w W n0 n1 np M vs S u us ls) (e : Below np W W') : PcI w W' n0 n1 np M vs S u us ls := by
  obtain ⟨o1, o2, o3, o4⟩ := h.ord
  refine ⟨(e.block _ (by omega)).trans h.map0, fun i v m hv hm => ⟨(h.each i v m hv hm).1.move fun k hk => e.block _ (by have := (h.each i v m hv hm).2 k hk; omega), (h.each i v m hv hm).2⟩, (e.block _ (by omega)).trans h.map1,
    ⟨?_, h.res.len, fun i x l hx hl => (h.res.each i x l hx hl).of_block fun k hk => e.block _ (h.hi.2 i x hx k hk)⟩, h.hi, ⟨o1, o2, o3, Nat.le_trans o4 e.size⟩, h.below.trans (e.mono (by omega))⟩
  refine ⟨h.res.row.1, ?_⟩
  rcases h.res.row.2 with h2 | ⟨g, cap, cur, hv, h1, h2, h3⟩
  · exact .inl h2
  · refine .inr ⟨g, cap, cur, hv, h1, ?_, h3⟩
    rw [e.block g (h.hi.1 g (by rw [hv]; rfl))]; exact h2
theorem PcI.raise {w W : World} {n0 n1 np np' : Nat} {M : List (E × List Q)} {vs : List Value} {S : List (Q × Nat)} {u : Value} {us : List Value} {ls : List (List Q)} (h : PcI w W n0 n1 np M vs S u us ls) (h1 : np ≤ np') (h2 : np' ≤ W.heap.size) : PcI w W n0 n1 np' M vs S u us ls :=
  ⟨h.map0, h.each, h.map1, h.res, ⟨fun k hk => Nat.lt_of_lt_of_le (h.hi.1 k hk) h1, fun i x hx k hk => Nat.lt_of_lt_of_le (h.hi.2 i x hx k hk) h1⟩, ⟨h.ord.1, h.ord.2.1, Nat.lt_of_lt_of_le h.ord.2.2.1 h1, h2⟩, h.below⟩
theorem PcI.put {w W : World} {n0 n1 np : Nat} {M : List (E × List Q)} {vs : List Value} {S : List (Q × Nat)} {u : Value} {us : List Value} {ls : List (List Q)} (h : PcI w W n0 n1 np M vs S u us ls) (S' : List (Q × Nat)) : PcI w (putM Q.val W n1 (shapeM S')) n0 n1 np M vs S' u us ls := by
  obtain ⟨o1, o2, o3, o4⟩ := h.ord
  refine ⟨(putM_other W (by omega) _).trans h.map0, fun i v m hv hm => ⟨(h.each i v m hv hm).1.move fun k hk => putM_other W (by have := (h.each i v m hv hm).2 k hk; omega) _, (h.each i v m hv hm).2⟩, HasM.put h.map1.lt _,
    ⟨?_, h.res.len, fun i x l hx hl => (h.res.each i x l hx hl).of_block fun k hk => putM_other W (by have := ((h.res.each i x l hx hl).lt k hk).1; omega) _⟩, h.hi, ⟨o1, o2, o3, by rw [putM_size]; exact o4⟩, h.below.trans (putM_below W (by omega) _)⟩
  refine ⟨h.res.row.1, ?_⟩
  rcases h.res.row.2 with h2 | ⟨g, cap, cur, hv, h1, h2, h3⟩
  · exact .inl h2
  · refine .inr ⟨g, cap, cur, hv, h1, ?_, h3⟩
    rw [putM_other W (by omega) _]; exact h2
theorem PcI.next {w W W' : World} {n0 n1 np : Nat} {M : List (E × List Q)} {vs : List Value} {S : List (Q × Nat)} {u u' : Value} {us us' : List Value} {ls ls' : List (List Q)} (h : PcI w W n0 n1 np M vs S u us ls) (e : Below (n1 + 1) W W') (hr : OwnQQ W' (n1 + 1) u' us' ls') : PcI w W' n0 n1 W'.heap.size M vs S u' us' ls' := by
  obtain ⟨o1, o2, o3, o4⟩ := h.ord
  refine ⟨(e.block _ (by omega)).trans h.map0, fun i v m hv hm => ⟨(h.each i v m hv hm).1.move fun k hk => e.block _ (by have := (h.each i v m hv hm).2 k hk; omega), (h.each i v m hv hm).2⟩, (e.block _ (by omega)).trans h.map1, hr,
    ⟨fun k hk => (hr.row.lt k hk).2, fun i x hx k hk => ?_⟩, ⟨o1, o2, by have := e.size; omega, Nat.le_refl _⟩, h.below.trans (e.mono (by omega))⟩
  have hi : i < ls'.length := by rw [← hr.len]; exact (List.getElem?_eq_some_iff.1 hx).1
  exact ((hr.each i x _ hx (List.getElem?_eq_getElem hi)).lt k hk).2
theorem snoc_all {α : Type} {l : List α} {a : Nat} {p : α} (h : l[a]? = some p) {P : α → Prop} (h1 : ∀ q ∈ l.take a, P q) (h2 : P p) : ∀ q ∈ l.take (a + 1), P q := by
  intro q hq
  rw [take_snocG h] at hq
  rcases List.mem_append.1 hq with hq | hq
  · exact h1 q hq
  · rw [List.mem_singleton] at hq; subst hq; exact h2
/-- The keys of the map of quarters seen. -/
def keysS (S : List (Q × Nat)) : List Q := S.map (·.1)
theorem zip_at {M : List (E × List Q)} {vs : List Value} (hl : vs.length = M.length) {m : E × List Q} (h : m ∈ M) : ∃ (i : Nat) (v : Value), vs[i]? = some v ∧ M[i]? = some m ∧ (m.1, v) ∈ zipM M vs := by
  obtain ⟨i, hi, rfl⟩ := List.getElem_of_mem h
  have hv : i < vs.length := by omega
  refine ⟨i, vs[i], List.getElem?_eq_getElem hv, List.getElem?_eq_getElem hi, ?_⟩
  unfold zipM
  refine List.mem_of_getElem? (i := i) ?_
  rw [List.getElem?_zipWith, List.getElem?_eq_getElem hi, List.getElem?_eq_getElem hv]
/-- The owners of an edge of a quarter of the shape. -/
theorem owners_at {l : List Q} (hq : ∀ q ∈ l, inQ q) {vs : List Value} (hl : vs.length = (ownL [] l).length) {p : Q} (hp : p ∈ l) {e : E} (he : e ∈ edgesQ p) :
    ∃ (i : Nat) (v : Value), vs[i]? = some v ∧ (ownL [] l)[i]? = some (e, whoE l e) ∧ (e, v) ∈ zipM (ownL [] l) vs := by
  obtain ⟨h1, h2, h3, h4⟩ := ownL_who hq
  have hne : whoE l e ≠ [] := fun h0 => by
    have : p ∈ whoE l e := List.mem_filter.2 ⟨hp, by simpa using he⟩
    rw [h0] at this; cases this
  obtain ⟨m, hm, hme⟩ := List.mem_map.1 (h3 e hne)
  have hm2 : m = (e, whoE l e) := by
    have h5 : m.2 = whoE l e := (h2 m hm).trans (by rw [hme])
    exact Prod.ext hme h5
  subst hm2
  exact zip_at hl hm
theorem keysS_snoc (S : List (Q × Nat)) (q : Q) (n : Nat) : keysS (S ++ [(q, n)]) = keysS S ++ [q] := by simp [keysS]
theorem mem_keys_snoc (S : List (Q × Nat)) (q : Q) (n : Nat) (x : Q) : x ∈ keysS (S ++ [(q, n)]) ↔ x = q ∨ x ∈ keysS S := by
  rw [keysS_snoc, List.mem_append, List.mem_singleton]; exact or_comm
theorem nodup_keys_snoc {S : List (Q × Nat)} {q : Q} (n : Nat) (h : (keysS S).Nodup) (hq : q ∉ keysS S) : (keysS (S ++ [(q, n)])).Nodup := by
  rw [keysS_snoc]
  refine List.nodup_append.2 ⟨h, by simp, fun a ha b hb e => ?_⟩
  rw [List.mem_singleton] at hb
  subst hb e; exact hq ha
theorem shapeM_snoc (S : List (Q × Nat)) (q : Q) (n : Nat) : shapeM S ++ [(q, .int .i64 n)] = shapeM (S ++ [(q, n)]) := by simp [shapeM]
/-- What is known between two steps of the search for one piece. -/
structure PcP (l : List Q) (w W : World) (n0 n1 np : Nat) (vs : List Value) (S : List (Q × Nat)) (u : Value) (us : List Value) (ls : List (List Q)) (i : Nat) (q : Q) (pv : Value) (part : List Q) (j : Nat) : Prop where
  pc : PcI w W n0 n1 np (ownL [] l) vs S u us ls
  keys : (keysS S).Nodup
  own : OwnQ W np pv part
  pt : PartI l i q (keysS S) part
  done : DoneE l part j
  le : j ≤ part.length
theorem PcP.keep {l : List Q} {w W W' : World} {n0 n1 np : Nat} {vs : List Value} {S : List (Q × Nat)} {u : Value} {us : List Value} {ls : List (List Q)} {i : Nat} {q : Q} {pv : Value} {part : List Q} {j : Nat} (h : PcP l w W n0 n1 np vs S u us ls i q pv part j) (e : Below W.heap.size W W') : PcP l w W' n0 n1 np vs S u us ls i q pv part j :=
  ⟨h.pc.keep (e.mono h.pc.ord.2.2.2), h.keys, h.own.below e, h.pt, h.done, h.le⟩
theorem PcP.short {l : List Q} {w W : World} {n0 n1 np : Nat} {vs : List Value} {S : List (Q × Nat)} {u : Value} {us : List Value} {ls : List (List Q)} {i : Nat} {q : Q} {pv : Value} {part : List Q} {j : Nat} (h : PcP l w W n0 n1 np vs S u us ls i q pv part j) : part.length ≤ l.length :=
  nodup_le h.pt.nodup fun x hx => (h.pt.conn x hx).right
/-- The keys lie in the shape. -/
theorem PcP.inl {l : List Q} {w W : World} {n0 n1 np : Nat} {vs : List Value} {S : List (Q × Nat)} {u : Value} {us : List Value} {ls : List (List Q)} {i : Nat} {q : Q} {pv : Value} {part : List Q} {j : Nat} (h : PcP l w W n0 n1 np vs S u us ls i q pv part j) : ∀ x ∈ keysS S, x ∈ l := fun x hx => by
  rcases (h.pt.keys x).1 hx with ⟨_, _, _, _, hc⟩ | hx
  · exact hc.right
  · exact (h.pt.conn x hx).right
/-- One more quarter in the piece. -/
theorem PcP.grow {l : List Q} {w W W' : World} {n0 n1 np : Nat} {vs : List Value} {S : List (Q × Nat)} {u : Value} {us : List Value} {ls : List (List Q)} {i : Nat} {q : Q} {pv pv' : Value} {part : List Q} {j : Nat} (h : PcP l w W n0 n1 np vs S u us ls i q pv part j)
    {r p : Q} (hp : p ∈ part) (hr : r ∈ l) (hs : shareE p r) (hK : r ∉ keysS S) (n : Nat) (hpc : PcI w W' n0 n1 np (ownL [] l) vs (S ++ [(r, n)]) u us ls) (ho : OwnQ W' np pv' (part ++ [r])) : PcP l w W' n0 n1 np vs (S ++ [(r, n)]) u us ls i q pv' (part ++ [r]) j :=
  ⟨hpc, nodup_keys_snoc n h.keys hK, ho, h.pt.add hp hr hs hK (mem_keys_snoc S r n), h.done.snoc h.le, by rw [List.length_append]; have := h.le; omega⟩
theorem share_of {l : List Q} {p r : Q} {e : E} (he : e ∈ edgesQ p) (hr : r ∈ whoE l e) : r ∈ l ∧ shareE p r := by
  obtain ⟨h1, h2⟩ := List.mem_filter.1 hr
  exact ⟨h1, e, he, by simpa using h2⟩
theorem OwnQ.ptr {W : World} {base : Nat} {p : Option Addr} {n c : Nat} {l : List Q} (h : OwnQ W base (.slice p n c) l) (hl : l ≠ []) : ∃ g, p = some ⟨g, 0, none⟩ := by
  rcases h.2 with ⟨_, h0⟩ | ⟨g, cap, cur, hv, _⟩
  · exact absurd (List.length_eq_zero_iff.1 h0) hl
  · simp only [Value.slice.injEq] at hv; exact ⟨g, hv.1⟩
theorem sub_sorted {l m : List Q} (hl : Srt l) (h1 : m.Pairwise fun a b => ¬ Q.lt b a) (h2 : m.Nodup) (h3 : ∀ q ∈ m, q ∈ l) : m.Sublist l := by
  have hm : Srt m := by
    refine List.Pairwise.imp₂ (fun a b hab hne => ?_) h1 h2
    rcases Q.lt_total a b with h | h | h
    · exact h
    · exact absurd h hne
    · exact absurd h hab
  have : m = l.filter (fun q => decide (q ∈ m)) := srt_ext hm (hl.sublist List.filter_sublist) fun q => by
    rw [List.mem_filter, decide_eq_true_eq]
    exact ⟨fun h => ⟨h3 q h, h⟩, fun h => h.2⟩
  rw [this]; exact List.filter_sublist
set_option maxRecDepth 100000 in
set_option maxHeartbeats 16000000 in
theorem Pieces_any (l : List Q) (v : Value) (w : World) (hv : HasQ w v l) :
    Calls Tryz.prog 39 #[v] w fun e w' => ∃ u ls, e = .returned (.tuple #[u, .int .i64 (checkN l)]) ∧ HasQQ w' u ls ∧ (checkN l ≠ 0 → ls = []) ∧ (checkN l = 0 → IsPieces l l.length ls) ∧ Below w.heap.size w w' := by
  obtain ⟨vp, vc, rfl⟩ := hv.slice
  have HV := Lib.hid hv; clear hv
  have hmm := @run_makeMap Tryz.prog
  go_enter Tryz.func39, Tryz.ntmps39
  go_wp2_with fail
  refine (check_any l _ w HV.out).mono ?_
  rintro e w1 ⟨rfl, hB1⟩
  have HB1 := Lib.hid hB1
  clear hB1
  by_cases hc : checkN l = 0
  case neg =>
    have hc1 : ((checkN l : Int) != 0) = true := by simpa using hc
    have HC : Hid (checkN l ≠ 0) := Lib.hid hc
    clear hc
    go_wp2_with fail
    go_ret2
    exact ⟨.slice none 0 0, [], rfl, .inl ⟨rfl, rfl⟩, fun _ => rfl, fun h => absurd h HC.out, HB1.out⟩
  have hc1 : ((checkN l : Int) != 0) = false := by simpa using hc
  have HC := Lib.hid hc
  have HOK := Lib.hid (checkN_ok hc)
  rw [hc]
  clear hc
  have hl400 : l.length ≤ 400 := HOK.out.2.2
  obtain ⟨sa, rfl, hsq⟩ : ∃ a, vp = some a ∧ QsAt w a l := by
    rcases HV.out with ⟨_, h⟩ | ⟨a, c, h1, _, _, h2⟩
    · exact absurd h HOK.out.2.1
    · simp only [Value.slice.injEq] at h1; exact ⟨a, h1.1, h2⟩
  have HSQ := Lib.hid hsq; clear hsq
  have hal : Below w1.heap.size w1 (w1.alloc (.map #[] 0)) := (Below.refl _ w1).alloc (Nat.le_refl _) _
  have hG : Grp (w1.alloc (.map #[] 0)) w1.heap.size (w1.heap.size + 1) [] [] := ⟨World.alloc_heap_new w1 _, rfl, fun m hm => (by cases hm), List.nodup_nil, fun i v m hv _ => (by simp at hv), fun i j u v _ hu _ => (by simp at hu)⟩
  have HOWN := Lib.hid (own_any w1.heap.size (w1.heap.size + 1) 0 [] [] l (.slice (some sa) l.length vc) (w1.alloc (.map #[] 0)) hG (by rw [World.size_alloc]; exact Nat.le_refl _) ((HV.out.below HB1.out).below hal)
    (fun b hb => by have := (HV.out.below HB1.out).own_lt HOK.out.2.1 b hb; exact ⟨by omega, by omega⟩) HOK.out.1.1 (fun m hm => by cases hm) (by omega))
  clear hal hG
  go_wp2_with fail
  refine HOWN.out.mono ?_
  rintro e w2 ⟨rfl, ⟨vs, hg'⟩, _, hBB⟩
  have hB2 : Below w.heap.size w w2 := by
    have h0 : Below w1.heap.size w1 w2 := ((Below.refl _ w1).alloc (Nat.le_refl _) _).trans (hBB.below (by omega) (Nat.le_refl _))
    exact HB1.out.trans (h0.mono HB1.out.size)
  have hal2 : Below w2.heap.size w2 (w2.alloc (.map #[] 0)) := (Below.refl _ w2).alloc (Nat.le_refl _) _
  have HVL : Hid (vs.length = (ownL [] l).length ∧ (∀ m ∈ ownL [] l, okE m.1) ∧ ((ownL [] l).map (·.1)).Nodup) := Lib.hid ⟨hg'.len, hg'.ok, hg'.keys⟩
  have H0 : Hid (PcI w (w2.alloc (.map #[] 0)) w1.heap.size w2.heap.size (w2.alloc (.map #[] 0)).heap.size (ownL [] l) vs [] (.slice none 0 0) [] []) := Lib.hid
    ⟨(hal2.block _ hg'.map.lt).trans hg'.map, fun i v m hv hm => ⟨((hg'.each i v m hv hm).below hal2).has, fun k hk => ((hg'.each i v m hv hm).lt k hk).2⟩, World.alloc_heap_new w2 _, OwnQQ.nil _ _, ⟨fun k hk => (by cases hk), fun i x hx => (by simp at hx)⟩,
      ⟨HB1.out.size, hg'.map.lt, by rw [World.size_alloc]; omega, Nat.le_refl _⟩, hB2.trans (hal2.mono hB2.size)⟩
  clear hg' hBB HOWN hB2 hal2 hc1
  go_wp2_with fail
  clear hmm
  revert H0
  generalize w2.alloc (.map #[] 0) = W0
  generalize w1.heap.size = n0
  generalize w2.heap.size = n1
  intro H0
  go_loopw [7, 33] (fun u z wr => ∃ (i : Nat) (us : List Value) (ls : List (List Q)) (S : List (Q × Nat)), i ≤ l.length ∧ ls.length ≤ i ∧ z = .int .i64 i ∧ Hid (PcI w wr n0 n1 wr.heap.size (ownL [] l) vs S u us ls ∧ (keysS S).Nodup ∧ (∀ q, q ∈ keysS S ↔ SeenQ l i q) ∧ IsPieces l i ls)) (fun _ z _ => l.length - (intOf z).toNat)
  case atStart => exact ⟨0, [], [], [], by omega, by simp, rfl, Lib.hid ⟨H0.out, by simp [keysS], fun q => ⟨fun h => by simp [keysS] at h, fun ⟨j, _, h, _⟩ => by omega⟩, pieces_zero l⟩⟩
  case round =>
    clear H0
    obtain ⟨i, us, ls, S, hi, hli, rfl, HR⟩ := hrel
    obtain ⟨up, uc, rfl⟩ := own_slice HR.out.1.res.row
    have hul : us.length = ls.length := HR.out.1.res.len
    by_cases hlt : i < l.length
    · obtain ⟨q, hqi⟩ : ∃ q, l[i]? = some q := ⟨_, List.getElem?_eq_getElem hlt⟩
      have hqs := HSQ.out.below HR.out.1.below
      have c0 := hqs.at0 i q hqi
      have c1 := hqs.at1 i q hqi
      have c2 := hqs.at2 i q hqi
      have HQI := Lib.hid hqi
      have HIN := Lib.hid (HOK.out.1.1 q (List.mem_of_getElem? hqi))
      have HUL := Lib.hid hul
      have HKL : Hid (∀ x ∈ keysS S, x ∈ l) := Lib.hid (fun x hx => by obtain ⟨_, _, _, _, hc⟩ := (HR.out.2.2.1 x).1 hx; exact hc.right)
      clear hqs hqi hul
      obtain ⟨x, y, s⟩ := q
      simp only at c0 c1 c2
      go_upto_region 11 with (fail)
      have hal : Below wr.heap.size wr (wr.alloc (.cells #[.int .i64 x, .int .i64 y, .int .i64 s] 64)) := Below.alloc (Below.refl _ wr) (Nat.le_refl _) _
      have hP5 := (HR.out.1.keep hal).raise (np' := (wr.alloc (.cells #[.int .i64 x, .int .i64 y, .int .i64 s] 64)).heap.size) hal.size (Nat.le_refl _)
      have hq5 : (wr.alloc (.cells #[.int .i64 x, .int .i64 y, .int .i64 s] 64)).heap[wr.heap.size]? = some (.cells #[.int .i64 x, .int .i64 y, .int .i64 s] 64) := World.alloc_heap_new wr _
      have hn1 : n1 < wr.heap.size := HR.out.1.ord.2.2.1
      have HRK := Lib.hid HR.out.2
      clear hal HR c0 c1 c2
      revert hP5 hq5 hn1
      generalize wr.alloc (.cells #[.int .i64 x, .int .i64 y, .int .i64 s] 64) = W5
      generalize wr.heap.size = rb
      intro hP5 hq5 hn1
      have d0 : W5.cell? ⟨rb, 0, none⟩ = some (.int .i64 x) := by simp [World.cell?, hq5]
      have d1 : W5.cell? ⟨rb, 1, none⟩ = some (.int .i64 y) := by simp [World.cell?, hq5]
      have d2 : W5.cell? ⟨rb, 2, none⟩ = some (.int .i64 s) := by simp [World.cell?, hq5]
      have hok : ∀ p ∈ shapeM S, inQ p.1 := fun p hp => by
        have h1 : p.1 ∈ (shapeM S).map (·.1) := List.mem_map.2 ⟨p, hp, rfl⟩
        rw [shapeM_keys] at h1
        exact HOK.out.1.1 _ (HKL.out _ h1)
      have hnk : ((shapeM S).map (·.1)).Nodup := by rw [shapeM_keys]; exact HRK.out.1
      by_cases hmem : (⟨x, y, s⟩ : Q) ∈ keysS S
      · have hlook := run_lookup_hit encQ Tryz.underlying99 hP5.map1 hok hnk (mem_shapeM (shapeAt_mem hmem)) true
        unfold Q.val at hlook
        simp only [ite_true] at hlook
        have HN : Hid (PcI w W5 n0 n1 W5.heap.size (ownL [] l) vs S (.slice up us.length uc) us ls ∧ (keysS S).Nodup ∧ (∀ q, q ∈ keysS S ↔ SeenQ l (i + 1) q) ∧ IsPieces l (i + 1) ls) := Lib.hid
          ⟨hP5, HRK.out.1, fun q => (HRK.out.2.1 q).trans (seen_skip HQI.out ((HRK.out.2.1 _).1 hmem) q).symm, pieces_skip HRK.out.2.2 HQI.out (fun h => lead_iff.1 h ((HRK.out.2.1 _).1 hmem))⟩
        clear hmem hok hnk hP5 hq5
        go_wp2_with fail
        go_roundw
        case rel => exact ⟨i + 1, us, ls, S, by omega, by omega, by go_num, HN⟩
        case measure => simp [intOf]; omega
      · have hmiss : ∀ p ∈ shapeM S, p.1 ≠ (⟨x, y, s⟩ : Q) := fun p hp e => hmem (by
          have h1 : p.1 ∈ (shapeM S).map (·.1) := List.mem_map.2 ⟨p, hp, rfl⟩
          rw [shapeM_keys, e] at h1; exact h1)
        have hlook := run_lookup_miss encQ Tryz.underlying99 (Tryz.zeroValue3 W5) hP5.map1 hok HIN.out hmiss true
        have hup := run_update_miss encQ Tryz.underlying99 hP5.map1 hok HIN.out hmiss (.int .i64 us.length)
        rw [shapeM_snoc] at hup
        have hP6 := hP5.put (S ++ [(⟨x, y, s⟩, us.length)])
        have hq6 : (putM Q.val W5 n1 (shapeM (S ++ [(⟨x, y, s⟩, us.length)]))).heap[rb]? = some (.cells #[.int .i64 x, .int .i64 y, .int .i64 s] 64) := (putM_other W5 (by omega) _).trans hq5
        have hs6 : W5.heap.size = (putM Q.val W5 n1 (shapeM (S ++ [(⟨x, y, s⟩, us.length)]))).heap.size := (putM_size _ _ _).symm
        rw [hs6] at hP6
        clear hs6
        revert hup hP6 hq6
        generalize putM Q.val W5 n1 (shapeM (S ++ [(⟨x, y, s⟩, us.length)])) = W6
        intro hup hP6 hq6
        have e0 : W6.cell? ⟨rb, 0, none⟩ = some (.int .i64 x) := by simp [World.cell?, hq6]
        have e1 : W6.cell? ⟨rb, 1, none⟩ = some (.int .i64 y) := by simp [World.cell?, hq6]
        have e2 : W6.cell? ⟨rb, 2, none⟩ = some (.int .i64 s) := by simp [World.cell?, hq6]
        have hal6 : Below W6.heap.size W6 (W6.alloc (.cells #[.int .i64 x, .int .i64 y, .int .i64 s] 64)) := Below.alloc (Below.refl _ W6) (Nat.le_refl _) _
        have HP7 : Hid (PcP l w (W6.alloc (.cells #[.int .i64 x, .int .i64 y, .int .i64 s] 64)) n0 n1 W6.heap.size vs (S ++ [(⟨x, y, s⟩, us.length)]) (.slice up us.length uc) us ls i ⟨x, y, s⟩ (.slice (some ⟨W6.heap.size, 0, none⟩) 1 1) [⟨x, y, s⟩] 0) := Lib.hid
          ⟨hP6.keep hal6, nodup_keys_snoc _ HRK.out.1 hmem, ⟨by simp [qCells, qVals], .inr ⟨W6.heap.size, 1, _, rfl, Nat.le_refl _, World.alloc_heap_new W6 _, Nat.le_refl _, by decide, rfl, rfl⟩⟩,
            PartI.start HQI.out HRK.out.2.1 hmem (mem_keys_snoc S _ _), fun q hq => (by simp at hq), Nat.zero_le _⟩
        unfold Q.val at hlook hup
        simp only [ite_true] at hlook
        clear hmem hok hnk hP5 hP6 hq5 hq6 hmiss hal6 hn1
        go_wp2_with fail
        clear hlook hup d0 d1 d2 e0 e1 e2
        revert HP7
        generalize W6.alloc (.cells #[.int .i64 x, .int .i64 y, .int .i64 s] 64) = W7
        generalize W6.heap.size = np
        intro HP7
        go_loopw [13, 14] (fun pv z wr => ∃ (j : Nat) (part : List Q) (S : List (Q × Nat)), j ≤ part.length ∧ part.length ≤ l.length ∧ z = .int .i64 j ∧ Hid (PcP l w wr n0 n1 np vs S (.slice up us.length uc) us ls i ⟨x, y, s⟩ pv part j)) (fun _ z _ => l.length - (intOf z).toNat)
        case atStart => exact ⟨0, _, _, by omega, HP7.out.short, rfl, HP7⟩
        case round =>
          clear HP7
          obtain ⟨j, part, S', hj, hpl, rfl, HR⟩ := hrel
          obtain ⟨pp, pc, rfl⟩ := own_slice HR.out.own
          have hne : part ≠ [] := fun e => by have := HR.out.pt.first; rw [e] at this; cases this
          obtain ⟨gp, rfl⟩ := HR.out.own.ptr hne
          clear hne
          by_cases hjl : j < part.length
          · obtain ⟨p, hpj⟩ : ∃ p, part[j]? = some p := ⟨_, List.getElem?_eq_getElem hjl⟩
            have hqs := HR.out.own.qsAt
            have c0 := hqs.at0 j p hpj
            have c1 := hqs.at1 j p hpj
            have c2 := hqs.at2 j p hpj
            have HPL := Lib.hid (HR.out.pt.conn p (List.mem_of_getElem? hpj)).right
            have HIP := Lib.hid (HOK.out.1.1 p HPL.out)
            have HPJ := Lib.hid hpj
            clear hqs hpj
            obtain ⟨px, py, ps⟩ := p
            simp only [add_at] at c0 c1 c2
            go_wp2_with fail
            refine (edges_any ⟨px, py, ps⟩ HIP.out wr).mono ?_
            rintro e w8 ⟨rfl, hB8⟩
            have HP8 := Lib.hid (HR.out.keep hB8)
            clear hB8 HR c0 c1 c2
            go_wp2_with fail
            go_loopw [13, 62] (fun pv z wr => ∃ (n : Nat) (part : List Q) (S : List (Q × Nat)), n ≤ 3 ∧ z = .int .i64 n ∧ Hid (PcP l w wr n0 n1 np vs S (.slice up us.length uc) us ls i ⟨x, y, s⟩ pv part j ∧ part[j]? = some ⟨px, py, ps⟩ ∧ ∀ e ∈ (edgesQ ⟨px, py, ps⟩).take n, ∀ r ∈ whoE l e, r ∈ part)) (fun _ z _ => 3 - (intOf z).toNat)
            case atStart => exact ⟨0, part, S', by omega, rfl, Lib.hid ⟨HP8.out, HPJ.out, fun e he => by simp at he⟩⟩
            case round =>
              clear HP8 HPJ
              obtain ⟨n, part, S', hn, rfl, HR⟩ := hrel
              obtain ⟨pp, pc, rfl⟩ := own_slice HR.out.1.own
              by_cases hn3 : n < 3
              · obtain ⟨ed, hed, hix⟩ := edge_get ⟨px, py, ps⟩ n hn3 wr
                have HED := Lib.hid hed
                obtain ⟨ie, ve, hve, hme, hzip⟩ := owners_at HOK.out.1.1 HVL.out.1 HPL.out (List.mem_of_getElem? hed)
                clear hed
                obtain ⟨ex, ey, ek⟩ := ed
                obtain ⟨row, hrw⟩ : ∃ row, whoE l ⟨ex, ey, ek⟩ = row := ⟨_, rfl⟩
                have hrl : row.length ≤ 400 := by
                  have : (whoE l ⟨ex, ey, ek⟩).length ≤ l.length := List.length_filter_le _ _
                  rw [hrw] at this; omega
                rw [hrw] at hme
                have HWH := Lib.hid hrw
                clear hrw
                have HEA : Hid (∀ (W : World) (S : List (Q × Nat)), PcI w W n0 n1 np (ownL [] l) vs S (.slice up us.length uc) us ls → HasQ W ve row) := Lib.hid (fun W S h => (h.each ie ve _ hve hme).1)
                obtain ⟨vp', vc', rfl⟩ := (HEA.out wr _ HR.out.1.pc).slice
                clear hve hme
                unfold E.val at hix
                have e3 : decide ((n : Int) < 3) = true := decide_eq_true (by omega)
                go_upto_region 22 with (fail)
                have hal : Below wr.heap.size wr (wr.alloc (.cells #[.int .i64 ex, .int .i64 ey, .int .i64 ek] 72)) := Below.alloc (Below.refl _ wr) (Nat.le_refl _) _
                have hR5 := And.intro (HR.out.1.keep hal) HR.out.2
                have hq5 : (wr.alloc (.cells #[.int .i64 ex, .int .i64 ey, .int .i64 ek] 72)).heap[wr.heap.size]? = some (.cells #[.int .i64 ex, .int .i64 ey, .int .i64 ek] 72) := World.alloc_heap_new wr _
                clear hal HR hix e3
                revert hR5 hq5
                generalize wr.alloc (.cells #[.int .i64 ex, .int .i64 ey, .int .i64 ek] 72) = W5
                generalize wr.heap.size = rb5
                intro hR5 hq5
                have d0 : W5.cell? ⟨rb5, 0, none⟩ = some (.int .i64 ex) := by simp [World.cell?, hq5]
                have d1 : W5.cell? ⟨rb5, 1, none⟩ = some (.int .i64 ey) := by simp [World.cell?, hq5]
                have d2 : W5.cell? ⟨rb5, 2, none⟩ = some (.int .i64 ek) := by simp [World.cell?, hq5]
                have hlook := run_lookup_hit encE Tryz.underlying96 hR5.1.pc.map0 (fun p hp => by obtain ⟨m, hm, hme⟩ := zipM_mem hp; rw [← hme]; exact HVL.out.2.1 m hm) (by rw [zipM_keys HVL.out.1]; exact HVL.out.2.2) hzip false
                unfold E.val at hlook
                simp only [Bool.false_eq_true, if_false] at hlook
                have HR5 := Lib.hid hR5
                clear hzip hq5 hR5
                go_wp2_with fail
                clear hlook d0 d1 d2
                go_loopw [13, 69] (fun pv z wr => ∃ (m : Nat) (part : List Q) (S : List (Q × Nat)), m ≤ row.length ∧ z = .int .i64 m ∧ Hid (PcP l w wr n0 n1 np vs S (.slice up us.length uc) us ls i ⟨x, y, s⟩ pv part j ∧ part[j]? = some ⟨px, py, ps⟩ ∧ (∀ e ∈ (edgesQ ⟨px, py, ps⟩).take n, ∀ r ∈ whoE l e, r ∈ part) ∧ ∀ r ∈ row.take m, r ∈ part)) (fun _ z _ => row.length - (intOf z).toNat)
                case atStart => exact ⟨0, part, S', by omega, rfl, Lib.hid ⟨HR5.out.1, HR5.out.2.1, HR5.out.2.2, fun r hr => by simp at hr⟩⟩
                case round =>
                  clear HR5
                  obtain ⟨m, part, S', hm, rfl, HR⟩ := hrel
                  obtain ⟨pp, pc, rfl⟩ := own_slice HR.out.1.own
                  by_cases hmr : m < row.length
                  · obtain ⟨r, hrm⟩ : ∃ r, row[m]? = some r := ⟨_, List.getElem?_eq_getElem hmr⟩
                    obtain ⟨av, rfl, hqs⟩ : ∃ a, vp' = some a ∧ QsAt wr a row := by
                      rcases HEA.out wr _ HR.out.1.pc with ⟨_, h⟩ | ⟨a, c, h1, _, _, h2⟩
                      · rw [h] at hmr; cases hmr
                      · simp only [Value.slice.injEq] at h1; exact ⟨a, h1.1, h2⟩
                    have c0 := hqs.at0 m r hrm
                    have c1 := hqs.at1 m r hrm
                    have c2 := hqs.at2 m r hrm
                    have hsr := share_of (List.mem_of_getElem? HED.out) (by rw [HWH.out]; exact List.mem_of_getElem? hrm : r ∈ whoE l ⟨ex, ey, ek⟩)
                    have HRL := Lib.hid hsr
                    have HIR := Lib.hid (HOK.out.1.1 r hsr.1)
                    have HRM := Lib.hid hrm
                    clear hqs hrm hsr
                    obtain ⟨rx, ry, rs⟩ := r
                    simp only at c0 c1 c2
                    go_upto_region 25 with (fail)
                    have hal : Below wr.heap.size wr (wr.alloc (.cells #[.int .i64 rx, .int .i64 ry, .int .i64 rs] 64)) := Below.alloc (Below.refl _ wr) (Nat.le_refl _) _
                    have hR9 := HR.out.1.keep hal
                    have hq9 : (wr.alloc (.cells #[.int .i64 rx, .int .i64 ry, .int .i64 rs] 64)).heap[wr.heap.size]? = some (.cells #[.int .i64 rx, .int .i64 ry, .int .i64 rs] 64) := World.alloc_heap_new wr _
                    have hn1 : n1 < wr.heap.size := by have := HR.out.1.pc.ord; omega
                    have HPM := Lib.hid HR.out.2
                    clear hal HR c0 c1 c2
                    revert hR9 hq9 hn1
                    generalize wr.alloc (.cells #[.int .i64 rx, .int .i64 ry, .int .i64 rs] 64) = W9
                    generalize wr.heap.size = rb9
                    intro hR9 hq9 hn1
                    have d0 : W9.cell? ⟨rb9, 0, none⟩ = some (.int .i64 rx) := by simp [World.cell?, hq9]
                    have d1 : W9.cell? ⟨rb9, 1, none⟩ = some (.int .i64 ry) := by simp [World.cell?, hq9]
                    have d2 : W9.cell? ⟨rb9, 2, none⟩ = some (.int .i64 rs) := by simp [World.cell?, hq9]
                    have hok : ∀ p ∈ shapeM S', inQ p.1 := fun p hp => by
                      have h1 : p.1 ∈ (shapeM S').map (·.1) := List.mem_map.2 ⟨p, hp, rfl⟩
                      rw [shapeM_keys] at h1
                      exact HOK.out.1.1 _ (hR9.inl _ h1)
                    have hnk : ((shapeM S').map (·.1)).Nodup := by rw [shapeM_keys]; exact hR9.keys
                    by_cases hmem : (⟨rx, ry, rs⟩ : Q) ∈ keysS S'
                    · have hlook := run_lookup_hit encQ Tryz.underlying99 hR9.pc.map1 hok hnk (mem_shapeM (shapeAt_mem hmem)) true
                      unfold Q.val at hlook
                      simp only [ite_true] at hlook
                      have HN : Hid (PcP l w W9 n0 n1 np vs S' (.slice up us.length uc) us ls i ⟨x, y, s⟩ (.slice pp part.length pc) part j ∧ part[j]? = some ⟨px, py, ps⟩ ∧ (∀ e ∈ (edgesQ ⟨px, py, ps⟩).take n, ∀ r ∈ whoE l e, r ∈ part) ∧ ∀ r ∈ row.take (m + 1), r ∈ part) := Lib.hid
                        ⟨hR9, HPM.out.1, HPM.out.2.1, snoc_all HRM.out HPM.out.2.2 (hR9.pt.had (List.mem_of_getElem? HPM.out.1) HRL.out.1 HRL.out.2 hmem)⟩
                      clear hmem hok hnk hR9 hq9
                      go_wp2_with fail
                      clear hlook d0 d1 d2
                      go_roundw
                      case rel => exact ⟨m + 1, part, S', by omega, by go_num, HN⟩
                      case measure => simp [intOf]; omega
                    · have hmiss : ∀ p ∈ shapeM S', p.1 ≠ (⟨rx, ry, rs⟩ : Q) := fun p hp e => hmem (by
                        have h1 : p.1 ∈ (shapeM S').map (·.1) := List.mem_map.2 ⟨p, hp, rfl⟩
                        rw [shapeM_keys, e] at h1; exact h1)
                      have hlook := run_lookup_miss encQ Tryz.underlying99 (Tryz.zeroValue3 W9) hR9.pc.map1 hok HIR.out hmiss true
                      have hup := run_update_miss encQ Tryz.underlying99 hR9.pc.map1 hok HIR.out hmiss (.int .i64 us.length)
                      rw [shapeM_snoc] at hup
                      have hP10 := hR9.pc.put (S' ++ [(⟨rx, ry, rs⟩, us.length)])
                      have hO10 : OwnQ (putM Q.val W9 n1 (shapeM (S' ++ [(⟨rx, ry, rs⟩, us.length)]))) np (.slice pp part.length pc) part := hR9.own.of_block fun k hk => putM_other W9 (by have := (hR9.own.lt k hk).1; have := hR9.pc.ord; omega) _
                      have hq10 : (putM Q.val W9 n1 (shapeM (S' ++ [(⟨rx, ry, rs⟩, us.length)]))).heap[rb9]? = some (.cells #[.int .i64 rx, .int .i64 ry, .int .i64 rs] 64) := (putM_other W9 (by omega) _).trans hq9
                      have HR9 := Lib.hid hR9
                      have HMM := Lib.hid hmem
                      clear hR9 hmem
                      revert hup hP10 hO10 hq10
                      generalize putM Q.val W9 n1 (shapeM (S' ++ [(⟨rx, ry, rs⟩, us.length)])) = W10
                      intro hup hP10 hO10 hq10
                      have e0 : W10.cell? ⟨rb9, 0, none⟩ = some (.int .i64 rx) := by simp [World.cell?, hq10]
                      have e1 : W10.cell? ⟨rb9, 1, none⟩ = some (.int .i64 ry) := by simp [World.cell?, hq10]
                      have e2 : W10.cell? ⟨rb9, 2, none⟩ = some (.int .i64 rs) := by simp [World.cell?, hq10]
                      have hps : part.length ≤ 400 := by have := HR9.out.short; omega
                      have hnp : np ≤ W10.heap.size := hP10.ord.2.2.2
                      have HP10 := Lib.hid hP10
                      have HO10 := Lib.hid hO10
                      unfold Q.val at hlook hup
                      simp only [ite_true] at hlook
                      have HM1 : Hid (part.length + 1 ≤ maxLen) := Lib.hid (by simp only [maxLen]; omega)
                      have HM2 : Hid ((part.length + 1) * 24 ≤ 140737488355328) := Lib.hid (by omega)
                      have HROW : Hid (W10.ownsRow np 64 3 (.slice pp part.length pc) part.length (qCells part)) := Lib.hid hO10
                      obtain ⟨iQ, hiQ, hzQ, hsQ, hbQ⟩ := info_parts infoQ
                      clear hok hnk hq9 hq10 hmiss hP10 hO10
                      go_wp2_with (first
                        | (at_builtin; refine wpList_append_own _ rfl _ _ 22 rfl np 64 iQ _ 3 24 Tryz.underlying22 hiQ hzQ hsQ hbQ rfl (by decide) (.slice pp part.length pc) part.length (qCells part) rfl (HROW.out.alloc _) ⟨W10.heap.size, 0, none⟩ 1 1 (qVals ⟨rx, ry, rs⟩) rfl rfl (qVals_at ⟨rx, ry, rs⟩) (qVals_one _) HM1.out HM2.out (by rw [World.size_alloc]; omega) ?_; intro v' w4 hown' hgrow _; obtain ⟨p'', c'', rfl⟩ := own_slice hown'))
                      have hga : W10.grownBy w4 (Value.slice pp part.length pc).ownBlock := ⟨hgrow.os, hgrow.tape, hgrow.output, Nat.le_trans (by simp) hgrow.size, fun k hk hne => (hgrow.block k (by simp; omega) hne).trans (Below.heap_alloc _ _ _ hk)⟩
                      have hBn : Below np W10 w4 := (Below.refl np W10).grown hga hnp (fun k hk => (HROW.out.lt k hk).1)
                      have hO4 : OwnQ w4 np (.slice p'' (part.length + 1) c'') (part ++ [⟨rx, ry, rs⟩]) := by
                        unfold OwnQ
                        rw [qCells_snoc, List.length_append]
                        exact hown'
                      have HN : Hid (PcP l w w4 n0 n1 np vs (S' ++ [(⟨rx, ry, rs⟩, us.length)]) (.slice up us.length uc) us ls i ⟨x, y, s⟩ (.slice p'' (part.length + 1) c'') (part ++ [⟨rx, ry, rs⟩]) j ∧ (part ++ [⟨rx, ry, rs⟩])[j]? = some ⟨px, py, ps⟩ ∧ (∀ e ∈ (edgesQ ⟨px, py, ps⟩).take n, ∀ r ∈ whoE l e, r ∈ part ++ [⟨rx, ry, rs⟩]) ∧ ∀ r ∈ row.take (m + 1), r ∈ part ++ [⟨rx, ry, rs⟩]) := Lib.hid
                        ⟨HR9.out.grow (List.mem_of_getElem? HPM.out.1) HRL.out.1 HRL.out.2 HMM.out us.length (HP10.out.keep hBn) hO4, by rw [List.getElem?_append_left (List.getElem?_eq_some_iff.1 HPM.out.1).1]; exact HPM.out.1,
                          fun e he r hr => List.mem_append_left _ (HPM.out.2.1 e he r hr), snoc_all HRM.out (fun r hr => List.mem_append_left _ (HPM.out.2.2 r hr)) (by simp)⟩
                      clear hga hBn hO4 hown' hgrow hlook hup d0 d1 d2 e0 e1 e2 HP10 HO10 HROW HR9
                      go_roundw
                      case rel => exact ⟨m + 1, _, _, by omega, by go_num, HN⟩
                      case measure => simp [intOf]; omega
                  · obtain rfl : m = row.length := by omega
                    have HN : Hid (PcP l w wr n0 n1 np vs S' (.slice up us.length uc) us ls i ⟨x, y, s⟩ (.slice pp part.length pc) part j ∧ part[j]? = some ⟨px, py, ps⟩ ∧ ∀ e ∈ (edgesQ ⟨px, py, ps⟩).take (n + 1), ∀ r ∈ whoE l e, r ∈ part) := Lib.hid
                      ⟨HR.out.1, HR.out.2.1, snoc_all HED.out HR.out.2.2.1 (by rw [HWH.out]; have := HR.out.2.2.2; rwa [List.take_length] at this)⟩
                    clear HR
                    go_wp2_with fail
                    go_roundw
                    case rel => exact ⟨n + 1, part, S', by omega, by go_num, HN⟩
                    case measure => simp [intOf]; omega
              · obtain rfl : n = 3 := by omega
                have HN : Hid (PcP l w wr n0 n1 np vs S' (.slice up us.length uc) us ls i ⟨x, y, s⟩ (.slice pp part.length pc) part (j + 1)) := Lib.hid (by
                  have h := HR.out
                  refine ⟨h.1.pc, h.1.keys, h.1.own, h.1.pt, snoc_all h.2.1 h.1.done ?_, (List.getElem?_eq_some_iff.1 h.2.1).1⟩
                  rintro r hr ⟨e, e1, e2⟩
                  exact h.2.2 e (by rw [List.take_of_length_le (by rw [edgesQ_length]; exact Nat.le_refl _)]; exact e1) r (List.mem_filter.2 ⟨hr, by simpa using e2⟩))
                have hj1 : j + 1 ≤ part.length := HN.out.le
                have hpl1 : part.length ≤ l.length := HN.out.short
                clear HR
                go_wp2_with fail
                go_roundw
                case rel => exact ⟨j + 1, part, S', hj1, hpl1, by go_num, HN⟩
                case measure => simp [intOf]; omega
          · obtain rfl : j = part.length := by omega
            have hps : part.length ≤ 400 := by omega
            have hnp : np ≤ wr.heap.size := HR.out.pc.ord.2.2.2
            have HSRT := Lib.hid (sortQ_any np gp pc part wr HR.out.own hnp (by omega))
            have HGP := Lib.hid (HR.out.own.lt gp rfl).1
            go_wp2_with fail
            refine HSRT.out.mono ?_
            rintro e w9 ⟨rfl, l', hperm, hsrt, hown', hlen', hBB⟩
            rw [hlen'] at hown'
            have hP9 := HR.out.pc.keep (hBB.below hnp HGP.out)
            have HPC := Lib.hid (pieces_take HRK.out.2.2 HQI.out (lead_iff.2 HR.out.pt.lead) (sub_sorted HOK.out.1.2 hsrt (hperm.nodup_iff.2 HR.out.pt.nodup) (fun q hq => (HR.out.pt.conn q (hperm.mem_iff.1 hq)).right)) (fun q => hperm.mem_iff.trans (HR.out.pt.closed HR.out.done q)))
            have HKY : Hid ((keysS S').Nodup ∧ ∀ q, q ∈ keysS S' ↔ SeenQ l (i + 1) q) := Lib.hid ⟨HR.out.keys, HR.out.pt.stop HQI.out HR.out.done⟩
            have HP9 := Lib.hid hP9
            have HU9 := Lib.hid (OwnQ.mono hown' (by have := hP9.ord; omega : n1 + 1 ≤ np))
            have HROW : Hid (w9.ownsRow (n1 + 1) 22 1 (.slice up us.length uc) us.length us) := Lib.hid (by have := hP9.res.row; exact this)
            have hsz9 : n1 + 1 ≤ w9.heap.size := by have := hP9.ord; omega
            clear hP9 hown' hBB hperm hsrt HSRT HR
            have hus : us.length ≤ 400 := by have := HUL.out; omega
            have HM1 : Hid (us.length + 1 ≤ maxLen) := Lib.hid (by simp only [maxLen]; omega)
            have HM2 : Hid ((us.length + 1) * 24 ≤ 140737488355328) := Lib.hid (by omega)
            obtain ⟨iQ, hiQ, hzQ, hsQ, hbQ⟩ := info_parts infoQs
            go_wp2_with (first
              | (at_builtin; refine wpList_append_own _ rfl _ _ 43 rfl (n1 + 1) 22 iQ _ 1 24 Tryz.underlying43 hiQ hzQ hsQ hbQ rfl (by decide) (.slice up us.length uc) us.length us rfl (HROW.out.alloc _) ⟨w9.heap.size, 0, none⟩ 1 1 [.slice (some ⟨gp, 0, none⟩) part.length pc] rfl rfl (one_at _ _ _) (by simp [Value.oneCell']) HM1.out HM2.out (by rw [World.size_alloc]; omega) ?_; intro v' w4 hown4 hgrow _; obtain ⟨p'', c'', rfl⟩ := own_slice hown4))
            have hq4 := HP9.out.res.snoc HU9.out hown4 hgrow
            have hga : w9.grownBy w4 (Value.slice up us.length uc).ownBlock := ⟨hgrow.os, hgrow.tape, hgrow.output, Nat.le_trans (by simp) hgrow.size, fun k hk hne => (hgrow.block k (by simp; omega) hne).trans (Below.heap_alloc _ _ _ hk)⟩
            have hBn : Below (n1 + 1) w9 w4 := (Below.refl (n1 + 1) w9).grown hga hsz9 (fun k hk => (HROW.out.lt k hk).1)
            have HN : Hid (PcI w w4 n0 n1 w4.heap.size (ownL [] l) vs S' (.slice p'' (us.length + 1) c'') (us ++ [.slice (some ⟨gp, 0, none⟩) part.length pc]) (ls ++ [l']) ∧ (keysS S').Nodup ∧ (∀ q, q ∈ keysS S' ↔ SeenQ l (i + 1) q) ∧ IsPieces l (i + 1) (ls ++ [l'])) := Lib.hid ⟨HP9.out.next hBn hq4, HKY.out.1, HKY.out.2, HPC.out⟩
            clear hq4 hga hBn hown4 hgrow
            go_roundw
            case rel => exact ⟨i + 1, _, _, S', by omega, by rw [List.length_append, List.length_singleton]; omega, by go_num, HN⟩
            case measure => simp [intOf]; omega
    · obtain rfl : i = l.length := by omega
      go_wp2_with fail
      go_ret2
      exact ⟨_, ls, by rw [HC.out]; rfl, HR.out.1.res.has, fun h => absurd HC.out h, fun _ => HR.out.2.2.2, HR.out.1.below⟩
end Go.Proofs.YtimnmfjbfbkooaaGreatDoor

/- Plain maths: edges and pieces of a shape that is moved. -/
namespace Go.Proofs.YtimnmfjbfbkooaaGreatDoor
set_option linter.all false
set_option linter.unusedSimpArgs false
set_option linter.unusedVariables false
open Go.RowKit

/-! ### Edges under a movement -/
def okK (e : E) : Prop := 0 ≤ e.k ∧ e.k < 6
theorem okK_edge {q : Q} (h : okS q) {e : E} (he : e ∈ edgesQ q) : okK e := by
  obtain ⟨x, y, s⟩ := q
  unfold okS at h; simp only at h
  simp only [edgesQ, sideE, List.mem_cons, List.not_mem_nil, or_false] at he
  unfold okK
  rcases he with rfl | rfl | rfl <;> simp only <;> omega
/-- A movement of quarters that moves edges. -/
structure MovesE (f : Q → Q) (g : E → E) : Prop where
  ok : ∀ q, okS q → okS (f q)
  okE : ∀ e, okK e → okK (g e)
  inj : ∀ p q, okS p → okS q → f p = f q → p = q
  injE : ∀ a b, okK a → okK b → g a = g b → a = b
  edge : ∀ q, okS q → ∀ e, e ∈ edgesQ (f q) ↔ ∃ a ∈ edgesQ q, g a = e
theorem moves_id : MovesE id id where
  ok := fun _ h => h
  okE := fun _ h => h
  inj := fun _ _ _ _ h => h
  injE := fun _ _ _ _ h => h
  edge := fun q _ e => ⟨fun h => ⟨e, h, rfl⟩, fun ⟨_, h, e⟩ => e ▸ h⟩
theorem MovesE.comp {f f' : Q → Q} {g g' : E → E} (h : MovesE f g) (h' : MovesE f' g') : MovesE (fun q => f (f' q)) (fun e => g (g' e)) where
  ok := fun q hq => h.ok _ (h'.ok q hq)
  okE := fun e he => h.okE _ (h'.okE e he)
  inj := fun p q hp hq e => h'.inj p q hp hq (h.inj _ _ (h'.ok p hp) (h'.ok q hq) e)
  injE := fun a b ha hb e => h'.injE a b ha hb (h.injE _ _ (h'.okE a ha) (h'.okE b hb) e)
  edge := fun q hq e => by
    rw [h.edge _ (h'.ok q hq)]
    constructor
    · rintro ⟨a, ha, rfl⟩
      obtain ⟨b, hb, rfl⟩ := (h'.edge q hq a).1 ha
      exact ⟨b, hb, rfl⟩
    · rintro ⟨b, hb, rfl⟩
      exact ⟨g' b, (h'.edge q hq _).2 ⟨b, hb, rfl⟩, rfl⟩
theorem moves_sh (dx dy : Int) : MovesE (sh dx dy) (fun e => ⟨e.x + dx, e.y + dy, e.k⟩) where
  ok := fun _ h => h
  okE := fun _ h => h
  inj := fun p q _ _ e => by
    unfold sh at e; simp only [Q.mk.injEq] at e
    exact Q.ext' (by omega) (by omega) e.2.2
  injE := fun a b _ _ e => by
    simp only [E.mk.injEq] at e
    exact E.ext' (by omega) (by omega) e.2.2
  edge := fun q _ e => by
    obtain ⟨x, y, s⟩ := q
    have : edgesQ (sh dx dy ⟨x, y, s⟩) = (edgesQ ⟨x, y, s⟩).map fun e => ⟨e.x + dx, e.y + dy, e.k⟩ := by
      simp only [edgesQ, sideE, sh, List.map_cons, List.map_nil, List.cons.injEq, E.mk.injEq, and_true, true_and]
      constructor <;> split <;> omega
    rw [this, List.mem_map]
def turnE (e : E) : E := if e.k < 4 then ⟨-e.y, e.x, (e.k + 3) % 4⟩ else if e.k = 4 then ⟨1 - e.y, e.x, 5⟩ else ⟨-e.y, e.x, 4⟩
theorem moves_turn : MovesE trT turnE where
  ok := fun _ _ => by unfold okS trT; simp only; omega
  okE := fun e h => by
    unfold okK turnE at *
    split
    · simp only; omega
    · split <;> simp
  inj := fun p q hp hq e => by
    unfold trT okS at *; simp only [Q.mk.injEq] at e
    exact Q.ext' (by omega) (by omega) (by omega)
  injE := fun a b ha hb e => by
    unfold turnE okK at *
    obtain ⟨x, y, k⟩ := a
    obtain ⟨u, v, m⟩ := b
    simp only at e ha hb
    repeat' split at e
    all_goals (simp only [E.mk.injEq] at e; exact E.ext' (by simp only; omega) (by simp only; omega) (by simp only; omega))
  edge := fun q hq e => by
    obtain ⟨x, y, s⟩ := q
    unfold okS at hq; simp only at hq
    have : edgesQ (trT ⟨x, y, s⟩) = (edgesQ ⟨x, y, s⟩).map turnE := by
      rcases (by omega : s = 0 ∨ s = 1 ∨ s = 2 ∨ s = 3) with rfl | rfl | rfl | rfl <;>
        (simp [edgesQ, sideE, trT, turnE]) <;> omega
    rw [this, List.mem_map]
def flipE (e : E) : E := if e.k < 4 then ⟨-e.x, e.y, 3 - e.k⟩ else if e.k = 4 then ⟨-e.x, e.y, 4⟩ else ⟨1 - e.x, e.y, 5⟩
theorem moves_flip : MovesE trM flipE where
  ok := fun _ _ => by unfold okS trM; simp only; omega
  okE := fun e h => by
    unfold okK flipE at *
    split
    · simp only; omega
    · split <;> simp
  inj := fun p q hp hq e => by
    unfold trM okS at *; simp only [Q.mk.injEq] at e
    exact Q.ext' (by omega) (by omega) (by omega)
  injE := fun a b ha hb e => by
    unfold flipE okK at *
    obtain ⟨x, y, k⟩ := a
    obtain ⟨u, v, m⟩ := b
    simp only at e ha hb
    repeat' split at e
    all_goals (simp only [E.mk.injEq] at e; exact E.ext' (by simp only; omega) (by simp only; omega) (by simp only; omega))
  edge := fun q hq e => by
    obtain ⟨x, y, s⟩ := q
    unfold okS at hq; simp only at hq
    have : ∀ e, e ∈ edgesQ (trM ⟨x, y, s⟩) ↔ e ∈ (edgesQ ⟨x, y, s⟩).map flipE := by
      intro e
      rcases (by omega : s = 0 ∨ s = 1 ∨ s = 2 ∨ s = 3) with rfl | rfl | rfl | rfl <;>
        simp [edgesQ, sideE, trM, flipE]
      all_goals (first | exact or_left_comm | (rw [show (1 : Int) - (x + 1) = -x by omega]; exact or_left_comm) | (rw [show -x + 1 = 1 - x by omega]; exact or_left_comm) | skip)
    rw [this, List.mem_map]
theorem moves_turns : ∀ n, ∃ g, MovesE (trN n) g
  | 0 => ⟨id, moves_id⟩
  | n + 1 => by
    obtain ⟨g, h⟩ := moves_turns n
    exact ⟨_, moves_turn.comp h⟩
theorem moves_tr (b : Bool) (n : Nat) : ∃ g, MovesE (tr b n) g := by
  obtain ⟨g, h⟩ := moves_turns n
  cases b with
  | false => exact ⟨g, h⟩
  | true => exact ⟨_, h.comp moves_flip⟩
theorem moves_put (b : Bool) (n : Nat) (dx dy : Int) : ∃ g, MovesE (fun q => sh dx dy (tr b n q)) g := by
  obtain ⟨g, h⟩ := moves_tr b n
  exact ⟨_, (moves_sh dx dy).comp h⟩
/-! ### A shape and what it becomes -/
structure IsoQ (s t : List Q) (f : Q → Q) (g : E → E) : Prop where
  moves : MovesE f g
  ok : ∀ q ∈ s, okS q
  onto : ∀ r, r ∈ t ↔ ∃ q ∈ s, f q = r
  ns : s.Nodup
  nt : t.Nodup
theorem IsoQ.share {s t : List Q} {f : Q → Q} {g : E → E} (h : IsoQ s t f g) {p q : Q} (hp : p ∈ s) (hq : q ∈ s) : shareE (f p) (f q) ↔ shareE p q := by
  constructor
  · rintro ⟨e, h1, h2⟩
    obtain ⟨a, a1, a2⟩ := (h.moves.edge p (h.ok p hp) e).1 h1
    obtain ⟨b, b1, b2⟩ := (h.moves.edge q (h.ok q hq) e).1 h2
    have := h.moves.injE a b (okK_edge (h.ok p hp) a1) (okK_edge (h.ok q hq) b1) (a2.trans b2.symm)
    exact ⟨a, a1, this ▸ b1⟩
  · rintro ⟨e, h1, h2⟩
    exact ⟨g e, (h.moves.edge p (h.ok p hp) _).2 ⟨e, h1, rfl⟩, (h.moves.edge q (h.ok q hq) _).2 ⟨e, h2, rfl⟩⟩
theorem IsoQ.conn {s t : List Q} {f : Q → Q} {g : E → E} (h : IsoQ s t f g) {p q : Q} (hc : Conn s p q) : Conn t (f p) (f q) := by
  induction hc with
  | refl hp => exact .refl ((h.onto _).2 ⟨_, hp, rfl⟩)
  | step h1 h2 h3 ih => exact ih.step ((h.onto _).2 ⟨_, h2, rfl⟩) ((h.share h1.right h2).2 h3)
theorem IsoQ.conn' {s t : List Q} {f : Q → Q} {g : E → E} (h : IsoQ s t f g) {p : Q} (hp : p ∈ s) {r : Q} (hc : Conn t (f p) r) : ∃ q, f q = r ∧ Conn s p q := by
  induction hc with
  | refl _ => exact ⟨p, rfl, .refl hp⟩
  | step h1 h2 h3 ih =>
    obtain ⟨q, rfl, hq⟩ := ih
    obtain ⟨x, hx, rfl⟩ := (h.onto _).1 h2
    exact ⟨x, rfl, hq.step hx ((h.share hq.right hx).1 h3)⟩
theorem IsoQ.who {s t : List Q} {f : Q → Q} {g : E → E} (h : IsoQ s t f g) {e : E} (he : okK e) : (whoE t (g e)).length = (whoE s e).length := by
  have nmap : ((whoE s e).map f).Nodup := by
    unfold List.Nodup
    rw [List.pairwise_map]
    refine List.Pairwise.imp_of_mem ?_ (h.ns.sublist List.filter_sublist : (whoE s e).Nodup)
    intro a b ha hb hab e
    exact hab (h.moves.inj a b (h.ok a (List.mem_filter.1 ha).1) (h.ok b (List.mem_filter.1 hb).1) e)
  have nwho : (whoE t (g e)).Nodup := h.nt.sublist List.filter_sublist
  have hmem : ∀ r, r ∈ whoE t (g e) ↔ r ∈ (whoE s e).map f := by
    intro r
    rw [List.mem_map]
    unfold whoE
    rw [List.mem_filter, h.onto]
    constructor
    · rintro ⟨⟨q, hq, rfl⟩, h2⟩
      obtain ⟨a, a1, a2⟩ := (h.moves.edge q (h.ok q hq) _).1 (by simpa using h2)
      have := h.moves.injE a e (okK_edge (h.ok q hq) a1) he a2
      subst this
      exact ⟨q, List.mem_filter.2 ⟨hq, by simpa using a1⟩, rfl⟩
    · rintro ⟨q, hq, rfl⟩
      obtain ⟨h1, h2⟩ := List.mem_filter.1 hq
      exact ⟨⟨q, h1, rfl⟩, by simpa using (h.moves.edge q (h.ok q h1) _).2 ⟨e, by simpa using h2, rfl⟩⟩
  rw [show (whoE s e).length = ((whoE s e).map f).length by rw [List.length_map]]
  exact Nat.le_antisymm (nodup_le nwho fun x hx => (hmem x).1 hx) (nodup_le nmap fun x hx => (hmem x).2 hx)
/-- As many edges around it. -/
theorem IsoQ.border {s t : List Q} {f : Q → Q} {g : E → E} (h : IsoQ s t f g) {bs bt : List E} (ns : bs.Nodup) (nt : bt.Nodup) (ms : ∀ e, e ∈ bs ↔ oneP (whoE s e) = true) (mt : ∀ e, e ∈ bt ↔ oneP (whoE t e) = true) : bs.length = bt.length := by
  have okb : ∀ e ∈ bs, okK e := fun e he => by
    have h1 := (ms e).1 he
    unfold oneP at h1
    rw [decide_eq_true_eq] at h1
    obtain ⟨q, hq⟩ := List.length_eq_one_iff.1 h1
    have : q ∈ whoE s e := by rw [hq]; simp
    obtain ⟨h2, h3⟩ := List.mem_filter.1 this
    exact okK_edge (h.ok q h2) (by simpa using h3)
  have nmap : (bs.map g).Nodup := by
    unfold List.Nodup
    rw [List.pairwise_map]
    refine List.Pairwise.imp_of_mem ?_ ns
    intro a b ha hb hab e
    exact hab (h.moves.injE a b (okb a ha) (okb b hb) e)
  have hmem : ∀ e, e ∈ bt ↔ e ∈ bs.map g := by
    intro e
    rw [List.mem_map, mt]
    constructor
    · intro h1
      have h1' := h1
      unfold oneP at h1'
      rw [decide_eq_true_eq] at h1'
      obtain ⟨r, hr⟩ := List.length_eq_one_iff.1 h1'
      have : r ∈ whoE t e := by rw [hr]; simp
      obtain ⟨h2, h3⟩ := List.mem_filter.1 this
      obtain ⟨q, hq, rfl⟩ := (h.onto r).1 h2
      obtain ⟨a, a1, rfl⟩ := (h.moves.edge q (h.ok q hq) _).1 (by simpa using h3)
      refine ⟨a, (ms a).2 ?_, rfl⟩
      unfold oneP at h1 ⊢
      rw [h.who (okK_edge (h.ok q hq) a1)] at h1
      exact h1
    · rintro ⟨a, ha, rfl⟩
      have := (ms a).1 ha
      unfold oneP at this ⊢
      rw [h.who (okb a ha)]
      exact this
  rw [show bs.length = (bs.map g).length by rw [List.length_map]]
  exact Nat.le_antisymm (nodup_le nmap fun x hx => (hmem x).2 hx) (nodup_le nt fun x hx => (hmem x).1 hx)
/-- A relation under which no two of the first list meet: so it is no longer than the other one. -/
theorem rel_le {α β : Type} {R : α → β → Prop} : ∀ {l : List α} {m : List β}, l.Nodup → (∀ a ∈ l, ∃ b ∈ m, R a b) → (∀ a ∈ l, ∀ a' ∈ l, ∀ b, R a b → R a' b → a = a') → l.length ≤ m.length
  | [], m, _, _, _ => Nat.zero_le _
  | a :: l, m, h, h1, h2 => by
    rw [List.nodup_cons] at h
    obtain ⟨b, hb, hab⟩ := h1 a (by simp)
    obtain ⟨m1, m2, rfl⟩ := List.append_of_mem hb
    have := rel_le (R := R) (l := l) (m := m1 ++ m2) h.2 (fun x hx => by
      obtain ⟨c, hc, hxc⟩ := h1 x (by simp [hx])
      refine ⟨c, ?_, hxc⟩
      rcases List.mem_append.1 hc with hc | hc
      · exact List.mem_append_left _ hc
      · rcases List.mem_cons.1 hc with rfl | hc
        · have := h2 a (by simp) x (by simp [hx]) c hab hxc
          subst this
          exact absurd hx h.1
        · exact List.mem_append_right _ hc) (fun x hx y hy c => h2 x (by simp [hx]) y (by simp [hy]) c)
    simp only [List.length_append, List.length_cons] at this ⊢
    omega
theorem lead_exists {s : List Q} {p : Q} (hp : p ∈ s) : ∃ n q, s[n]? = some q ∧ LeadQ s n q ∧ Conn s q p := by
  obtain ⟨i, hi, e⟩ := List.getElem_of_mem hp
  have : ∀ (k i : Nat) (q : Q), i ≤ k → s[i]? = some q → Conn s q p → ∃ n q, s[n]? = some q ∧ LeadQ s n q ∧ Conn s q p := by
    intro k
    induction k with
    | zero =>
      intro i q hi hq hc
      obtain rfl : i = 0 := by omega
      exact ⟨0, q, hq, fun j r hj => by omega, hc⟩
    | succ k ih =>
      intro i q hi hq hc
      by_cases hl : LeadQ s i q
      · exact ⟨i, q, hq, hl, hc⟩
      · rw [lead_iff] at hl
        have hl := Classical.not_not.1 hl
        obtain ⟨j, r, hj, hr, hrq⟩ := hl
        exact ih j r (by omega) hr (hrq.trans hc)
  exact this i i p (Nat.le_refl _) (by rw [List.getElem?_eq_getElem hi, e]) (.refl hp)
theorem lead_unique {s : List Q} {n m : Nat} {p q : Q} (hp : s[n]? = some p) (hq : s[m]? = some q) (h1 : LeadQ s n p) (h2 : LeadQ s m q) (hc : Conn s p q) : n = m := by
  rcases Nat.lt_trichotomy n m with h | h | h
  · exact absurd hc (h2 n p h hp)
  · exact h
  · exact absurd hc.symm (h1 m q h hq)
theorem IsoQ.pieces_le {s t : List Q} {f : Q → Q} {g : E → E} (h : IsoQ s t f g) {ls ms : List (List Q)} (hl : IsPieces s s.length ls) (hm : IsPieces t t.length ms) : ls.length ≤ ms.length ∧ ms.length ≤ ls.length := by
  obtain ⟨fs, f1, f2, f3, _⟩ := hl.firsts
  obtain ⟨gs, g1, g2, g3, _⟩ := hm.firsts
  rw [f3, g3]
  have nf : fs.Nodup := f1.imp fun h e => by omega
  have ng : gs.Nodup := g1.imp fun h e => by omega
  constructor
  · refine rel_le (R := fun n m => ∃ p q, s[n]? = some p ∧ t[m]? = some q ∧ Conn t (f p) q) nf (fun n hn => ?_) (fun n hn n' hn' m => ?_)
    · obtain ⟨_, p, hp, hlead⟩ := (f2 n).1 hn
      obtain ⟨m, q, hq, hq', hc⟩ := lead_exists ((h.onto _).2 ⟨p, List.mem_of_getElem? hp, rfl⟩)
      exact ⟨m, (g2 m).2 ⟨(List.getElem?_eq_some_iff.1 hq).1, q, hq, hq'⟩, p, q, hp, hq, hc.symm⟩
    · rintro ⟨p, q, hp, hq, hc⟩ ⟨p', q', hp', hq', hc'⟩
      rw [hq] at hq'; cases hq'
      obtain ⟨_, a, ha, hla⟩ := (f2 n).1 hn
      obtain ⟨_, b, hb, hlb⟩ := (f2 n').1 hn'
      rw [hp] at ha; cases ha
      rw [hp'] at hb; cases hb
      obtain ⟨x, hx, hcx⟩ := h.conn' (List.mem_of_getElem? hp) (hc.trans hc'.symm)
      have hxp := h.moves.inj x p' (h.ok x hcx.right) (h.ok p' (List.mem_of_getElem? hp')) hx
      subst hxp
      exact lead_unique hp hp' hla hlb hcx
  · refine rel_le (R := fun m n => ∃ p q, s[n]? = some p ∧ t[m]? = some q ∧ Conn t (f p) q) ng (fun m hm => ?_) (fun m hm m' hm' n => ?_)
    · obtain ⟨_, q, hq, _⟩ := (g2 m).1 hm
      obtain ⟨x, hx, rfl⟩ := (h.onto q).1 (List.mem_of_getElem? hq)
      obtain ⟨n, p, hp, hlead, hc⟩ := lead_exists hx
      exact ⟨n, (f2 n).2 ⟨(List.getElem?_eq_some_iff.1 hp).1, p, hp, hlead⟩, p, _, hp, hq, h.conn hc⟩
    · rintro ⟨p, q, hp, hq, hc⟩ ⟨p', q', hp', hq', hc'⟩
      rw [hp] at hp'; cases hp'
      obtain ⟨_, a, ha, hla⟩ := (g2 m).1 hm
      obtain ⟨_, b, hb, hlb⟩ := (g2 m').1 hm'
      rw [hq] at ha; cases ha
      rw [hq'] at hb; cases hb
      exact lead_unique hq hq' hla hlb (hc.symm.trans hc')
end Go.Proofs.YtimnmfjbfbkooaaGreatDoor

/- Plain maths: counting the edges of many shapes; pieces have no joints. -/
namespace Go.Proofs.YtimnmfjbfbkooaaGreatDoor
set_option linter.all false
set_option linter.unusedSimpArgs false
set_option linter.unusedVariables false
open Go.RowKit

/-! ### Counting the edges of many shapes -/
theorem same_len {α : Type} [DecidableEq α] {l m : List α} (h1 : l.Nodup) (h2 : m.Nodup) (h : ∀ x, x ∈ l ↔ x ∈ m) : l.length = m.length :=
  Nat.le_antisymm (nodup_le h1 fun x hx => (h x).1 hx) (nodup_le h2 fun x hx => (h x).2 hx)
theorem who_flat (ls : List (List Q)) (e : E) : (whoE ls.flatten e).length = (ls.map fun l => (whoE l e).length).sum := by
  induction ls with
  | nil => rfl
  | cons l ls ih =>
    have : whoE (l :: ls).flatten e = whoE l e ++ whoE ls.flatten e := by unfold whoE; rw [List.flatten_cons, List.filter_append]
    rw [this, List.length_append, ih, List.map_cons, List.sum_cons]
theorem swap_sums {α β : Type} (P : α → β → Bool) (U : List β) : ∀ ls : List α, (ls.map fun l => (U.filter (P l)).length).sum = (U.map fun e => (ls.filter fun l => P l e).length).sum
  | [] => by
    induction U with
    | nil => rfl
    | cons a U ih => simpa using ih
  | l :: ls => by
    rw [List.map_cons, List.sum_cons, swap_sums P U ls]
    clear swap_sums
    induction U with
    | nil => rfl
    | cons a U ih =>
      rw [List.map_cons, List.map_cons, List.sum_cons, List.sum_cons]
      have e1 : ((l :: ls).filter fun x => P x a).length = (if P l a then 1 else 0) + (ls.filter fun x => P x a).length := by
        rw [List.filter_cons]; split <;> simp <;> omega
      have e2 : ((a :: U).filter (P l)).length = (if P l a then 1 else 0) + (U.filter (P l)).length := by
        rw [List.filter_cons]; split <;> simp <;> omega
      rw [e1, e2]; omega
theorem split_sums {β : Type} (a b : β → Bool) : ∀ U : List β, (U.map fun e => (if a e then 1 else 0) + 2 * (if b e then 1 else 0)).sum = (U.filter a).length + 2 * (U.filter b).length
  | [] => rfl
  | e :: U => by
    have := split_sums a b U
    simp only [List.map_cons, List.sum_cons, List.filter_cons]
    cases a e <;> cases b e <;> simp <;> omega
theorem ones_twos (c : List Nat) (h : ∀ n ∈ c, n ≤ 2) : c.sum = (c.filter (· == 1)).length + 2 * (c.filter (· == 2)).length := by
  induction c with
  | nil => rfl
  | cons n c ih =>
    have h1 := ih fun m hm => h m (by simp [hm])
    have h2 := h n (by simp)
    rcases (by omega : n = 0 ∨ n = 1 ∨ n = 2) with rfl | rfl | rfl <;> simp <;> omega
theorem le_sum {n : Nat} : ∀ {c : List Nat}, n ∈ c → n ≤ c.sum
  | [], h => by cases h
  | a :: c, h => by
    rw [List.sum_cons]
    rcases List.mem_cons.1 h with rfl | h
    · omega
    · have := le_sum h; omega
theorem who_le {f : List Q} (hn : f.Nodup) (hq : ∀ q ∈ f, inQ q) (e : E) : (whoE f e).length ≤ 2 := by
  have hnd : (whoE f e).Nodup := hn.sublist List.filter_sublist
  have hmem : ∀ r ∈ whoE f e, inQ r ∧ e ∈ edgesQ r := fun r hr => by
    obtain ⟨r1, r2⟩ := List.mem_filter.1 hr
    exact ⟨hq r r1, by simpa using r2⟩
  generalize whoE f e = W at hnd hmem
  rcases W with _ | ⟨a, _ | ⟨b, _ | ⟨c, t⟩⟩⟩
  · simp
  · simp
  · simp
  · simp only [List.nodup_cons, List.mem_cons, not_or] at hnd
    obtain ⟨a1, a2⟩ := hmem a (by simp)
    obtain ⟨b1, b2⟩ := hmem b (by simp)
    obtain ⟨c1, c2⟩ := hmem c (by simp)
    rcases edge_third a1 b1 c1 a2 b2 c2 hnd.1.1 with h | h
    · exact absurd h.symm hnd.1.2.1
    · exact absurd h.symm hnd.2.1.1
theorem edge_count {ls : List (List Q)} (hn : ls.flatten.Nodup) (hq : ∀ q ∈ ls.flatten, inQ q) (e : E) :
    (ls.filter fun l => oneP (whoE l e)).length = (if oneP (whoE ls.flatten e) then 1 else 0) + 2 * (if jointP (shapesFrom 0 ls) (whoE ls.flatten e) then 1 else 0) := by
  have hle := who_le hn hq e
  have hsum := who_flat ls e
  have hc := ones_twos (ls.map fun l => (whoE l e).length) (fun n hnc => by have := le_sum hnc; omega)
  have e1 : ((ls.map fun l => (whoE l e).length).filter (· == 1)).length = (ls.filter fun l => oneP (whoE l e)).length := by
    rw [List.filter_map, List.length_map]
    congr 1
  have e2 : ((ls.map fun l => (whoE l e).length).filter (· == 2)).length = (ls.filter fun l => decide ((whoE l e).length = 2)).length := by
    rw [List.filter_map, List.length_map]
    congr 1
  rw [e1, e2, ← hsum] at hc
  have hwm : ∀ r ∈ whoE ls.flatten e, r ∈ ls.flatten ∧ e ∈ edgesQ r := fun r hr => by
    obtain ⟨r1, r2⟩ := List.mem_filter.1 hr
    exact ⟨r1, by simpa using r2⟩
  have hwn : (whoE ls.flatten e).Nodup := hn.sublist List.filter_sublist
  have hback : ∀ l ∈ ls, ∀ r ∈ whoE l e, r ∈ whoE ls.flatten e := fun l hl r hr => by
    obtain ⟨r1, r2⟩ := List.mem_filter.1 hr
    exact List.mem_filter.2 ⟨List.mem_flatten.2 ⟨l, hl, r1⟩, r2⟩
  generalize whoE ls.flatten e = W at *
  rcases W with _ | ⟨a, _ | ⟨b, _ | ⟨c, t⟩⟩⟩
  · rw [if_neg (by simp [oneP]), if_neg (by simp [jointP])]
    simp only [List.length_nil] at hc; omega
  · rw [if_pos (by simp [oneP]), if_neg (by simp [jointP])]
    simp only [List.length_cons, List.length_nil] at hc; omega
  · obtain ⟨a1, a2⟩ := hwm a (by simp)
    obtain ⟨b1, b2⟩ := hwm b (by simp)
    obtain ⟨l, hl, hal⟩ := List.mem_flatten.1 a1
    obtain ⟨m, hm, hbm⟩ := List.mem_flatten.1 b1
    obtain ⟨i, hi, rfl⟩ := List.getElem_of_mem hl
    obtain ⟨k, hk, rfl⟩ := List.getElem_of_mem hm
    have gi := List.getElem?_eq_getElem hi
    have gk := List.getElem?_eq_getElem hk
    have sa := shape_of hn gi hal
    have sb := shape_of hn gk hbm
    rw [if_neg (by simp [oneP])]
    simp only [jointP, sa, sb]
    simp only [List.length_cons, List.length_nil] at hc
    by_cases hik : i = k
    · subst hik
      have hpos : 0 < (ls.filter fun l => decide ((whoE l e).length = 2)).length := by
        refine List.length_pos_of_mem (List.mem_filter.2 ⟨hl, ?_⟩)
        rw [decide_eq_true_eq]
        refine same_len (m := [a, b]) ((part_nodup hn gi).sublist List.filter_sublist) hwn (fun x => ⟨fun hx => hback _ hl x hx, fun hx => ?_⟩)
        rcases List.mem_cons.1 hx with rfl | hx
        · exact List.mem_filter.2 ⟨hal, by simpa using a2⟩
        · rw [List.mem_singleton] at hx; subst hx
          exact List.mem_filter.2 ⟨hbm, by simpa using b2⟩
      rw [if_neg (by simp)]; omega
    · have hzero : (ls.filter fun l => decide ((whoE l e).length = 2)) = [] := by
        rw [List.filter_eq_nil_iff]
        intro x hx hx2
        rw [decide_eq_true_eq] at hx2
        obtain ⟨j, hj, rfl⟩ := List.getElem_of_mem hx
        have gj := List.getElem?_eq_getElem hj
        have nj : (whoE ls[j] e).Nodup := (part_nodup hn gj).sublist List.filter_sublist
        have hsub := hback _ hx
        have hin : ∀ y ∈ [a, b], y ∈ whoE ls[j] e := by
          intro y hy
          by_cases hyn : y ∈ whoE ls[j] e
          · exact hyn
          · have := nodup_le (m := [a, b].erase y) nj (fun z hz => (List.mem_erase_of_ne (fun e => hyn (by rw [← e]; exact hz))).2 (hsub z hz))
            rw [List.length_erase_of_mem hy, hx2] at this
            simp at this
        have ia := (List.mem_filter.1 (hin a (by simp))).1
        have ib := (List.mem_filter.1 (hin b (by simp))).1
        exact hik ((flat_at hn gi gj hal ia).trans (flat_at hn gj gk ib hbm))
      rw [hzero, List.length_nil] at hc
      rw [if_pos (by simpa using hik)]; omega
  · simp at hle
theorem borders_count {ls : List (List Q)} (hn : ls.flatten.Nodup) (hq : ∀ q ∈ ls.flatten, inQ q) {U B J : List E} {bord : List Q → List E}
    (hU : U.Nodup) (hUm : ∀ e, whoE ls.flatten e ≠ [] → e ∈ U) (hb : ∀ l ∈ ls, (bord l).Nodup ∧ ∀ e, e ∈ bord l ↔ oneP (whoE l e) = true)
    (hB : B.Nodup) (hBm : ∀ e, e ∈ B ↔ oneP (whoE ls.flatten e) = true) (hJ : J.Nodup) (hJm : ∀ e, e ∈ J ↔ jointP (shapesFrom 0 ls) (whoE ls.flatten e) = true) :
    (ls.map fun l => (bord l).length).sum = B.length + 2 * J.length := by
  have hU1 : ∀ l ∈ ls, (bord l).length = (U.filter fun e => oneP (whoE l e)).length := fun l hl => by
    refine same_len (hb l hl).1 (hU.sublist List.filter_sublist) fun e => ?_
    rw [List.mem_filter, (hb l hl).2]
    refine ⟨fun h => ⟨hUm e fun h0 => ?_, h⟩, fun h => h.2⟩
    unfold oneP at h
    rw [decide_eq_true_eq] at h
    obtain ⟨q, hq'⟩ := List.length_eq_one_iff.1 h
    have hm : q ∈ whoE l e := by rw [hq']; simp
    obtain ⟨r1, r2⟩ := List.mem_filter.1 hm
    have : q ∈ whoE ls.flatten e := List.mem_filter.2 ⟨List.mem_flatten.2 ⟨l, hl, r1⟩, r2⟩
    rw [h0] at this; cases this
  have e1 : (ls.map fun l => (bord l).length) = ls.map fun l => (U.filter fun e => oneP (whoE l e)).length := List.map_congr_left hU1
  rw [e1, swap_sums (fun l e => oneP (whoE l e)) U ls]
  have e2 : (U.map fun e => (ls.filter fun l => oneP (whoE l e)).length) = U.map fun e => (if oneP (whoE ls.flatten e) then 1 else 0) + 2 * (if jointP (shapesFrom 0 ls) (whoE ls.flatten e) then 1 else 0) := List.map_congr_left fun e _ => edge_count hn hq e
  rw [e2, split_sums]
  have e3 : (U.filter fun e => oneP (whoE ls.flatten e)).length = B.length := by
    refine same_len (hU.sublist List.filter_sublist) hB fun e => ?_
    rw [List.mem_filter, hBm]
    exact ⟨fun h => h.2, fun h => ⟨hUm e (fun h0 => by rw [h0] at h; cases h), h⟩⟩
  have e4 : (U.filter fun e => jointP (shapesFrom 0 ls) (whoE ls.flatten e)).length = J.length := by
    refine same_len (hU.sublist List.filter_sublist) hJ fun e => ?_
    rw [List.mem_filter, hJm]
    exact ⟨fun h => h.2, fun h => ⟨hUm e (fun h0 => by rw [h0] at h; cases h), h⟩⟩
  rw [e3, e4]
/-! ### The pieces of a shape have no joints -/
theorem pieces_at {s : List Q} {ls : List (List Q)} (h : IsPieces s s.length ls) : ∃ fs : List Nat, fs.Pairwise (· < ·) ∧ ls.length = fs.length ∧ (∀ n, n ∈ fs ↔ n < s.length ∧ ∃ p, s[n]? = some p ∧ LeadQ s n p) ∧
    ∀ (k : Nat) (l : List Q), ls[k]? = some l → ∃ n p, fs[k]? = some n ∧ s[n]? = some p ∧ LeadQ s n p ∧ l.Sublist s ∧ ∀ q, q ∈ l ↔ Conn s p q := by
  obtain ⟨fs, f1, f2, f3, f4⟩ := h.firsts
  refine ⟨fs, f1, f3, f2, fun k l hl => ?_⟩
  have hk := (List.getElem?_eq_some_iff.1 hl).1
  have gk := List.getElem?_eq_getElem (l := fs) (i := k) (by omega)
  obtain ⟨_, p, hp, hlead⟩ := (f2 _).1 (List.mem_of_getElem? gk)
  obtain ⟨h1, h2⟩ := f4 k _ p l gk hp hl
  exact ⟨_, p, gk, hp, hlead, h1, h2⟩
theorem pieces_apart {s : List Q} {ls : List (List Q)} (h : IsPieces s s.length ls) {i k : Nat} {l m : List Q} {p q : Q} (hi : ls[i]? = some l) (hk : ls[k]? = some m) (hp : p ∈ l) (hq : q ∈ m) (hc : Conn s p q) : i = k := by
  obtain ⟨fs, f1, f3, f2, f4⟩ := pieces_at h
  obtain ⟨n, a, a1, a2, a3, a4, a5⟩ := f4 i l hi
  obtain ⟨n', b, b1, b2, b3, b4, b5⟩ := f4 k m hk
  have h1 := ((a5 p).1 hp).trans (hc.trans ((b5 q).1 hq).symm)
  have := lead_unique a2 b2 a3 b3 h1
  subst this
  obtain ⟨c1, c2⟩ := List.getElem?_eq_some_iff.1 a1
  obtain ⟨d1, d2⟩ := List.getElem?_eq_some_iff.1 b1
  exact (List.getElem_inj (f1.imp fun h e => by omega : fs.Nodup)).1 (c2.trans d2.symm)
theorem pieces_part {s : List Q} {ls : List (List Q)} (h : IsPieces s s.length ls) {l : List Q} (hl : l ∈ ls) : l ≠ [] ∧ l.Sublist s := by
  obtain ⟨fs, f1, f3, f2, f4⟩ := pieces_at h
  obtain ⟨k, hk, rfl⟩ := List.getElem_of_mem hl
  obtain ⟨n, a, a1, a2, a3, a4, a5⟩ := f4 k _ (List.getElem?_eq_getElem hk)
  refine ⟨fun e => ?_, a4⟩
  have := (a5 a).2 (.refl (List.mem_of_getElem? a2))
  rw [e] at this; cases this
theorem pieces_nodup {s : List Q} (hn : s.Nodup) {ls : List (List Q)} (h : IsPieces s s.length ls) : ls.flatten.Nodup :=
  flat_nodup (fun l hl => hn.sublist (pieces_part h hl).2) (fun i k l m hki hi hk q hq hq' => by
    have := pieces_apart h hi hk hq hq' (.refl ((pieces_part h (List.mem_of_getElem? hi)).2.subset hq))
    omega)
theorem pieces_mem {s : List Q} {ls : List (List Q)} (h : IsPieces s s.length ls) (q : Q) : q ∈ ls.flatten ↔ q ∈ s := by
  constructor
  · intro hq
    obtain ⟨l, hl, hq⟩ := List.mem_flatten.1 hq
    exact (pieces_part h hl).2.subset hq
  · intro hq
    obtain ⟨n, p, hp, hlead, hc⟩ := lead_exists hq
    obtain ⟨fs, f1, f3, f2, f4⟩ := pieces_at h
    obtain ⟨k, hk, e⟩ := List.getElem_of_mem ((f2 n).2 ⟨(List.getElem?_eq_some_iff.1 hp).1, p, hp, hlead⟩)
    have gk := List.getElem?_eq_getElem (l := ls) (i := k) (by omega)
    obtain ⟨n', a, a1, a2, a3, a4, a5⟩ := f4 k _ gk
    rw [List.getElem?_eq_getElem hk, e] at a1
    cases a1
    rw [hp] at a2; cases a2
    exact List.mem_flatten.2 ⟨_, List.mem_of_getElem? gk, (a5 q).2 hc⟩
theorem pieces_sum {s : List Q} (hn : s.Nodup) {ls : List (List Q)} (h : IsPieces s s.length ls) : (ls.map List.length).sum = s.length := by
  rw [← List.length_flatten]
  exact same_len (pieces_nodup hn h) hn (pieces_mem h)
theorem pieces_joint {s : List Q} {ls : List (List Q)} (h : IsPieces s s.length ls) (e : E) : ¬ linkJ ls e := by
  rintro ⟨i, k, l, m, hki, hi, hk, p, hp, h1, q, hq, h2⟩
  have sp := (pieces_part h (List.mem_of_getElem? hi)).2.subset hp
  have sq := (pieces_part h (List.mem_of_getElem? hk)).2.subset hq
  have := pieces_apart h hi hk hp hq ((Conn.refl sp).step sq ⟨e, h1, h2⟩)
  omega
end Go.Proofs.YtimnmfjbfbkooaaGreatDoor

/- Plain law of BrickBorders. -/
namespace Go.Proofs.YtimnmfjbfbkooaaGreatDoor
set_option linter.all false
set_option linter.unusedSimpArgs false
set_option linter.unusedVariables false
open Go.RowKit

/-! ### All quarters of a set, in their order -/
def nthQ (n : Nat) : Q := ⟨(n / 4 % 16 : Nat), (n / 64 : Nat), (n % 4 : Nat)⟩
def wholeN (S : List Q) (n : Nat) : List Q := ((List.range n).map nthQ).filter fun q => decide (q ∈ S)
theorem wholeN_step (S : List Q) (n : Nat) : wholeN S (n + 1) = wholeN S n ++ if nthQ n ∈ S then [nthQ n] else [] := by
  unfold wholeN
  rw [List.range_succ, List.map_append, List.filter_append, List.map_cons, List.map_nil]
  congr 1
  by_cases h : nthQ n ∈ S <;> simp [h]
theorem nthQ_at (y x s : Nat) (hx : x < 16) (hs : s < 4) : nthQ (y * 64 + x * 4 + s) = ⟨x, y, s⟩ := by
  unfold nthQ
  refine Q.ext' ?_ ?_ ?_ <;> simp only <;> omega
theorem nthQ_lt {i j : Nat} (h : i < j) : Q.lt (nthQ i) (nthQ j) := by
  unfold nthQ Q.lt
  simp only
  omega
theorem wholeN_srt (S : List Q) (n : Nat) : Srt (wholeN S n) := by
  unfold wholeN
  refine List.Pairwise.filter _ ?_
  rw [List.pairwise_map]
  exact List.pairwise_lt_range.imp fun h => nthQ_lt h
theorem mem_wholeN {S : List Q} (hS : ∀ q ∈ S, inQ q) (q : Q) : q ∈ wholeN S 1024 ↔ q ∈ S := by
  unfold wholeN
  rw [List.mem_filter, decide_eq_true_eq]
  refine ⟨fun h => h.2, fun h => ⟨?_, h⟩⟩
  obtain ⟨x, y, s, rfl, hx, hy, hs⟩ := inQ_nat (hS q h)
  exact List.mem_map.2 ⟨y * 64 + x * 4 + s, List.mem_range.2 (by omega), nthQ_at y x s hx hs⟩
theorem wholeN_le (S : List Q) (n : Nat) : (wholeN S n).length ≤ n := by
  unfold wholeN
  refine Nat.le_trans (List.length_filter_le _ _) ?_
  rw [List.length_map, List.length_range]
  exact Nat.le_refl _
theorem whole_valid {S : List Q} (hS : ∀ q ∈ S, inQ q) (hne : S ≠ []) (hl : (wholeN S 1024).length ≤ 400) : checkN (wholeN S 1024) = 0 := by
  have hn : wholeN S 1024 ≠ [] := by
    intro e
    obtain ⟨q, hq⟩ := List.exists_mem_of_ne_nil _ hne
    have := (mem_wholeN hS q).2 hq
    rw [e] at this; cases this
  unfold checkN
  rw [if_neg (by omega), if_pos ⟨⟨fun q hq => hS q ((mem_wholeN hS q).1 hq), wholeN_srt S 1024⟩, hn⟩]
theorem part_valid {s l : List Q} (hc : checkN s = 0) (h : l.Sublist s) (hne : l ≠ []) : checkN l = 0 := by
  obtain ⟨h1, _, h3⟩ := checkN_ok hc
  have := h.length_le
  unfold checkN
  rw [if_neg (by omega), if_pos ⟨⟨fun q hq => h1.1 q (h.subset hq), h1.2.sublist h⟩, hne⟩]
theorem checks_all : ∀ {ls : List (List Q)}, (∀ l ∈ ls, checkN l = 0) → checks ls = 0
  | [], _ => rfl
  | l :: ls, h => by rw [checks, if_pos (h l (by simp))]; exact checks_all fun m hm => h m (by simp [hm])
/-! ### The counts -/
theorem code_zero {ls : List (List Q)} (h : jointsCode ls = 0) : checks ls = 0 ∧ ls.flatten.Nodup := by
  unfold jointsCode at h
  split at h
  · cases h
  · split at h
    · rename_i h1; exact absurd h h1
    · rename_i h1
      split at h
      · rename_i h2; exact ⟨Classical.not_not.1 h1, h2⟩
      · cases h
theorem sum_borders {ls : List (List Q)} (hc : jointsCode ls = 0) (hl : (wholeN ls.flatten 1024).length ≤ 400) (hne : ls ≠ []) :
    checkN (wholeN ls.flatten 1024) = 0 ∧ (ls.map fun l => (borderE l).length).sum = (borderE (wholeN ls.flatten 1024)).length + 2 * (jointE ls).length := by
  obtain ⟨h1, h2⟩ := code_zero hc
  have hv := checks_zero h1
  have hq : ∀ q ∈ ls.flatten, inQ q := fun q hq => by
    obtain ⟨l, hl, hq⟩ := List.mem_flatten.1 hq
    exact (checkN_ok (hv l hl)).1.1 q hq
  have hfn : ls.flatten ≠ [] := by
    obtain ⟨l, hl⟩ := List.exists_mem_of_ne_nil _ hne
    obtain ⟨q, hql⟩ := List.exists_mem_of_ne_nil _ (checkN_ok (hv l hl)).2.1
    intro e
    have : q ∈ ls.flatten := List.mem_flatten.2 ⟨l, hl, hql⟩
    rw [e] at this; cases this
  have hw := whole_valid hq hfn hl
  refine ⟨hw, ?_⟩
  have hwq := (checkN_ok hw).1.1
  have hwn := (checkN_ok hw).1.2.nodup
  have hwho : ∀ e, (whoE (wholeN ls.flatten 1024) e).length = (whoE ls.flatten e).length := fun e =>
    same_len (hwn.sublist List.filter_sublist) (h2.sublist List.filter_sublist) fun q => by
      unfold whoE
      rw [List.mem_filter, List.mem_filter, mem_wholeN hq]
  refine borders_count h2 hq (U := (ownL [] ls.flatten).map (·.1)) (ownL_who hq).1 (fun e he => (ownL_who hq).2.2.1 e he) (fun l hl => ⟨pick_nodup (checkN_ok (hv l hl)).1.1 oneP, fun e => pick_mem (checkN_ok (hv l hl)).1.1 (by rfl) e⟩)
    (pick_nodup hwq oneP) (fun e => ?_) (pick_nodup hq _) (fun e => pick_mem hq (p := jointP (shapesFrom 0 ls)) (by rfl) e)
  have h3 : e ∈ borderE (wholeN ls.flatten 1024) ↔ oneP (whoE (wholeN ls.flatten 1024) e) = true := pick_mem hwq (by rfl) e
  rw [h3]
  unfold oneP
  rw [hwho]
theorem border_le {l : List Q} (hq : ∀ q ∈ l, inQ q) : (borderE l).length ≤ 3 * l.length := by
  have h1 := ownL_length l []
  unfold borderE
  rw [List.length_map]
  have := List.length_filter_le (fun m : E × List Q => oneP m.2) (ownL [] l)
  simp only [List.length_nil] at h1
  omega
theorem joint_le (ls : List (List Q)) : (jointE ls).length ≤ 3 * ls.flatten.length := by
  have h1 := ownL_length ls.flatten []
  unfold jointE
  rw [List.length_map]
  have := List.length_filter_le (fun m : E × List Q => jointP (shapesFrom 0 ls) m.2) (ownL [] ls.flatten)
  simp only [List.length_nil] at h1
  omega
theorem pieces_none {s : List Q} (hc : checkN s = 0) {ls : List (List Q)} (h : IsPieces s s.length ls) (h60 : ls.length ≤ 60) : jointsCode ls = 0 ∧ jointE ls = [] := by
  have hn := (checkN_ok hc).1.2.nodup
  have h1 : checks ls = 0 := checks_all fun l hl => part_valid hc (pieces_part h hl).2 (pieces_part h hl).1
  have h2 := pieces_nodup hn h
  have hq : ∀ q ∈ ls.flatten, inQ q := fun q hq => (checkN_ok hc).1.1 q ((pieces_mem h q).1 hq)
  refine ⟨by unfold jointsCode; rw [if_neg (by omega), if_neg (by rw [h1]; simp), if_pos h2], ?_⟩
  rcases hj : jointE ls with _ | ⟨e, t⟩
  · rfl
  · have he : e ∈ jointE ls := by rw [hj]; simp
    have := (link_iff h2 hq e).2 ((pick_mem hq (p := jointP (shapesFrom 0 ls)) (by rfl) e).1 he)
    exact absurd this (pieces_joint h e)
theorem sum_take_le (l : List Nat) (k : Nat) : (l.take k).sum ≤ l.sum := by
  conv => rhs; rw [← List.take_append_drop k l, List.sum_append]
  omega
theorem sum_take_snoc {l : List Nat} {k n : Nat} (h : l[k]? = some n) : (l.take (k + 1)).sum = (l.take k).sum + n := by
  rw [take_snocG h, List.sum_append]; simp
end Go.Proofs.YtimnmfjbfbkooaaGreatDoor

/- BrickBorders; printed by mkborders.py. -/
namespace Go.Proofs.YtimnmfjbfbkooaaGreatDoor
set_option linter.all false
set_option linter.unusedSimpArgs false
set_option linter.unusedVariables false
open Go.RowKit
attribute [local go_sem] Oper.semAt_some

theorem snoc_allB {α : Type} {l : List α} {a : Nat} {p : α} (h : l[a]? = some p) {P : α → Prop} (h1 : ∀ q ∈ l.take a, P q) (h2 : P p) : ∀ q ∈ l.take (a + 1), P q := by
  intro q hq
  rw [take_snocG h] at hq
  rcases List.mem_append.1 hq with hq | hq
  · exact h1 q hq
  · rw [List.mem_singleton] at hq; subst hq; exact h2
theorem HasQQ.cellB {W : World} {p : Option Addr} {n c : Nat} {ls : List (List Q)} (h : HasQQ W (.slice p n c) ls) {k : Nat} {l : List Q} (hk : ls[k]? = some l) :
    ∃ a lp lc, p = some a ∧ W.cell? (a.add k) = some (.slice lp l.length lc) ∧ HasQ W (.slice lp l.length lc) l := by
  obtain ⟨a, x, h1, h2, h3⟩ := h.at hk
  obtain ⟨lp, lc, rfl⟩ := h3.slice
  exact ⟨a, lp, lc, h1, h2, h3⟩
theorem HasQ.quarter {W : World} {p : Option Addr} {n c : Nat} {l : List Q} (h : HasQ W (.slice p n c) l) {k : Nat} {q : Q} (hk : l[k]? = some q) : ∃ a, p = some a ∧ QsAt W a l := by
  rcases h with ⟨_, h⟩ | ⟨a, c, h1, _, _, h2⟩
  · rw [h] at hk; simp at hk
  · simp only [Value.slice.injEq] at h1; exact ⟨a, h1.1, h2⟩
theorem has_len {W : World} {v : Value} {l : List Q} (h : HasQ W v l) : l.length ≤ 9223372036854775807 := by
  rcases h with ⟨_, h⟩ | ⟨a, c, _, h1, h2, _⟩
  · rw [h]; decide
  · have := Nat.le_trans h1 h2; simpa [maxLen] using this
/-- What the shapes' loop knows: the map of quarters seen, and the shapes. -/
structure BsI (w W : World) (mb : Nat) (K : List Q) : Prop where
  below : Below w.heap.size w W
  map : HasM Q.val W mb (setM K)
  lt : mb < W.heap.size
theorem BsI.keep {w W W' : World} {mb : Nat} {K : List Q} (h : BsI w W mb K) (e : Below W.heap.size W W') : BsI w W' mb K :=
  ⟨h.below.trans (e.mono h.below.size), h.map.below e, Nat.lt_of_lt_of_le h.lt e.size⟩
set_option maxRecDepth 100000 in
set_option maxHeartbeats 32000000 in
theorem BrickBorders_any (ls : List (List Q)) (v : Value) (w : World) (hv : HasQQ w v ls) (hk : KindsAt w) (hsh : w.ShapedOpen Tryz.prog) :
    Calls Tryz.prog 8 #[v] w fun e w' => e = .returned (.bool true) ∧ Below w.heap.size w w' := by
  obtain ⟨p, c, rfl⟩ := hv.slice
  have HL0 := Lib.hid hv
  have HL := Lib.hid hv; clear hv
  have HK := Lib.hid hk; clear hk
  have HSH := Lib.hid hsh; clear hsh
  have HB := Lib.hid (Below.refl w.heap.size w)
  go_enter Tryz.func8, Tryz.ntmps8
  by_cases h1 : ls.length < 1
  case pos =>
    have HC := Lib.hid (known_law w (HK.out.below HB.out) (shaped_below HSH.out HB.out))
    go_wp2_with fail
    refine HC.out.mono ?_
    rintro e x0 ⟨rfl, hb⟩
    clear HC
    replace HL := Lib.hid (HL.out.below hb)
    replace HB := Lib.hid (HB.out.trans (hb.mono HB.out.size))
    clear hb
    go_wp2_with fail
    go_ret
    exact ⟨rfl, HB.out⟩
  by_cases h20 : 20 < ls.length
  case pos =>
    have HC := Lib.hid (known_law w (HK.out.below HB.out) (shaped_below HSH.out HB.out))
    go_wp2_with fail
    refine HC.out.mono ?_
    rintro e x0 ⟨rfl, hb⟩
    clear HC
    replace HL := Lib.hid (HL.out.below hb)
    replace HB := Lib.hid (HB.out.trans (hb.mono HB.out.size))
    clear hb
    go_wp2_with fail
    go_ret
    exact ⟨rfl, HB.out⟩
  have hl20 : ls.length ≤ 20 := by omega
  have hl1 : 1 ≤ ls.length := by omega
  go_wp2_with fail
  clear h1 h20
  go_loopw [3] (fun z wr => ∃ k : Nat, k ≤ ls.length ∧ z = .int .i64 k ∧ Hid ((∀ l ∈ ls.take k, l.length ≤ 60) ∧ Below w.heap.size w wr ∧ HasQQ wr (.slice p ls.length c) ls)) (fun z _ => ls.length - (intOf z).toNat)
  case atStart => exact ⟨0, by omega, rfl, Lib.hid ⟨fun l h => by simp at h, HB.out, HL.out⟩⟩
  case round =>
    clear HB HL
    obtain ⟨k, hk, rfl, HR⟩ := hrel
    have HQL := Lib.hid HR.out.1
    have HB := Lib.hid HR.out.2.1
    have HL := Lib.hid HR.out.2.2
    clear HR
    by_cases hlt : k < ls.length
    case pos =>
      obtain ⟨l, hkl⟩ : ∃ l, ls[k]? = some l := ⟨_, List.getElem?_eq_getElem hlt⟩
      obtain ⟨a, lp, lc, rfl, a0, hx⟩ := HL.out.cellB hkl
      have hxl := has_len hx
      have HKL := Lib.hid hkl
      clear hx hkl
      by_cases h60 : 60 < l.length
      case pos =>
        have HC := Lib.hid (known_law wr (HK.out.below HB.out) (shaped_below HSH.out HB.out))
        go_wp2_with fail
        refine HC.out.mono ?_
        rintro e x20 ⟨rfl, hb⟩
        clear HC
        replace HL := Lib.hid (HL.out.below hb)
        replace HB := Lib.hid (HB.out.trans (hb.mono HB.out.size))
        clear hb
        go_wp2_with fail
        go_ret
        exact ⟨rfl, HB.out⟩
      case neg =>
        have HN : Hid (∀ l ∈ ls.take (k + 1), l.length ≤ 60) := Lib.hid (snoc_allB HKL.out HQL.out (by omega))
        go_wp2_with fail
        clear a0
        go_roundw
        case rel => exact ⟨k + 1, by omega, by go_num, Lib.hid ⟨HN.out, HB.out, HL.out⟩⟩
        case measure => simp [intOf]; omega
    case neg =>
      obtain rfl : k = ls.length := by omega
      replace HQL : Hid (∀ l ∈ ls, l.length ≤ 60) := Lib.hid (by have := HQL.out; rwa [List.take_length] at this)
      clear hk hlt
      have HC := Lib.hid (all_law ls _ wr HL.out (by omega) (fun l hl => by have := HQL.out l hl; omega))
      go_wp2_with fail
      refine HC.out.mono ?_
      rintro e x40 ⟨u1, vs1, rfl, hu1, hb⟩
      clear HC
      replace HL := Lib.hid (HL.out.below hb)
      replace HB := Lib.hid (HB.out.trans (hb.mono HB.out.size))
      obtain ⟨p1, c1, rfl⟩ := hu1.has.slice
      have HIN := Lib.hid (hu1.has)
      clear hb
      clear hu1
      have HC := Lib.hid (Joints_any ls _ x40 HIN.out (by omega))
      go_wp2_with fail
      refine HC.out.mono ?_
      rintro e x41 ⟨u2, ej, rfl, hu2, hj0, hjs, hb⟩
      clear HC
      clear HIN
      replace HL := Lib.hid (HL.out.below hb)
      replace HB := Lib.hid (HB.out.trans (hb.mono HB.out.size))
      obtain ⟨p2, c2, rfl⟩ := hu2.slice
      have HJF := Lib.hid (And.intro hj0 hjs)
      clear hj0 hjs hu2
      clear hb
      by_cases hc : jointsCode ls = 0
      case neg =>
        have hb1 : ((jointsCode ls : Int) != 0) = true := by simpa using hc
        obtain rfl : ej = [] := HJF.out.1 hc
        simp only [List.length_nil]
        clear hc HJF
        have HC := Lib.hid (known_law x41 (HK.out.below HB.out) (shaped_below HSH.out HB.out))
        go_wp2_with fail
        refine HC.out.mono ?_
        rintro e x42 ⟨rfl, hb⟩
        clear HC
        replace HL := Lib.hid (HL.out.below hb)
        replace HB := Lib.hid (HB.out.trans (hb.mono HB.out.size))
        clear hb
        go_wp2_with fail
        go_ret
        exact ⟨rfl, HB.out⟩
      have HJC := Lib.hid hc
      rw [hc]
      clear hc
      have HCZ := Lib.hid (code_zero HJC.out)
      have HVD := Lib.hid (checks_zero HCZ.out.1)
      have HEJ : Hid (ej.length = (jointE ls).length) := Lib.hid ((HJF.out.2 HJC.out).1.length_eq)
      have hejl : ej.length ≤ 3600 := by
        have h1 := joint_le ls
        have h2 : ls.flatten.length ≤ 400 * 3 := by
          have h3 : ∀ L : List (List Q), (∀ l ∈ L, l.length ≤ 60) → L.flatten.length ≤ 60 * L.length := fun L => by induction L with
            | nil => intro _; simp
            | cons a L ih =>
              intro h
              have := ih (fun l hl => h l (by simp [hl]))
              have := h a (by simp)
              simp only [List.flatten_cons, List.length_append, List.length_cons]; omega
          have := h3 ls HQL.out
          omega
        have := HEJ.out
        omega
      have hmm := @run_makeMap Tryz.prog
      go_wp2_with fail
      clear hmm
      have hM0 := HasM.made x41 Q.val
      have hal : Below x41.heap.size x41 (x41.alloc (.map #[] 0)) := (Below.refl _ _).alloc (Nat.le_refl _) _
      have H0 : Hid (BsI w (x41.alloc (.map #[] 0)) x41.heap.size []) := Lib.hid ⟨HB.out.trans (hal.mono HB.out.size), hM0, by rw [World.size_alloc]; omega⟩
      have hn0 : w.heap.size ≤ x41.heap.size := HB.out.size
      clear hM0 hal HB HL
      revert H0 hn0
      generalize x41.alloc (.map #[] 0) = W0
      generalize x41.heap.size = mb
      intro H0 hn0
      have HMB := Lib.hid hn0
      clear hn0
      go_loopw [7, 8] (fun u z wr => ∃ i m : Nat, i ≤ ls.length ∧ m ≤ 180 * i ∧ z = .int .i64 i ∧ u = .int .i64 m ∧ Hid (BsI w wr mb (ls.take i).flatten ∧ m = ((ls.take i).map fun l => (borderE l).length).sum)) (fun _ z _ => ls.length - (intOf z).toNat)
      case atStart => exact ⟨0, 0, by omega, by omega, rfl, rfl, Lib.hid ⟨H0.out, by simp⟩⟩
      case round =>
        clear H0
        obtain ⟨i, m, hi, hm, rfl, rfl, HR⟩ := hrel
        by_cases hil : i < ls.length
        case pos =>
          obtain ⟨l, hl⟩ : ∃ l, ls[i]? = some l := ⟨_, List.getElem?_eq_getElem hil⟩
          have HLI := Lib.hid hl
          have hl60 : l.length ≤ 60 := HQL.out l (List.mem_of_getElem? hl)
          have HCL := Lib.hid (HVD.out l (List.mem_of_getElem? hl))
          obtain ⟨a, lp, lc, rfl, a0, hx⟩ := (HL0.out.below HR.out.1.below).cellB hl
          have HX := Lib.hid hx
          have HO := Lib.hid (own_law l _ wr HX.out (by omega))
          clear hx hl
          go_wp2_with fail
          refine HO.out.mono ?_
          rintro e w3 ⟨u3, rfl, hu3, hb3⟩
          obtain ⟨p3, c3, rfl⟩ := own_slice hu3
          have HR3 := Lib.hid (And.intro (HR.out.1.keep hb3) HR.out.2)
          have HBD := Lib.hid (Border_any l _ w3 hu3.has)
          clear hu3 hb3 HR HX HO a0
          go_wp2_with fail
          refine HBD.out.mono ?_
          rintro e w4 ⟨u4, es, rfl, hu4, _, hes, hb4⟩
          rw [HCL.out]
          obtain ⟨p4, c4, rfl⟩ := hu4.slice
          have HES : Hid (es.length = (borderE l).length) := Lib.hid (hes HCL.out).1.length_eq
          have hesl : es.length ≤ 180 := by have := HES.out; have := border_le (checkN_ok HCL.out).1.1; omega
          have HR4 := Lib.hid (And.intro (HR3.out.1.keep hb4) HR3.out.2)
          clear hu4 hes hb4 HR3 HBD
          obtain ⟨m2, hm2⟩ : ∃ m2 : Nat, m2 = m + es.length := ⟨_, rfl⟩
          have hwr : wrap64 ((m : Int) + (es.length : Int)) = (m2 : Int) := by unfold wrap64; omega
          have hm2l : m2 ≤ 180 * (i + 1) := by omega
          have HM2 := Lib.hid hm2
          clear hm2
          go_wp2_with fail
          clear hwr
          go_loopw [11] (fun z wr => ∃ k : Nat, k ≤ l.length ∧ z = .int .i64 k ∧ Hid (BsI w wr mb ((ls.take i).flatten ++ l.take k))) (fun z _ => l.length - (intOf z).toNat)
          case atStart => exact ⟨0, by omega, rfl, Lib.hid (by simpa using HR4.out.1)⟩
          case round =>
            obtain ⟨k, hk, rfl, HR⟩ := hrel
            obtain ⟨a', lp, lc, ha', a0, hx⟩ := (HL0.out.below HR.out.below).cellB HLI.out
            simp only [Option.some.injEq] at ha'
            subst ha'
            by_cases hkl : k < l.length
            case pos =>
              obtain ⟨q, hqk⟩ : ∃ q, l[k]? = some q := ⟨_, List.getElem?_eq_getElem hkl⟩
              obtain ⟨la, rfl, hqs⟩ := hx.quarter hqk
              have c0 := hqs.at0 k q hqk
              have c1 := hqs.at1 k q hqk
              have c2 := hqs.at2 k q hqk
              have hin : inQ q := (checkN_ok HCL.out).1.1 q (List.mem_of_getElem? hqk)
              have hnot : q ∉ (ls.take i).flatten ++ l.take k := nodup_at hqk (nodup_part HLI.out HCZ.out.2)
              have hkin : ∀ x ∈ (ls.take i).flatten ++ l.take k, inQ x := fun x hx => by
                rcases List.mem_append.1 hx with hx | hx
                · obtain ⟨m, hm, hx⟩ := List.mem_flatten.1 hx
                  exact (checkN_ok (HVD.out m (List.mem_of_mem_take hm))).1.1 x hx
                · exact (checkN_ok HCL.out).1.1 x (List.mem_of_mem_take hx)
              have hlook := run_lookup_miss encQ Tryz.underlying62 (Tryz.zeroValue4 wr) HR.out.map (fun p hp => hkin _ (mem_setM.1 hp).1) hin (fun p hp e => hnot (by rw [← e]; exact (mem_setM.1 hp).1)) false
              have hup := run_update_miss encQ Tryz.underlying62 HR.out.map (fun p hp => hkin _ (mem_setM.1 hp).1) hin (fun p hp e => hnot (by rw [← e]; exact (mem_setM.1 hp).1)) (.bool true)
              have hsm : setM ((ls.take i).flatten ++ l.take k) ++ [(q, Value.bool true)] = setM ((ls.take i).flatten ++ l.take (k + 1)) := by rw [take_snocG hqk]; simp [setM]
              rw [hsm] at hup
              have hmbl : mb < wr.heap.size := HR.out.lt
              have hsame : ∀ x : Addr, x.block ≠ mb → (putM Q.val wr mb (setM ((ls.take i).flatten ++ l.take (k + 1)))).cell? x = wr.cell? x := fun x hx => cell_of_block (putM_other wr hx _)
              have HN : Hid (BsI w (putM Q.val wr mb (setM ((ls.take i).flatten ++ l.take (k + 1)))) mb ((ls.take i).flatten ++ l.take (k + 1))) := Lib.hid
                ⟨HR.out.below.trans (putM_below wr HMB.out _), HasM.put hmbl _, by rw [putM_size]; exact hmbl⟩
              revert hup HN
              generalize putM Q.val wr mb (setM ((ls.take i).flatten ++ l.take (k + 1))) = w6
              intro hup HN
              clear hsame hnot hkin hsm hqs hqk hin HR hmbl hx
              obtain ⟨x, y, s⟩ := q
              simp only at c0 c1 c2
              unfold Q.val at hup hlook
              simp only [Bool.false_eq_true, if_false] at hlook
              go_wp2_with fail
              clear hup hlook c0 c1 c2 a0
              go_roundw
              case rel => exact ⟨k + 1, by omega, by go_num, HN⟩
              case measure => simp [intOf]; omega
            case neg =>
              obtain rfl : k = l.length := by omega
              have HN : Hid (BsI w wr mb (ls.take (i + 1)).flatten ∧ m2 = ((ls.take (i + 1)).map fun l => (borderE l).length).sum) := Lib.hid ⟨by
                have h := HR.out
                rw [List.take_length] at h
                rw [take_snocG HLI.out, List.flatten_append]
                simpa using h, by rw [take_snocG HLI.out, List.map_append, List.sum_append, ← HR4.out.2, HM2.out, HES.out]; simp⟩
              clear HR hx
              go_wp2_with fail
              clear a0
              go_roundw
              case rel => exact ⟨i + 1, m2, by omega, hm2l, by go_num, by rw [HM2.out]; simp, HN⟩
              case measure => simp [intOf]; omega
        case neg =>
          obtain rfl : i = ls.length := by omega
          obtain ⟨S, hS⟩ : ∃ S, ls.flatten = S := ⟨_, rfl⟩
          have HFS := Lib.hid hS
          have HI : Hid (BsI w wr mb S) := Lib.hid (by have := HR.out.1; rwa [List.take_length, hS] at this)
          have HSM : Hid (m = (ls.map fun l => (borderE l).length).sum) := Lib.hid (by have := HR.out.2; rwa [List.take_length] at this)
          have HSN : Hid (S.Nodup ∧ ∀ q ∈ S, inQ q) := Lib.hid (by
            rw [← hS]
            refine ⟨HCZ.out.2, fun q hq => ?_⟩
            obtain ⟨l, hl, hq⟩ := List.mem_flatten.1 hq
            exact (checkN_ok (HVD.out l hl)).1.1 q hq)
          clear HR hS
          have hal : Below wr.heap.size wr (wr.alloc (.cells #[] 64)) := (Below.refl _ wr).alloc (Nat.le_refl _) _
          have H5 : Hid (BsI w (wr.alloc (.cells #[] 64)) mb S ∧ OwnQ (wr.alloc (.cells #[] 64)) wr.heap.size (.slice (some ⟨wr.heap.size, 0, none⟩) 0 0) (wholeN S 0) ∧ wr.heap.size ≤ (wr.alloc (.cells #[] 64)).heap.size) := Lib.hid
            ⟨HI.out.keep hal, ⟨rfl, .inr ⟨wr.heap.size, 0, #[], rfl, Nat.le_refl _, World.alloc_heap_new wr _, Nat.le_refl _, by decide, rfl, rfl⟩⟩, hal.size⟩
          have hmw : mb < wr.heap.size := HI.out.lt
          clear hal HI
          go_wp2_with fail
          revert H5 hmw
          generalize wr.alloc (.cells #[] 64) = W5
          generalize (Value.slice (some ⟨wr.heap.size, 0, none⟩) 0 0) = v5
          generalize wr.heap.size = np
          intro H5 hmw
          have HMW := Lib.hid hmw
          clear hmw
          go_loopw [12, 13] (fun u z wr => ∃ y : Nat, y ≤ 16 ∧ z = .int .i64 y ∧ Hid (Below w.heap.size w wr ∧ HasM Q.val wr mb (setM S) ∧ np ≤ wr.heap.size ∧ OwnQ wr np u (wholeN S (y * 64)))) (fun _ z _ => 16 - (intOf z).toNat)
          case atStart => exact ⟨0, by omega, rfl, Lib.hid ⟨H5.out.1.below, H5.out.1.map, H5.out.2.2, H5.out.2.1⟩⟩
          case round =>
            clear H5
            obtain ⟨y, hy, rfl, HR⟩ := hrel
            obtain ⟨ny, hny⟩ : ∃ n, (wholeN S (y * 64)).length = n := ⟨_, rfl⟩
            have hpu := own_slice HR.out.2.2.2
            rw [hny] at hpu
            obtain ⟨pu, cu, rfl⟩ := hpu
            have HNY := Lib.hid hny
            clear hny
            by_cases hy16 : y < 16
            case pos =>
              have e3 : decide ((y : Int) < 16) = true := decide_eq_true (by omega)
              go_wp2_with fail
              clear e3
              go_loopw [12, 14] (fun u z wr => ∃ x : Nat, x ≤ 16 ∧ z = .int .i64 x ∧ Hid (Below w.heap.size w wr ∧ HasM Q.val wr mb (setM S) ∧ np ≤ wr.heap.size ∧ OwnQ wr np u (wholeN S (y * 64 + x * 4)))) (fun _ z _ => 16 - (intOf z).toNat)
              case atStart => exact ⟨0, by omega, rfl, Lib.hid HR.out⟩
              case round =>
                clear HR
                obtain ⟨x, hx, rfl, HR⟩ := hrel
                obtain ⟨nx, hnx⟩ : ∃ n, (wholeN S (y * 64 + x * 4)).length = n := ⟨_, rfl⟩
                have hpu := own_slice HR.out.2.2.2
                rw [hnx] at hpu
                obtain ⟨pu, cu, rfl⟩ := hpu
                clear hnx
                by_cases hx16 : x < 16
                case pos =>
                  have e3 : decide ((x : Int) < 16) = true := decide_eq_true (by omega)
                  go_wp2_with fail
                  clear e3
                  go_loopw [12, 15] (fun u z wr => ∃ s : Nat, s ≤ 4 ∧ z = .int .i64 s ∧ Hid (Below w.heap.size w wr ∧ HasM Q.val wr mb (setM S) ∧ np ≤ wr.heap.size ∧ OwnQ wr np u (wholeN S (y * 64 + x * 4 + s)))) (fun _ z _ => 4 - (intOf z).toNat)
                  case atStart => exact ⟨0, by omega, rfl, Lib.hid HR.out⟩
                  case round =>
                    clear HR
                    obtain ⟨s, hs, rfl, HR⟩ := hrel
                    obtain ⟨part, hpart⟩ : ∃ part, wholeN S (y * 64 + x * 4 + s) = part := ⟨_, rfl⟩
                    have hpl : part.length ≤ 1100 := by have := wholeN_le S (y * 64 + x * 4 + s); rw [hpart] at this; omega
                    rw [hpart] at HR
                    obtain ⟨pu, cu, rfl⟩ := own_slice HR.out.2.2.2
                    by_cases hs4 : s < 4
                    case pos =>
                      have hstep := wholeN_step S (y * 64 + x * 4 + s)
                      rw [nthQ_at y x s hx16 hs4, hpart] at hstep
                      have HSTEP := Lib.hid hstep
                      clear hstep hpart
                      have hin : inQ ⟨(x : Int), (y : Int), (s : Int)⟩ := ⟨by simp only; omega, by simp only; omega, by simp only; omega, by simp only; omega, by simp only; omega, by simp only; omega⟩
                      have HIN := Lib.hid hin
                      clear hin
                      go_upto_region 36 with (fail)
                      have hal : Below wr.heap.size wr (wr.alloc (.cells #[.int .i64 x, .int .i64 y, .int .i64 s] 64)) := (Below.refl _ wr).alloc (Nat.le_refl _) _
                      have hR5 : Below w.heap.size w (wr.alloc (.cells #[.int .i64 x, .int .i64 y, .int .i64 s] 64)) ∧ HasM Q.val (wr.alloc (.cells #[.int .i64 x, .int .i64 y, .int .i64 s] 64)) mb (setM S) ∧ np ≤ (wr.alloc (.cells #[.int .i64 x, .int .i64 y, .int .i64 s] 64)).heap.size ∧ OwnQ (wr.alloc (.cells #[.int .i64 x, .int .i64 y, .int .i64 s] 64)) np (.slice pu part.length cu) part := ⟨HR.out.1.trans (hal.mono HR.out.1.size), HR.out.2.1.below hal, Nat.le_trans HR.out.2.2.1 hal.size, HR.out.2.2.2.below hal⟩
                      have hq5 : (wr.alloc (.cells #[.int .i64 x, .int .i64 y, .int .i64 s] 64)).heap[wr.heap.size]? = some (.cells #[.int .i64 x, .int .i64 y, .int .i64 s] 64) := World.alloc_heap_new wr _
                      clear hal HR
                      revert hR5 hq5
                      generalize wr.alloc (.cells #[.int .i64 x, .int .i64 y, .int .i64 s] 64) = w6
                      generalize wr.heap.size = rb
                      intro hR5 hq5
                      have d0 : w6.cell? ⟨rb, 0, none⟩ = some (.int .i64 x) := by simp [World.cell?, hq5]
                      have d1 : w6.cell? ⟨rb, 1, none⟩ = some (.int .i64 y) := by simp [World.cell?, hq5]
                      have d2 : w6.cell? ⟨rb, 2, none⟩ = some (.int .i64 s) := by simp [World.cell?, hq5]
                      by_cases hmem : (⟨(x : Int), (y : Int), (s : Int)⟩ : Q) ∈ S
                      · have hlook := run_lookup_hit encQ Tryz.underlying62 hR5.2.1 (fun p hp => HSN.out.2 _ (mem_setM.1 hp).1) (by rw [setM_keys]; exact HSN.out.1) (mem_setM.2 ⟨hmem, rfl⟩ : ((⟨(x : Int), (y : Int), (s : Int)⟩ : Q), Value.bool true) ∈ setM S) false
                        unfold Q.val at hlook
                        simp only [Bool.false_eq_true, if_false] at hlook
                        have HNX : Hid (wholeN S (y * 64 + x * 4 + (s + 1)) = part ++ [⟨x, y, s⟩]) := Lib.hid (by rw [← Nat.add_assoc, HSTEP.out, if_pos hmem])
                        have HM1 : Hid (part.length + 1 ≤ maxLen) := Lib.hid (by simp only [maxLen]; omega)
                        have HM2 : Hid ((part.length + 1) * 24 ≤ 140737488355328) := Lib.hid (by omega)
                        have HROW : Hid (w6.ownsRow np 64 3 (.slice pu part.length cu) part.length (qCells part)) := Lib.hid hR5.2.2.2
                        have hsz : np ≤ w6.heap.size := hR5.2.2.1
                        have HR5 := Lib.hid hR5
                        clear hR5 hmem hq5 HSTEP
                        obtain ⟨iQ, hiQ, hzQ, hsQ, hbQ⟩ := info_parts infoQ
                        go_wp2_with (first
                          | (at_builtin; refine wpList_append_own _ rfl _ _ 22 rfl np 64 iQ _ 3 24 Tryz.underlying22 hiQ hzQ hsQ hbQ rfl (by decide) (.slice pu part.length cu) part.length (qCells part) rfl (HROW.out.alloc _) ⟨w6.heap.size, 0, none⟩ 1 1 (qVals ⟨x, y, s⟩) rfl rfl (qVals_at ⟨x, y, s⟩) (qVals_one _) HM1.out HM2.out (by rw [World.size_alloc]; omega) ?_; intro v' w7 hown' hgrow _; obtain ⟨p'', c'', rfl⟩ := own_slice hown'))
                        have hga : w6.grownBy w7 (Value.slice pu part.length cu).ownBlock := ⟨hgrow.os, hgrow.tape, hgrow.output, Nat.le_trans (by simp) hgrow.size, fun k hk hne => (hgrow.block k (by simp; omega) hne).trans (Below.heap_alloc _ _ _ hk)⟩
                        have hBn : Below np w6 w7 := (Below.refl np w6).grown hga hsz (fun k hk => (HROW.out.lt k hk).1)
                        have HN : Hid (Below w.heap.size w w7 ∧ HasM Q.val w7 mb (setM S) ∧ np ≤ w7.heap.size ∧ OwnQ w7 np (.slice p'' (part.length + 1) c'') (wholeN S (y * 64 + x * 4 + (s + 1)))) := Lib.hid
                          ⟨HR5.out.1.trans (hBn.mono (by have := HMB.out; have := HMW.out; omega)), (hBn.block _ HMW.out).trans HR5.out.2.1, Nat.le_trans hsz hBn.size, by
                            rw [HNX.out]
                            unfold OwnQ
                            rw [qCells_snoc, List.length_append]
                            exact hown'⟩
                        clear hga hBn hown' hgrow hlook d0 d1 d2 HROW HR5
                        go_roundw
                        case rel => exact ⟨s + 1, by omega, by go_num, HN⟩
                        case measure => simp [intOf]; omega
                      · have hlook := run_lookup_miss encQ Tryz.underlying62 (Tryz.zeroValue4 w6) hR5.2.1 (fun p hp => HSN.out.2 _ (mem_setM.1 hp).1) HIN.out (fun p hp e => hmem (by rw [← e]; exact (mem_setM.1 hp).1)) false
                        unfold Q.val at hlook
                        simp only [Bool.false_eq_true, if_false] at hlook
                        have HN : Hid (Below w.heap.size w w6 ∧ HasM Q.val w6 mb (setM S) ∧ np ≤ w6.heap.size ∧ OwnQ w6 np (.slice pu part.length cu) (wholeN S (y * 64 + x * 4 + (s + 1)))) := Lib.hid ⟨hR5.1, hR5.2.1, hR5.2.2.1, by rw [← Nat.add_assoc, HSTEP.out, if_neg hmem, List.append_nil]; exact hR5.2.2.2⟩
                        clear hR5 hmem hq5 HSTEP
                        go_wp2_with fail
                        clear hlook d0 d1 d2
                        go_roundw
                        case rel => exact ⟨s + 1, by omega, by go_num, HN⟩
                        case measure => simp [intOf]; omega
                    case neg =>
                      obtain rfl : s = 4 := by omega
                      have HN : Hid (Below w.heap.size w wr ∧ HasM Q.val wr mb (setM S) ∧ np ≤ wr.heap.size ∧ OwnQ wr np (.slice pu part.length cu) (wholeN S (y * 64 + (x + 1) * 4))) := Lib.hid (by rw [show y * 64 + (x + 1) * 4 = y * 64 + x * 4 + 4 by omega, hpart]; exact HR.out)
                      clear HR hpart
                      go_wp2_with fail
                      go_roundw
                      case rel => exact ⟨x + 1, by omega, by go_num, HN⟩
                      case measure => simp [intOf]; omega
                case neg =>
                  obtain rfl : x = 16 := by omega
                  have HN : Hid (Below w.heap.size w wr ∧ HasM Q.val wr mb (setM S) ∧ np ≤ wr.heap.size ∧ OwnQ wr np (.slice pu nx cu) (wholeN S ((y + 1) * 64))) := Lib.hid (by rw [show (y + 1) * 64 = y * 64 + 16 * 4 by omega]; exact HR.out)
                  clear HR
                  go_wp2_with fail
                  go_roundw
                  case rel => exact ⟨y + 1, by omega, by go_num, HN⟩
                  case measure => simp [intOf]; omega
            case neg =>
              obtain rfl : y = 16 := by omega
              have HWN : Hid (∃ wh, wholeN S 1024 = wh) := Lib.hid ⟨_, rfl⟩
              obtain ⟨wh, hwh⟩ := HWN.out
              have hwl : wh.length ≤ 1024 := by rw [← hwh]; exact wholeN_le S 1024
              rw [show wholeN S (16 * 64) = wh from hwh] at HR
              obtain rfl : ny = wh.length := by rw [← HNY.out, show wholeN S (16 * 64) = wh from hwh]
              clear HNY
              have HWH := Lib.hid hwh
              clear hwh HWN
              have HB := Lib.hid HR.out.1
              have HWQ := Lib.hid HR.out.2.2.2.has
              clear HR
              by_cases h400 : 400 < wh.length
              case pos =>
                have HC := Lib.hid (known_law wr (HK.out.below HB.out) (shaped_below HSH.out HB.out))
                go_wp2_with fail
                refine HC.out.mono ?_
                rintro e x80 ⟨rfl, hb⟩
                clear HC
                replace HWQ := Lib.hid (HWQ.out.below hb)
                replace HB := Lib.hid (HB.out.trans (hb.mono HB.out.size))
                clear hb
                go_wp2_with fail
                go_ret
                exact ⟨rfl, HB.out⟩
              case neg =>
                have hw400 : wh.length ≤ 400 := by omega
                have hsb := sum_borders HJC.out (by rw [HFS.out, HWH.out]; omega) (fun e => by rw [e] at hl1; simp at hl1)
                rw [HFS.out, HWH.out] at hsb
                have HCW := Lib.hid hsb.1
                have HSB := Lib.hid hsb.2
                clear hsb
                have HC := Lib.hid (own_law wh _ wr HWQ.out (by omega))
                go_wp2_with fail
                refine HC.out.mono ?_
                rintro e x100 ⟨u10, rfl, hu10, hb⟩
                clear HC
                replace HWQ := Lib.hid (HWQ.out.below hb)
                replace HB := Lib.hid (HB.out.trans (hb.mono HB.out.size))
                obtain ⟨p10, c10, rfl⟩ := own_slice hu10
                have HU := Lib.hid (hu10.has)
                clear hb
                clear hu10
                have HC := Lib.hid (Border_any wh _ x100 HU.out)
                go_wp2_with fail
                refine HC.out.mono ?_
                rintro e x101 ⟨u11, eb, rfl, hu11, _, hes, hb⟩
                clear HC
                clear HU
                replace HWQ := Lib.hid (HWQ.out.below hb)
                replace HB := Lib.hid (HB.out.trans (hb.mono HB.out.size))
                rw [HCW.out]
                obtain ⟨p11, c11, rfl⟩ := hu11.slice
                have HEB : Hid (eb.length = (borderE wh).length) := Lib.hid (hes HCW.out).1.length_eq
                clear hes hu11
                clear hb
                have HC := Lib.hid (own_law wh _ x101 HWQ.out (by omega))
                go_wp2_with fail
                refine HC.out.mono ?_
                rintro e x102 ⟨u12, rfl, hu12, hb⟩
                clear HC
                replace HWQ := Lib.hid (HWQ.out.below hb)
                replace HB := Lib.hid (HB.out.trans (hb.mono HB.out.size))
                obtain ⟨p12, c12, rfl⟩ := own_slice hu12
                have HU := Lib.hid (hu12.has)
                clear hb
                clear hu12
                have HC := Lib.hid (Pieces_any wh _ x102 HU.out)
                go_wp2_with fail
                refine HC.out.mono ?_
                rintro e x103 ⟨u13, ms, rfl, hu13, _, hms, hb⟩
                clear HC
                clear HU
                clear HWQ
                replace HB := Lib.hid (HB.out.trans (hb.mono HB.out.size))
                rw [HCW.out]
                obtain ⟨p13, c13, rfl⟩ := hu13.slice
                have HMS := Lib.hid (hms HCW.out)
                clear hms
                have HPM := Lib.hid (hu13)
                clear hb
                clear hu13
                have hebl : eb.length ≤ 1200 := by have := HEB.out; have := border_le (checkN_ok HCW.out).1.1; omega
                have hsum : m = eb.length + 2 * ej.length := by rw [HSM.out, HSB.out, HEB.out, HEJ.out]
                have hw1 : wrap64 (2 * (ej.length : Int)) = 2 * (ej.length : Int) := by unfold wrap64; omega
                have hw2 : wrap64 ((eb.length : Int) + 2 * (ej.length : Int)) = (m : Int) := by unfold wrap64; omega
                have hbn : ((m : Int) != (eb.length : Int) + 2 * (ej.length : Int)) = false := by rw [hsum]; simp
                have HPS : Hid ((ms.map List.length).sum = wh.length) := Lib.hid (pieces_sum (checkN_ok HCW.out).1.2.nodup HMS.out)
                have HML : Hid (ms.length ≤ 400) := Lib.hid (by
                  have h1 := HMS.out.firsts
                  obtain ⟨fs, f1, f2, f3, _⟩ := h1
                  rw [f3]
                  have := nodup_le (m := List.range wh.length) (f1.imp fun h e => by omega : fs.Nodup) (fun n hn => List.mem_range.2 ((f2 n).1 hn).1)
                  rw [List.length_range] at this
                  omega)
                have hml := HML.out
                clear HML hsum
                go_wp2_with fail
                clear hw1 hw2 hbn
                go_loopw [20, 21] (fun u z wr => ∃ i n : Nat, i ≤ ms.length ∧ n ≤ 400 ∧ z = .int .i64 i ∧ u = .int .i64 n ∧ Hid (Below w.heap.size w wr ∧ HasQQ wr (.slice p13 ms.length c13) ms ∧ n = ((ms.map List.length).take i).sum)) (fun _ z _ => ms.length - (intOf z).toNat)
                case atStart => exact ⟨0, 0, by omega, by omega, rfl, rfl, Lib.hid ⟨HB.out, HPM.out, by simp⟩⟩
                case round =>
                  clear HB HPM
                  obtain ⟨i, n, hi, hn4, rfl, rfl, HR⟩ := hrel
                  by_cases him : i < ms.length
                  case pos =>
                    obtain ⟨l, hl⟩ : ∃ l, ms[i]? = some l := ⟨_, List.getElem?_eq_getElem him⟩
                    obtain ⟨a, lp, lc, rfl, a0, _⟩ := HR.out.2.1.cellB hl
                    have hst := sum_take_snoc (l := ms.map List.length) (k := i) (n := l.length) (by rw [List.getElem?_map, hl]; rfl)
                    have hle := sum_take_le (ms.map List.length) (i + 1)
                    have hnl : n + l.length ≤ 400 := by have h1 := HR.out.2.2; have h2 := HPS.out; omega
                    have HN : Hid (Below w.heap.size w wr ∧ HasQQ wr (.slice (some a) ms.length c13) ms ∧ n + l.length = ((ms.map List.length).take (i + 1)).sum) := Lib.hid ⟨HR.out.1, HR.out.2.1, by rw [hst, ← HR.out.2.2]⟩
                    obtain ⟨n2, hn2⟩ : ∃ n2 : Nat, n2 = n + l.length := ⟨_, rfl⟩
                    have hwr : wrap64 ((n : Int) + (l.length : Int)) = (n2 : Int) := by unfold wrap64; omega
                    rw [← hn2] at HN hnl
                    have HN2 := Lib.hid hn2
                    clear hst hle HR hl hn2
                    go_wp2_with fail
                    clear a0 hwr
                    go_roundw
                    case rel => exact ⟨i + 1, n2, by omega, hnl, by go_num, by (first | (rw [HN2.out]; simp; done) | (have h := HN2.out; rw [show wrap64 ((n : Int) + (l.length : Int)) = (n2 : Int) by (unfold wrap64; omega)])), HN⟩
                    case measure => simp [intOf]; omega
                  case neg =>
                    obtain rfl : i = ms.length := by omega
                    have hnw : n = wh.length := by have h1 := HR.out.2.2; rw [List.take_of_length_le (by simp)] at h1; rw [h1, HPS.out]
                    subst hnw
                    have HB := Lib.hid HR.out.1
                    have HPM := Lib.hid HR.out.2.1
                    clear HR
                    by_cases hm60 : 60 < ms.length
                    case pos =>
                      have HC := Lib.hid (known_law wr (HK.out.below HB.out) (shaped_below HSH.out HB.out))
                      go_wp2_with fail
                      refine HC.out.mono ?_
                      rintro e x140 ⟨rfl, hb⟩
                      clear HC
                      replace HPM := Lib.hid (HPM.out.below hb)
                      replace HB := Lib.hid (HB.out.trans (hb.mono HB.out.size))
                      clear hb
                      go_wp2_with fail
                      go_ret
                      exact ⟨rfl, HB.out⟩
                    case neg =>
                      have HNO := Lib.hid (pieces_none HCW.out HMS.out (by omega))
                      have HC := Lib.hid (Joints_any ms _ wr HPM.out (by omega))
                      go_wp2_with fail
                      refine HC.out.mono ?_
                      rintro e x150 ⟨u15, en, rfl, hu15, hj0, hjs, hb⟩
                      clear HC
                      clear HPM
                      replace HB := Lib.hid (HB.out.trans (hb.mono HB.out.size))
                      obtain rfl : en = [] := by have h1 := (hjs HNO.out.1).1; rw [HNO.out.2] at h1; exact List.perm_nil.1 h1
                      rw [HNO.out.1]
                      obtain ⟨p15, c15, rfl⟩ := hu15.slice
                      simp only [List.length_nil]
                      clear hj0 hjs hu15
                      clear hb
                      have HC := Lib.hid (known_law x150 (HK.out.below HB.out) (shaped_below HSH.out HB.out))
                      go_wp2_with fail
                      refine HC.out.mono ?_
                      rintro e x151 ⟨rfl, hb⟩
                      clear HC
                      replace HB := Lib.hid (HB.out.trans (hb.mono HB.out.size))
                      clear hb
                      go_wp2_with fail
                      go_ret
                      exact ⟨rfl, HB.out⟩
end Go.Proofs.YtimnmfjbfbkooaaGreatDoor

/- BrickBorders: WHATEVER THE INPUT: the borders of shapes that have no quarter in common have together as many edges as that of all quarters, and twice as many as there are joints; the pieces of a shape have no joints: the tied card. -/
namespace Go.Proofs.YtimnmfjbfbkooaaGreatDoor
set_option linter.all false
set_option linter.unusedSimpArgs false
set_option linter.unusedVariables false
open Go.RowKit Go.ChangeShapes Go.WideShapes Go.Deep

set_option maxRecDepth 100000 in
theorem brickBorders_lifted (os : Os) (started : os.Started) (H : Type) (enc : TypeId × Value → H) :
    ReturnsInHanded {} Tryz.checked os 8 .any (fun w args => (Rows.brickBordersSpec.pre enc Tryz.prog Tryz.f8 [] false w args ∧ laidMetH Tryz.prog laid3 w) ∧ sizedMet enc Tryz.prog Tryz.f8 (OpenSpec.ofChange Rows.brickBordersSpec) false w args)
      (Rows.brickBordersSpec.post enc Tryz.prog Tryz.f8 false true false false) := by
  refine ret_shaped (C := Tryz.checked) (X := fun w _ => laidMetH Tryz.prog laid3 w) (fun _ _ _ hh h => h.of_heap hh) ownKnobs started (by kernel_rfl) Tryz.func8
    (ChangeSpec.witness_at (enc := enc) (C := Tryz.checked) (os := os) (X := fun w _ => laidMetH Tryz.prog laid3 w) false (laidWorld os) #[.slice none 0 0] 8 rfl (by kernel_rfl) (by kernel_rfl) (by kernel_rfl) (by kernel_rfl) (by kernel_rfl) (laidWorld_met os _)) ?_
  intro W base args ds gs before hval0 hW _ hL hsh
  have hval : ∀ (j : Nat) t v, Tryz.f8.params[j]? = some t → args[j]? = some v → Value.okWide Tryz.prog W .any base t v := hval0
  have hW' := hW
  obtain ⟨p, q, hA0, hV, rfl, hfz, hnd⟩ := hW
  have hA : DataW.TrodAll enc Tryz.prog W 0 (fun _ => true) true Tryz.f8.params.toList args.toList ds p := hA0
  rw [Tryz.params8] at hA hval
  obtain ⟨v0, d0, rfl, rfl, h0⟩ := trodAll_one hA
  obtain ⟨rfl, rfl⟩ := trodVars_none hV
  have hlt : ∀ x ∈ p, x.block < W.heap.size := fun x hx => hW'.lt x (by simpa using hx)
  obtain ⟨l0, hq0⟩ := arg_shapes (hval 0 43 v0 rfl rfl) h0
  refine (BrickBorders_any l0 v0 W hq0 (kinds_of_row hL) hsh).mono ?_
  rintro e W' ⟨rfl, hB⟩
  have e1 : Rows.brickBordersSpec.fn H ([d0] ++ []) = { results := [.lit (.bool true)], args := [d0] } := rfl
  refine ⟨_, rfl, _, _, _, [], p, [], hW', ?_, ?_, ?_, hB.frame _, fun h => by cases h⟩
  · rw [e1]; exact trodAll_mk1 (shut_bool Tryz.underlying4 true)
  · rw [e1]; exact trodAll_mk1 (Below.trod laidOuts (by kernel_rfl) (of_decide_eq_true (by kernel_rfl)) h0 hB hlt)
  · rw [e1]; rfl

theorem brickBorders_holds : Rows.BrickBordersSaid :=
  OpenClaim.holds_of_wide 8 Tryz.f8 rfl rfl rfl rfl rfl rfl rfl ⟨rfl, rfl, rfl, rfl, rfl⟩ rfl rfl rfl rfl rfl (by kernel_rfl) Tryz.func8 (by kernel_rfl)
    (of_decide_eq_true (by kernel_rfl)) (by unfold Func.isWrapper; rw [if_neg (of_decide_eq_false (by kernel_rfl))]; exact ⟨rfl, rfl⟩)
    (fun os started H enc _ => brickBorders_lifted os started H enc)
theorem brickBorders_card : Rows.BrickBordersCardSaid :=
  Claim7.holds_tied_plain_at .later [] [.data, .data, .pinned] true Rows.brickBordersCard.stood.harness false
    brickBorders_holds (fun _ h => by cases h) (by kernel_rfl) (fun _ h => by cases h) brickBorders_row_tie rfl ⟨rfl, rfl⟩ (by kernel_rfl) rfl
    (fun f fn hf hfn => by
      obtain rfl : f = 8 := Option.some.inj ((show Tryz.prog.funcNamed "chiti/chitilaw05.BrickBorders" = some 8 by kernel_rfl).symm.trans hf) |>.symm
      obtain rfl : fn = Tryz.f8 := (Option.some.inj (Tryz.func8.symm.trans hfn)).symm
      exact ⟨by kernel_rfl, fun j t ht => by
        rw [Tryz.params8] at ht
        have hm : t ∈ [43] := by simpa using Array.mem_of_getElem? ht
        have hall : ([43].all fun u => !Tryz.prog.wantsStandIn u) = true := by kernel_rfl
        exact (show Tryz.prog.wantsStandIn t = false by simpa using List.all_eq_true.1 hall t hm)⟩)
    (by kernel_rfl)
end Go.Proofs.YtimnmfjbfbkooaaGreatDoor
