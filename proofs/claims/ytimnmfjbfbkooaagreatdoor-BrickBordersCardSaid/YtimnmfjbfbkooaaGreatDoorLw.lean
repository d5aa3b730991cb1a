/- The law's own functions: own, equal. -/
import Derived.Test.YtimnmfjbfbkooaaGreatDoorPr
namespace Go.Proofs.YtimnmfjbfbkooaaGreatDoor
set_option linter.all false
set_option linter.unusedSimpArgs false
set_option linter.unusedVariables false
open Go.RowKit
attribute [local go_sem] Oper.semAt_some

theorem qsAt_cells {W : World} {a : Addr} {l : List Q} (h : QsAt W a l) : ∀ (j : Nat) (u : Value), (qCells l)[j]? = some u → W.cell? (a.add j) = some u := by
  intro j u hu
  obtain ⟨i, r, hr, rfl⟩ : ∃ i r, r < 3 ∧ j = i * 3 + r := ⟨j / 3, j % 3, Nat.mod_lt _ (by decide), by omega⟩
  have hj : i * 3 + r < l.length * 3 := by
    have := (List.getElem?_eq_some_iff.1 hu).1
    rwa [qCells_length] at this
  obtain ⟨q, hq⟩ : ∃ q, l[i]? = some q := ⟨_, List.getElem?_eq_getElem (by omega)⟩
  obtain ⟨g0, g1, g2⟩ := qCells_get hq
  have e0 := h.at0 _ q hq
  have e1 := h.at1 _ q hq
  have e2 := h.at2 _ q hq
  rcases (by omega : r = 0 ∨ r = 1 ∨ r = 2) with rfl | rfl | rfl
  · rw [Nat.add_zero] at hu ⊢; rw [g0] at hu; cases hu; exact e0
  · rw [g1] at hu; cases hu
    rw [← e1]; congr 1
    unfold Addr.add
    by_cases h0 : i * 3 = 0 <;> simp [h0]
    rw [Nat.add_assoc]
  · rw [g2] at hu; cases hu
    rw [← e2]; congr 1
    unfold Addr.add
    by_cases h0 : i * 3 = 0 <;> simp [h0]
    rw [Nat.add_assoc]

set_option maxRecDepth 100000 in
set_option maxHeartbeats 1000000 in
theorem own_law (l : List Q) (v : Value) (w : World) (h : HasQ w v l) (hl : l.length ≤ 1000) :
    Calls Tryz.prog 14 #[v] w fun e w' => ∃ u, e = .returned u ∧ OwnQ w' w.heap.size u l ∧ Below w.heap.size w w' := by
  rcases h with ⟨rfl, rfl⟩ | ⟨a, cap, rfl, hlc, hcm, hqs⟩
  case inl =>
    go_enter Tryz.func14, Tryz.ntmps14
    go_wp2
    go_ret
    refine ⟨_, rfl, ⟨rfl, .inr ⟨w.heap.size, 0, #[], rfl, Nat.le_refl _, World.alloc_heap_new w _, Nat.le_refl _, by decide, rfl, rfl⟩⟩, (Below.refl _ w).alloc (Nat.le_refl _) _⟩
  case inr =>
    go_enter Tryz.func14, Tryz.ntmps14
    have hal : Below w.heap.size w (w.alloc (.cells #[] 64)) := (Below.refl _ w).alloc (Nat.le_refl _) _
    have hown : (w.alloc (.cells #[] 64)).ownsRow w.heap.size 64 3 (.slice (some ⟨w.heap.size, 0, none⟩) 0 0) 0 [] := ⟨rfl, .inr ⟨w.heap.size, 0, #[], rfl, Nat.le_refl _, World.alloc_heap_new w _, Nat.le_refl _, by decide, rfl, rfl⟩⟩
    have hcells := qsAt_cells (hqs.below hal)
    have hone : ∀ u ∈ qCells l, u.oneCell' = true := fun u hu => by
      obtain ⟨q, _, hq⟩ := List.mem_flatMap.1 hu
      exact qVals_one q u hq
    have HM1 : Hid (0 + l.length ≤ maxLen) := Lib.hid (by simp only [maxLen]; omega)
    have HM2 : Hid ((0 + l.length) * 24 ≤ 140737488355328) := Lib.hid (by omega)
    obtain ⟨iQ, hiQ, hzQ, hsQ, hbQ⟩ := info_parts infoQ
    go_wp2_with (first
      | (at_builtin; refine wpList_append_own _ rfl _ _ 22 rfl w.heap.size 64 iQ _ 3 24 Tryz.underlying22 hiQ hzQ hsQ hbQ rfl (by decide) (.slice (some ⟨w.heap.size, 0, none⟩) 0 0) 0 [] rfl hown a l.length cap (qCells l) rfl (qCells_length l) hcells hone HM1.out HM2.out (by rw [World.size_alloc]; omega) ?_; intro v' w1 hown' hgrow _; obtain ⟨p', c', rfl⟩ := own_slice hown'))
    go_ret
    refine ⟨_, rfl, ?_, hal.grown hgrow (by rw [World.size_alloc]; omega) (fun k hk => (hown.lt k hk).1)⟩
    simpa using hown'

theorem equalIn_Q (x y s x' y' s' : Int) (W : World) : (Op.equalIn 10000 64 (.agg #[.int .i64 x, .int .i64 y, .int .i64 s]) (.agg #[.int .i64 x', .int .i64 y', .int .i64 s'])).run Tryz.prog W = .ok (decide ((⟨x, y, s⟩ : Q) = ⟨x', y', s'⟩)) W := by
  have hf : Tryz.prog.fieldsOf 64 = _ := rfl
  rw [run_equalIn_agg W 9999 64 _ _ (by kernel_rfl) (by kernel_rfl)]
  have e : decide ((⟨x, y, s⟩ : Q) = ⟨x', y', s'⟩) = (x == x' && (y == y' && s == s')) := by
    rw [Bool.eq_iff_iff]; simp
  rw [e]
  by_cases h1 : x = x' <;> by_cases h2 : y = y' <;> by_cases h3 : s = s' <;> simp [go_sem, h1, h2, h3]
theorem take_eq_step {α : Type} {l m : List α} {k : Nat} {a b : α} (hl : l[k]? = some a) (hm : m[k]? = some b) (h : l.take k = m.take k) : (l.take (k + 1) = m.take (k + 1)) ↔ a = b := by
  rw [take_snoc' hl, take_snoc' hm, h]
  simp
set_option maxRecDepth 100000 in
set_option maxHeartbeats 1000000 in
theorem equal_law (l m : List Q) (u v : Value) (w : World) (hu : HasQ w u l) (hv : HasQ w v m) :
    Calls Tryz.prog 44 #[u, v] w fun e w' => e = .returned (.bool (decide (l = m))) ∧ Below w.heap.size w w' := by
  have hcu := hu.slice
  have hcv := hv.slice
  obtain ⟨up, uc, rfl⟩ := hcu
  obtain ⟨vp, vc, rfl⟩ := hcv
  have HU := Lib.hid hu; clear hu
  have HV := Lib.hid hv; clear hv
  have hlm : l.length ≤ maxLen := by
    rcases HU.out with ⟨_, h⟩ | ⟨a, c, _, h1, h2, _⟩
    · rw [h]; decide
    · exact Nat.le_trans h1 h2
  simp only [maxLen] at hlm
  by_cases hlen : l.length = m.length
  case neg =>
    have hne : decide (l = m) = false := decide_eq_false (fun e => hlen (by rw [e]))
    have HNE := Lib.hid hne; clear hne
    have hb : ((l.length : Int) != (m.length : Int)) = true := by simpa using (fun e => hlen (by omega))
    go_enter Tryz.func44, Tryz.ntmps44
    go_wp2_with fail
    go_ret
    exact ⟨by rw [HNE.out]; rfl, Below.refl _ _⟩
  have hb : ((l.length : Int) != (m.length : Int)) = false := by simp [hlen]
  have HLEN := Lib.hid hlen; clear hlen
  go_enter Tryz.func44, Tryz.ntmps44
  go_wp2_with fail
  go_loopw [5] (fun z wr => ∃ k : Nat, k ≤ l.length ∧ z = .int .i64 k ∧ Hid (l.take k = m.take k ∧ Below w.heap.size w wr)) (fun z _ => l.length - (intOf z).toNat)
  case atStart => exact ⟨0, by omega, rfl, Lib.hid ⟨rfl, Below.refl _ _⟩⟩
  case round =>
    obtain ⟨k, hk, rfl, HR⟩ := hrel
    by_cases hlt : k < l.length
    · obtain ⟨⟨x, y, s⟩, ha⟩ : ∃ a, l[k]? = some a := ⟨_, List.getElem?_eq_getElem hlt⟩
      have hltm : k < m.length := by have := HLEN.out; omega
      obtain ⟨⟨x', y', s'⟩, hb'⟩ : ∃ a, m[k]? = some a := ⟨_, List.getElem?_eq_getElem hltm⟩
      obtain ⟨a, rfl, hqa⟩ : ∃ a, up = some a ∧ QsAt w a l := by
        rcases HU.out with ⟨_, h⟩ | ⟨a, c, h1, _, _, h2⟩
        · rw [h] at hlt; cases hlt
        · simp only [Value.slice.injEq] at h1; exact ⟨a, h1.1, h2⟩
      obtain ⟨b, rfl, hqb⟩ : ∃ a, vp = some a ∧ QsAt w a m := by
        rcases HV.out with ⟨_, h⟩ | ⟨a, c, h1, _, _, h2⟩
        · rw [h] at hltm; cases hltm
        · simp only [Value.slice.injEq] at h1; exact ⟨a, h1.1, h2⟩
      have hqa' := hqa.below HR.out.2
      have hqb' := hqb.below HR.out.2
      have a0 := hqa'.at0 k _ ha
      have a1 := hqa'.at1 k _ ha
      have a2 := hqa'.at2 k _ ha
      have b0 := hqb'.at0 k _ hb'
      have b1 := hqb'.at1 k _ hb'
      have b2 := hqb'.at2 k _ hb'
      have HS := Lib.hid (take_eq_step ha hb' HR.out.1)
      clear hqa hqb hqa' hqb' ha hb'
      have hguard : Tryz.prog.eqGuardType Tryz.prog.depth 64 = false := by kernel_rfl
      have heq : ∀ W : World, (Op.equalIn 10000 64 (.agg #[.int .i64 x, .int .i64 y, .int .i64 s]) (.agg #[.int .i64 x', .int .i64 y', .int .i64 s'])).run Tryz.prog W = .ok (decide ((⟨x, y, s⟩ : Q) = ⟨x', y', s'⟩)) W := fun W => equalIn_Q x y s x' y' s' W
      go_wp2
      go_quiet (fail)
      by_cases hq : (⟨x, y, s⟩ : Q) = ⟨x', y', s'⟩
      · have hv : (!decide (x = x') || (!decide (y = y') || !decide (s = s'))) = false := by
          simp only [Q.mk.injEq] at hq
          simp [hq.1, hq.2.1, hq.2.2]
        have HN : Hid (l.take (k + 1) = m.take (k + 1)) := Lib.hid (HS.out.2 hq)
        rw [hv]
        have HB := Lib.hid (HR.out.2.trans (below_drewN _ wr nq))
        clear hq hv heq a0 a1 a2 b0 b1 b2
        go_wp2_with fail
        go_roundw
        case rel => exact ⟨k + 1, by omega, by go_num, Lib.hid ⟨HN.out, HB.out⟩⟩
        case measure => simp [intOf]; omega
      · have hv : (!decide (x = x') || (!decide (y = y') || !decide (s = s'))) = true := by
          simp only [Q.mk.injEq] at hq
          by_cases h1 : x = x' <;> by_cases h2 : y = y' <;> by_cases h3 : s = s' <;> simp_all
        have HN : Hid (decide (l = m) = false) := Lib.hid (decide_eq_false (fun e => hq (HS.out.1 (by rw [e]))))
        rw [hv]
        have HB := Lib.hid (HR.out.2.trans (below_drewN _ wr nq))
        clear hq hv heq a0 a1 a2 b0 b1 b2
        go_wp2_with fail
        go_ret
        exact ⟨by rw [HN.out]; rfl, HB.out⟩
    · obtain rfl : k = l.length := by omega
      have hfin : l = m := by
        have h1 := HR.out.1
        rw [List.take_length, HLEN.out, List.take_length] at h1; exact h1
      have HF : Hid (decide (l = m) = true) := Lib.hid (decide_eq_true hfin)
      clear hfin
      go_wp2_with fail
      go_ret
      exact ⟨by rw [HF.out]; rfl, HR.out.2⟩
end Go.Proofs.YtimnmfjbfbkooaaGreatDoor
