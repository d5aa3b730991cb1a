/- Chapter 7 in the heap: First, of a task without fixed pieces and without joints below. -/
import Derived.Test.YtiinlplgloaanaaGreatDoorZzTopHalved14
import Derived.Test.YtiinlplgloaanaaGreatDoorZzTopHalved10

/- Chapter 7 in the heap: Check, of a task without joints below. -/
namespace Go.Proofs.YtiinlplgloaanaaGreatDoor
set_option linter.all false
set_option linter.unusedSimpArgs false
set_option linter.unusedVariables false
open Go.RowKit
attribute [local go_sem] Oper.semAt_some

def isK (s : List Q) (most : Nat) : Bool := decide (s.length ≤ most ∧ checkN s = 0)
set_option maxRecDepth 100000 in
theorem is_any (s : List Q) (v : Value) (most : Nat) (hm : most ≤ 1000) (w : World) (h : HasQ w v s) :
    Calls Tryz.prog 41 #[v, .int .i64 most] w fun e w' => e = .returned (.bool (isK s most)) ∧ Below w.heap.size w w' := by
  have hlm : s.length ≤ 9223372036854775807 := by
    rcases h with ⟨_, h⟩ | ⟨a, c, _, h1, h2, _⟩
    · rw [h]; decide
    · simp only [maxLen] at h2; omega
  obtain ⟨p, c, rfl⟩ := h.slice
  have HC := Lib.hid (check_any s _ w h); clear h
  obtain ⟨b, hb⟩ : ∃ b, isK s most = b := ⟨_, rfl⟩
  rw [hb]
  unfold isK at hb
  go_enter Tryz.func41, Tryz.ntmps41
  by_cases hl : s.length ≤ most
  · have hd : decide (s.length ≤ most) = true := decide_eq_true hl
    by_cases hc : checkN s = 0
    · have HB : Hid (b = true) := Lib.hid (by rw [← hb]; exact decide_eq_true ⟨hl, hc⟩)
      have hcb : ((checkN s : Int) == 0) = true := by rw [hc]; rfl
      clear hb hl hc
      go_wp2_with fail
      refine HC.out.mono ?_
      rintro e w1 ⟨rfl, hB⟩
      clear HC
      go_wp2_with fail
      go_ret
      exact ⟨ret_bool HB.out.symm, hB⟩
    · have HB : Hid (b = false) := Lib.hid (by rw [← hb]; exact decide_eq_false fun h => hc h.2)
      have hcb : ((checkN s : Int) == 0) = false := by simp only [beq_eq_false_iff_ne, ne_eq]; omega
      clear hb hl hc
      go_wp2_with fail
      refine HC.out.mono ?_
      rintro e w1 ⟨rfl, hB⟩
      clear HC
      go_wp2_with fail
      go_ret
      exact ⟨ret_bool HB.out.symm, hB⟩
  · have hd : decide (s.length ≤ most) = false := decide_eq_false hl
    have HB : Hid (b = false) := Lib.hid (by rw [← hb]; exact decide_eq_false fun h => hl h.1)
    clear hb hl HC
    go_wp2_with fail
    go_ret
    exact ⟨ret_bool HB.out.symm, Below.refl _ _⟩
set_option maxRecDepth 100000 in
theorem sorted_nil (f : Value) (w : World) : Calls Tryz.prog 44 #[.slice none 0 0, f] w fun e w' => e = .returned (.bool true) ∧ w' = w := by
  go_enter Tryz.func44, Tryz.ntmps44
  go_wp2_with fail
  go_loopw [5] (fun z wr => z = .int .i64 (-1) ∧ wr = w) (fun z _ => 0)
  case atStart => exact ⟨rfl, rfl⟩
  case round =>
    obtain ⟨rfl, rfl⟩ := hrel
    go_wp2_with fail
    go_ret
    exact ⟨rfl, rfl⟩
set_option maxRecDepth 100000 in
theorem clone_nil (w : World) : Calls Tryz.prog 47 #[.slice none 0 0] w fun e w' => e = .returned (.slice none 0 0) ∧ w' = w := by
  go_enter Tryz.func47, Tryz.ntmps47
  have he : (binOp .eql 32 (.slice none 0 0) (.slice none 0 0)).run Tryz.prog w = .ok (.bool true) w := by kernel_rfl
  go_wp2_with fail
  go_ret
  exact ⟨rfl, rfl⟩
set_option maxRecDepth 100000 in
theorem compact_nil (w : World) : Calls Tryz.prog 46 #[.slice none 0 0] w fun e w' => e = .returned (.slice none 0 0) ∧ w' = w := by
  go_enter Tryz.func46, Tryz.ntmps46
  go_wp2_with fail
  go_ret
  exact ⟨rfl, rfl⟩
end Go.Proofs.YtiinlplgloaanaaGreatDoor

/- Chapter 7 in the heap: Check, of a task without joints below. -/
namespace Go.Proofs.YtiinlplgloaanaaGreatDoor
set_option linter.all false
set_option linter.unusedSimpArgs false
set_option linter.unusedVariables false
open Go.RowKit
attribute [local go_sem] Oper.semAt_some

theorem okT_iff {t : Tk} (hb : t.below = []) : OkT t ↔ (∀ c ∈ t.counts, 0 ≤ c ∧ c ≤ 16) ∧ isK t.ground 64 = true ∧ (1 ≤ t.kinds.length ∧ t.kinds.length ≤ 8) ∧ t.counts.length = t.kinds.length ∧ t.counts.sum ≤ 16 ∧ t.fixed.length ≤ 16 ∧ ∀ s ∈ t.kinds, isK s 16 = true := by
  have hk : ∀ (s : List Q) (n : Nat), isK s n = true ↔ s.length ≤ n ∧ checkN s = 0 := fun s n => by unfold isK; exact decide_eq_true_iff
  constructor
  · intro h
    exact ⟨h.cnt, (hk _ _).2 ⟨h.g64, h.ground⟩, h.klen, h.clen, h.csum, h.fixed, fun s hs => (hk _ _).2 ⟨h.kind16 s hs, h.kinds s hs⟩⟩
  · rintro ⟨a, b, c, d, e, f, g⟩
    exact ⟨((hk _ _).1 b).2, ((hk _ _).1 b).1, fun s hs => ((hk _ _).1 (g s hs)).2, fun s hs => ((hk _ _).1 (g s hs)).1, c, d, a, e, f, by rw [hb]; simp, by rw [hb]; simp, by rw [hb]; exact List.Pairwise.nil⟩
theorem sum_snoc {l : List Int} {i : Nat} {c : Int} (h : l[i]? = some c) : (l.take (i + 1)).sum = (l.take i).sum + c := by rw [take_snoc6 h, List.sum_append]; simp
theorem sum_le {l : List Int} (h : ∀ c ∈ l, 0 ≤ c ∧ c ≤ 16) : 0 ≤ l.sum ∧ l.sum ≤ 16 * l.length := by
  induction l with
  | nil => simp
  | cons a l ih =>
    have h1 := ih fun c hc => h c (List.mem_cons_of_mem _ hc)
    have h2 := h a (by simp)
    rw [List.sum_cons, List.length_cons]
    omega
theorem all_snoc6 {α : Type} {f : α → Bool} {l : List α} {i : Nat} {x : α} (h : l[i]? = some x) : (l.take (i + 1)).all f = ((l.take i).all f && f x) := by
  rw [take_snoc6 h, List.all_append]; simp
def CkPost (t : Tk) (w : World) (e : Ending) (w' : World) : Prop := ∃ code : Nat, e = .returned (.int .i64 code) ∧ (code = 0 ↔ OkT t) ∧ (code = 0 ∨ code = 2) ∧ Below w.heap.size w w'
set_option maxRecDepth 100000 in
set_option maxHeartbeats 8000000 in
theorem check_task {t : Tk} (hbel : t.below = []) (w : World) (vg vk vc vf : Value) (hg : HasQ w vg t.ground) (hk : HasQQ w vk t.kinds) (hc : RI.Has w vc t.counts) (hf : RL.Has w vf t.fixed) (hcl : t.counts.length ≤ 1000) :
    Calls Tryz.prog 13 #[.agg #[vg, vk, vc, vf, .slice none 0 0]] w (CkPost t w) := by
  have HOKI := Lib.hid (okT_iff hbel)
  have hkm : t.kinds.length ≤ 9223372036854775807 := by
    rcases hk with ⟨_, h⟩ | ⟨_, _, _, _, h1, h2, _⟩
    · rw [h]; decide
    · simp only [maxLen] at h2; omega
  have hfm : t.fixed.length ≤ 9223372036854775807 := by
    rcases hf with ⟨_, h⟩ | ⟨_, _, _, h1, h2, _⟩
    · rw [h]; decide
    · simp only [maxLen] at h2; omega
  obtain ⟨gp, gc, rfl⟩ := hg.slice
  obtain ⟨kp, kc, rfl⟩ := hk.slice
  obtain ⟨cp, cc, rfl⟩ := hc.slice
  obtain ⟨fp, fc, rfl⟩ := hf.slice
  have HG := Lib.hid hg; clear hg
  have HK := Lib.hid hk; clear hk
  have HC := Lib.hid hc; clear hc
  have HF := Lib.hid hf; clear hf
  generalize hpo : CkPost t w = Po
  have HPO := Lib.hid hpo; clear hpo
  go_enter Tryz.func13, Tryz.ntmps13
  go_wp2_with fail
  have hT := World.alloc_heap_new w (.cells #[.slice gp t.ground.length gc, .slice kp t.kinds.length kc, .slice cp t.counts.length cc, .slice fp t.fixed.length fc, .slice none 0 0] 34)
  have hB : Below w.heap.size w (w.alloc (.cells #[.slice gp t.ground.length gc, .slice kp t.kinds.length kc, .slice cp t.counts.length cc, .slice fp t.fixed.length fc, .slice none 0 0] 34)) := (Below.refl _ w).alloc (Nat.le_refl _) _
  revert hT hB
  generalize w.alloc (.cells #[.slice gp t.ground.length gc, .slice kp t.kinds.length kc, .slice cp t.counts.length cc, .slice fp t.fixed.length fc, .slice none 0 0] 34) = w1
  intro hT hB
  have HB := Lib.hid hB; clear hB
  have htl := (Array.getElem?_eq_some_iff.1 hT).1
  have hcell : ∀ W, Below w1.heap.size w1 W → W.heap[w.heap.size]? = some (.cells #[.slice gp t.ground.length gc, .slice kp t.kinds.length kc, .slice cp t.counts.length cc, .slice fp t.fixed.length fc, .slice none 0 0] 34 (0, 0)) := fun W h => (h.block _ htl).trans hT
  have HCELL := Lib.hid hcell; clear hcell
  have t2 : w1.cell? ⟨w.heap.size, 2, none⟩ = some (.slice cp t.counts.length cc) := by simp only [World.cell?, hT]; rfl
  go_wp2_with fail
  clear t2 hT
  go_loopw [4, 16] (fun u z wr => ∃ i : Nat, i ≤ t.counts.length ∧ u = .int .i64 (t.counts.take i).sum ∧ z = .int .i64 i ∧ Hid (Below w1.heap.size w1 wr ∧ ∀ c ∈ t.counts.take i, 0 ≤ c ∧ c ≤ 16)) (fun _ z _ => t.counts.length - (intOf z).toNat)
  case atStart => exact ⟨0, by omega, rfl, rfl, Lib.hid ⟨Below.refl _ _, by simp⟩⟩
  case round =>
    obtain ⟨i, hi, rfl, rfl, HR⟩ := hrel
    by_cases hlt : i < t.counts.length
    · obtain ⟨c, hc⟩ : ∃ c, t.counts[i]? = some c := ⟨_, List.getElem?_eq_getElem hlt⟩
      obtain ⟨ca, rfl, hca⟩ := (HC.out.below (HB.out.trans (HR.out.1.mono HB.out.size))).at_ (by rintro e; rw [e] at hc; simp at hc)
      have c0 := RI.at_cell hca hc
      have hsl := sum_le HR.out.2
      rw [List.length_take] at hsl
      have hsn := sum_snoc hc
      have HSN := Lib.hid hsn; clear hsn
      have HCC := Lib.hid hc; clear hc hca
      by_cases hin : 0 ≤ c ∧ c ≤ 16
      · have HW : Hid (∀ W, Calls Tryz.prog 43 #[.int .i64 c, .int .i64 0, .int .i64 16] W fun e w' => e = .returned (.bool true) ∧ w' = W) := Lib.hid fun W => by
          refine (layerWithin_any c 0 16 W).mono ?_
          rintro e w' ⟨rfl, rfl⟩
          exact ⟨ret_bool (decide_eq_true hin), rfl⟩
        obtain ⟨s, hs⟩ : ∃ s, (t.counts.take i).sum = s := ⟨_, rfl⟩
        rw [hs] at HSN hsl
        rw [hs]
        go_wp2_with (refine (HW.out _).mono ?_; rintro e w' ⟨rfl, rfl⟩)
        go_roundw
        case rel => 
          refine ⟨i + 1, by omega, by rw [HSN.out], by go_num, Lib.hid ⟨HR.out.1, fun x hx => ?_⟩⟩
          rw [take_snoc6 HCC.out] at hx
          rcases List.mem_append.1 hx with h | h
          · exact HR.out.2 x h
          · rw [List.mem_singleton] at h; subst h; exact hin
        case measure => simp [intOf]; omega
      · have HW : Hid (∀ W, Calls Tryz.prog 43 #[.int .i64 c, .int .i64 0, .int .i64 16] W fun e w' => e = .returned (.bool false) ∧ w' = W) := Lib.hid fun W => by
          refine (layerWithin_any c 0 16 W).mono ?_
          rintro e w' ⟨rfl, rfl⟩
          exact ⟨ret_bool (decide_eq_false hin), rfl⟩
        have HNI := Lib.hid hin; clear hin
        obtain ⟨s, hs⟩ : ∃ s, (t.counts.take i).sum = s := ⟨_, rfl⟩
        rw [hs]
        clear hsl HSN hs
        go_wp2_with (refine (HW.out _).mono ?_; rintro e w' ⟨rfl, rfl⟩)
        rw [← HPO.out]
        refine ⟨2, rfl, ⟨fun h => (by cases h), fun h => ?_⟩, .inr rfl, HB.out.trans (HR.out.1.mono HB.out.size)⟩
        exact absurd ((HOKI.out.1 h).1 c (List.mem_of_getElem? HCC.out)) HNI.out
    · obtain rfl : i = t.counts.length := by omega
      have hr := HR.out
      rw [List.take_length] at hr
      obtain ⟨hBr, hall⟩ := hr
      rw [List.take_length]
      have HALL := Lib.hid hall; clear hall
      have hbt := HCELL.out wr hBr
      have d4 : ∀ d : SubW wr, d.1.cell? ⟨w.heap.size, 4, none⟩ = some (.slice none 0 0) := fun d => by simp only [World.cell?, d.block hbt]; rfl
      have HS1 : Hid (∀ d : SubW wr, Calls Tryz.prog 44 #[.slice none 0 0, .func (.func 45) #[] #[]] d.1 fun e w' => e = .returned (.bool true) ∧ ∃ d' : SubW wr, w' = d'.1) := Lib.hid fun d => (sorted_nil _ d.1).mono fun e w' ⟨h1, h2⟩ => ⟨h1, d, h2⟩
      have HS2 : Hid (∀ d : SubW wr, Calls Tryz.prog 47 #[.slice none 0 0] d.1 fun e w' => e = .returned (.slice none 0 0) ∧ ∃ d' : SubW wr, w' = d'.1) := Lib.hid fun d => (clone_nil d.1).mono fun e w' ⟨h1, h2⟩ => ⟨h1, d, h2⟩
      have HS3 : Hid (∀ d : SubW wr, Calls Tryz.prog 46 #[.slice none 0 0] d.1 fun e w' => e = .returned (.slice none 0 0) ∧ ∃ d' : SubW wr, w' = d'.1) := Lib.hid fun d => (compact_nil d.1).mono fun e w' ⟨h1, h2⟩ => ⟨h1, d, h2⟩
      clear HR
      have HBR := Lib.hid hBr; clear hBr
      obtain ⟨S, hS⟩ : ∃ S, t.counts.sum = S := ⟨_, rfl⟩
      rw [hS]
      have HSUM := Lib.hid hS; clear hS
      go_upto_region 10 with fail
      refine wp_region_qb 15 (by kernel_rfl) (by kernel_rfl) ?_
      simp only [List.take_succ_cons, List.take_zero, List.drop_succ_cons, List.drop_zero]
      repeat (go_big_quiet_step ((first | exact HS1.out _ | exact HS2.out _ | exact HS3.out _)))
      refine wpQuiet_nil ?_
      intro dq
      have HB2 := Lib.hid (HBR.out.trans (dq.2.mono HBR.out.size))
      have hbt2 := HCELL.out dq.1 HB2.out
      revert hbt2 HB2
      generalize dq.1 = w2
      intro HB2 hbt2
      clear d4 HS1 HS2 HS3 hbt HBR
      have e0 : w2.cell? ⟨w.heap.size, 0, none⟩ = some (.slice gp t.ground.length gc) := by simp only [World.cell?, hbt2]; rfl
      have hBw2 := HB.out.trans (HB2.out.mono HB.out.size)
      have HIS := Lib.hid (is_any t.ground _ 64 (by decide) w2 (HG.out.below hBw2))
      clear hBw2
      go_wp2_with fail
      clear e0 hbt2
      refine HIS.out.mono ?_
      rintro e w3 ⟨rfl, hB3⟩
      have HB3 := Lib.hid (HB2.out.trans (hB3.mono HB2.out.size)); clear hB3 HIS HB2
      have hbt3 := HCELL.out w3 HB3.out
      have e1 : w3.cell? ⟨w.heap.size, 1, none⟩ = some (.slice kp t.kinds.length kc) := by simp only [World.cell?, hbt3]; rfl
      have e2 : w3.cell? ⟨w.heap.size, 2, none⟩ = some (.slice cp t.counts.length cc) := by simp only [World.cell?, hbt3]; rfl
      have e3 : w3.cell? ⟨w.heap.size, 3, none⟩ = some (.slice fp t.fixed.length fc) := by simp only [World.cell?, hbt3]; rfl
      have e4 : w3.cell? ⟨w.heap.size, 4, none⟩ = some (.slice none 0 0) := by simp only [World.cell?, hbt3]; rfl
      clear hbt3
      obtain ⟨g1, hg1⟩ : ∃ g1, isK t.ground 64 = g1 := ⟨_, rfl⟩
      rw [hg1]
      cases g1 with
      | false =>
        have HN : Hid ¬ (isK t.ground 64 = true) := Lib.hid (by rw [hg1]; decide)
        clear hg1 HSUM
        go_wp2_with fail
        clear e2 e3 e4
        go_loopw [8, 82] (fun u z wr => ∃ i : Nat, i ≤ t.kinds.length ∧ u = .bool (false && (t.kinds.take i).all fun s => isK s 16) ∧ z = .int .i64 i ∧ Hid (Below w1.heap.size w1 wr)) (fun _ z _ => t.kinds.length - (intOf z).toNat)
        case atStart => exact ⟨0, by omega, rfl, rfl, HB3⟩
        case round =>
          clear HB3 e1
          obtain ⟨i, hi, rfl, rfl, HR⟩ := hrel
          by_cases hlt : i < t.kinds.length
          · obtain ⟨s, hs⟩ : ∃ s, t.kinds[i]? = some s := ⟨_, List.getElem?_eq_getElem hlt⟩
            obtain ⟨ka, sv, rfl, hks, hsv⟩ := (HK.out.below (HB.out.trans (HR.out.mono HB.out.size))).at hs
            obtain ⟨sp, sc, rfl⟩ := hsv.slice
            have HAS := Lib.hid (all_snoc6 (f := fun s => isK s 16) hs); clear hs
            have HIS := Lib.hid (is_any s _ 16 (by decide) wr hsv); clear hsv
            obtain ⟨A, hA⟩ : ∃ A, ((t.kinds.take i).all fun s => isK s 16) = A := ⟨_, rfl⟩
            rw [hA] at HAS
            rw [hA]
            clear hA
            go_wp2_with fail
            go_roundw
            case rel => exact ⟨i + 1, by omega, rfl, by go_num, HR⟩
            case measure => simp [intOf]; omega
          · obtain rfl : i = t.kinds.length := by omega
            rw [List.take_length]
            have hbt4 := HCELL.out wr HR.out
            have e4 : wr.cell? ⟨w.heap.size, 4, none⟩ = some (.slice none 0 0) := by simp only [World.cell?, hbt4]; rfl
            clear hbt4
            obtain ⟨A, hA⟩ : ∃ A, (t.kinds.all fun s => isK s 16) = A := ⟨_, rfl⟩
            rw [hA]
            have HA := Lib.hid hA; clear hA
            go_wp2_with fail
            go_loopw [8, 96] (fun u z wq => u = .bool false ∧ z = .int .i64 0 ∧ wq = wr) (fun _ z _ => 0)
            case atStart => exact ⟨rfl, rfl, rfl⟩
            case round =>
              obtain ⟨rfl, rfl, rfl⟩ := hrel
              go_wp2_with fail
              rw [← HPO.out]
              refine ⟨2, rfl, ?_, .inr rfl, HB.out.trans (HR.out.mono HB.out.size)⟩
              exact ⟨fun h => (by cases h), fun h => (by have h1 := (HOKI.out.1 h).2.1; have h2 := HN.out; exact absurd h1 h2)⟩
      | true =>
        have HC1 := Lib.hid hg1; clear hg1
        by_cases h2 : 1 ≤ t.kinds.length ∧ t.kinds.length ≤ 8
        case neg =>
          have HW : Hid (∀ W, Calls Tryz.prog 43 #[.int .i64 t.kinds.length, .int .i64 1, .int .i64 8] W fun e w' => e = .returned (.bool false) ∧ w' = W) := Lib.hid fun W => by
            refine (layerWithin_any _ 1 8 W).mono ?_
            rintro e w' ⟨rfl, rfl⟩
            exact ⟨ret_bool (decide_eq_false (by omega)), rfl⟩
          have HN := Lib.hid h2; clear h2
          go_wp2_with (refine (HW.out _).mono ?_; rintro e w' ⟨rfl, rfl⟩)
          clear e2 e3 e4
          go_loopw [8, 82] (fun u z wr => ∃ i : Nat, i ≤ t.kinds.length ∧ u = .bool (false && (t.kinds.take i).all fun s => isK s 16) ∧ z = .int .i64 i ∧ Hid (Below w1.heap.size w1 wr)) (fun _ z _ => t.kinds.length - (intOf z).toNat)
          case atStart => exact ⟨0, by omega, rfl, rfl, HB3⟩
          case round =>
            clear HB3 e1
            obtain ⟨i, hi, rfl, rfl, HR⟩ := hrel
            by_cases hlt : i < t.kinds.length
            · obtain ⟨s, hs⟩ : ∃ s, t.kinds[i]? = some s := ⟨_, List.getElem?_eq_getElem hlt⟩
              obtain ⟨ka, sv, rfl, hks, hsv⟩ := (HK.out.below (HB.out.trans (HR.out.mono HB.out.size))).at hs
              obtain ⟨sp, sc, rfl⟩ := hsv.slice
              have HAS := Lib.hid (all_snoc6 (f := fun s => isK s 16) hs); clear hs
              have HIS := Lib.hid (is_any s _ 16 (by decide) wr hsv); clear hsv
              obtain ⟨A, hA⟩ : ∃ A, ((t.kinds.take i).all fun s => isK s 16) = A := ⟨_, rfl⟩
              rw [hA] at HAS
              rw [hA]
              clear hA
              go_wp2_with fail
              go_roundw
              case rel => exact ⟨i + 1, by omega, rfl, by go_num, HR⟩
              case measure => simp [intOf]; omega
            · obtain rfl : i = t.kinds.length := by omega
              rw [List.take_length]
              have hbt4 := HCELL.out wr HR.out
              have e4 : wr.cell? ⟨w.heap.size, 4, none⟩ = some (.slice none 0 0) := by simp only [World.cell?, hbt4]; rfl
              clear hbt4
              obtain ⟨A, hA⟩ : ∃ A, (t.kinds.all fun s => isK s 16) = A := ⟨_, rfl⟩
              rw [hA]
              have HA := Lib.hid hA; clear hA
              go_wp2_with fail
              go_loopw [8, 96] (fun u z wq => u = .bool false ∧ z = .int .i64 0 ∧ wq = wr) (fun _ z _ => 0)
              case atStart => exact ⟨rfl, rfl, rfl⟩
              case round =>
                obtain ⟨rfl, rfl, rfl⟩ := hrel
                go_wp2_with fail
                rw [← HPO.out]
                refine ⟨2, rfl, ?_, .inr rfl, HB.out.trans (HR.out.mono HB.out.size)⟩
                exact ⟨fun h => (by cases h), fun h => (by have h1 := (HOKI.out.1 h).2.2.1; have h2 := HN.out; exact absurd h1 h2)⟩
        have HW : Hid (∀ W, Calls Tryz.prog 43 #[.int .i64 t.kinds.length, .int .i64 1, .int .i64 8] W fun e w' => e = .returned (.bool true) ∧ w' = W) := Lib.hid fun W => by
          refine (layerWithin_any _ 1 8 W).mono ?_
          rintro e w' ⟨rfl, rfl⟩
          exact ⟨ret_bool (decide_eq_true (by omega)), rfl⟩
        have HC2 := Lib.hid h2; clear h2
        by_cases h3 : t.counts.length = t.kinds.length
        case neg =>
          have hd3 : ((t.counts.length : Int) == (t.kinds.length : Int)) = false := by simp only [beq_eq_false_iff_ne, ne_eq]; omega
          have HN := Lib.hid h3; clear h3
          go_wp2_with (refine (HW.out _).mono ?_; rintro e w' ⟨rfl, rfl⟩)
          clear e2 e3 e4
          go_loopw [8, 82] (fun u z wr => ∃ i : Nat, i ≤ t.kinds.length ∧ u = .bool (false && (t.kinds.take i).all fun s => isK s 16) ∧ z = .int .i64 i ∧ Hid (Below w1.heap.size w1 wr)) (fun _ z _ => t.kinds.length - (intOf z).toNat)
          case atStart => exact ⟨0, by omega, rfl, rfl, HB3⟩
          case round =>
            clear HB3 e1
            obtain ⟨i, hi, rfl, rfl, HR⟩ := hrel
            by_cases hlt : i < t.kinds.length
            · obtain ⟨s, hs⟩ : ∃ s, t.kinds[i]? = some s := ⟨_, List.getElem?_eq_getElem hlt⟩
              obtain ⟨ka, sv, rfl, hks, hsv⟩ := (HK.out.below (HB.out.trans (HR.out.mono HB.out.size))).at hs
              obtain ⟨sp, sc, rfl⟩ := hsv.slice
              have HAS := Lib.hid (all_snoc6 (f := fun s => isK s 16) hs); clear hs
              have HIS := Lib.hid (is_any s _ 16 (by decide) wr hsv); clear hsv
              obtain ⟨A, hA⟩ : ∃ A, ((t.kinds.take i).all fun s => isK s 16) = A := ⟨_, rfl⟩
              rw [hA] at HAS
              rw [hA]
              clear hA
              go_wp2_with fail
              go_roundw
              case rel => exact ⟨i + 1, by omega, rfl, by go_num, HR⟩
              case measure => simp [intOf]; omega
            · obtain rfl : i = t.kinds.length := by omega
              rw [List.take_length]
              have hbt4 := HCELL.out wr HR.out
              have e4 : wr.cell? ⟨w.heap.size, 4, none⟩ = some (.slice none 0 0) := by simp only [World.cell?, hbt4]; rfl
              clear hbt4
              obtain ⟨A, hA⟩ : ∃ A, (t.kinds.all fun s => isK s 16) = A := ⟨_, rfl⟩
              rw [hA]
              have HA := Lib.hid hA; clear hA
              go_wp2_with fail
              go_loopw [8, 96] (fun u z wq => u = .bool false ∧ z = .int .i64 0 ∧ wq = wr) (fun _ z _ => 0)
              case atStart => exact ⟨rfl, rfl, rfl⟩
              case round =>
                obtain ⟨rfl, rfl, rfl⟩ := hrel
                go_wp2_with fail
                rw [← HPO.out]
                refine ⟨2, rfl, ?_, .inr rfl, HB.out.trans (HR.out.mono HB.out.size)⟩
                exact ⟨fun h => (by cases h), fun h => (by have h1 := (HOKI.out.1 h).2.2.2.1; have h2 := HN.out; exact absurd h1 h2)⟩
        have hd3 : ((t.counts.length : Int) == (t.kinds.length : Int)) = true := by rw [h3]; exact beq_self_eq_true _
        have HC3 := Lib.hid h3; clear h3
        by_cases h4 : S ≤ 16
        case neg =>
          have hd4 : decide (S ≤ 16) = false := decide_eq_false h4
          have HN : Hid ¬ (t.counts.sum ≤ 16) := Lib.hid (by rw [HSUM.out]; exact h4)
          clear h4
          go_wp2_with (refine (HW.out _).mono ?_; rintro e w' ⟨rfl, rfl⟩)
          clear e2 e3 e4
          go_loopw [8, 82] (fun u z wr => ∃ i : Nat, i ≤ t.kinds.length ∧ u = .bool (false && (t.kinds.take i).all fun s => isK s 16) ∧ z = .int .i64 i ∧ Hid (Below w1.heap.size w1 wr)) (fun _ z _ => t.kinds.length - (intOf z).toNat)
          case atStart => exact ⟨0, by omega, rfl, rfl, HB3⟩
          case round =>
            clear HB3 e1
            obtain ⟨i, hi, rfl, rfl, HR⟩ := hrel
            by_cases hlt : i < t.kinds.length
            · obtain ⟨s, hs⟩ : ∃ s, t.kinds[i]? = some s := ⟨_, List.getElem?_eq_getElem hlt⟩
              obtain ⟨ka, sv, rfl, hks, hsv⟩ := (HK.out.below (HB.out.trans (HR.out.mono HB.out.size))).at hs
              obtain ⟨sp, sc, rfl⟩ := hsv.slice
              have HAS := Lib.hid (all_snoc6 (f := fun s => isK s 16) hs); clear hs
              have HIS := Lib.hid (is_any s _ 16 (by decide) wr hsv); clear hsv
              obtain ⟨A, hA⟩ : ∃ A, ((t.kinds.take i).all fun s => isK s 16) = A := ⟨_, rfl⟩
              rw [hA] at HAS
              rw [hA]
              clear hA
              go_wp2_with fail
              go_roundw
              case rel => exact ⟨i + 1, by omega, rfl, by go_num, HR⟩
              case measure => simp [intOf]; omega
            · obtain rfl : i = t.kinds.length := by omega
              rw [List.take_length]
              have hbt4 := HCELL.out wr HR.out
              have e4 : wr.cell? ⟨w.heap.size, 4, none⟩ = some (.slice none 0 0) := by simp only [World.cell?, hbt4]; rfl
              clear hbt4
              obtain ⟨A, hA⟩ : ∃ A, (t.kinds.all fun s => isK s 16) = A := ⟨_, rfl⟩
              rw [hA]
              have HA := Lib.hid hA; clear hA
              go_wp2_with fail
              go_loopw [8, 96] (fun u z wq => u = .bool false ∧ z = .int .i64 0 ∧ wq = wr) (fun _ z _ => 0)
              case atStart => exact ⟨rfl, rfl, rfl⟩
              case round =>
                obtain ⟨rfl, rfl, rfl⟩ := hrel
                go_wp2_with fail
                rw [← HPO.out]
                refine ⟨2, rfl, ?_, .inr rfl, HB.out.trans (HR.out.mono HB.out.size)⟩
                exact ⟨fun h => (by cases h), fun h => (by have h1 := (HOKI.out.1 h).2.2.2.2.1; have h2 := HN.out; omega)⟩
        have hd4 : decide (S ≤ 16) = true := decide_eq_true h4
        have HC4 := Lib.hid h4; clear h4
        by_cases h5 : t.fixed.length ≤ 16
        case neg =>
          have hd5 : decide ((t.fixed.length : Int) ≤ 16) = false := decide_eq_false (by omega)
          have HN := Lib.hid h5; clear h5
          go_wp2_with (refine (HW.out _).mono ?_; rintro e w' ⟨rfl, rfl⟩)
          clear e2 e3 e4
          go_loopw [8, 82] (fun u z wr => ∃ i : Nat, i ≤ t.kinds.length ∧ u = .bool (false && (t.kinds.take i).all fun s => isK s 16) ∧ z = .int .i64 i ∧ Hid (Below w1.heap.size w1 wr)) (fun _ z _ => t.kinds.length - (intOf z).toNat)
          case atStart => exact ⟨0, by omega, rfl, rfl, HB3⟩
          case round =>
            clear HB3 e1
            obtain ⟨i, hi, rfl, rfl, HR⟩ := hrel
            by_cases hlt : i < t.kinds.length
            · obtain ⟨s, hs⟩ : ∃ s, t.kinds[i]? = some s := ⟨_, List.getElem?_eq_getElem hlt⟩
              obtain ⟨ka, sv, rfl, hks, hsv⟩ := (HK.out.below (HB.out.trans (HR.out.mono HB.out.size))).at hs
              obtain ⟨sp, sc, rfl⟩ := hsv.slice
              have HAS := Lib.hid (all_snoc6 (f := fun s => isK s 16) hs); clear hs
              have HIS := Lib.hid (is_any s _ 16 (by decide) wr hsv); clear hsv
              obtain ⟨A, hA⟩ : ∃ A, ((t.kinds.take i).all fun s => isK s 16) = A := ⟨_, rfl⟩
              rw [hA] at HAS
              rw [hA]
              clear hA
              go_wp2_with fail
              go_roundw
              case rel => exact ⟨i + 1, by omega, rfl, by go_num, HR⟩
              case measure => simp [intOf]; omega
            · obtain rfl : i = t.kinds.length := by omega
              rw [List.take_length]
              have hbt4 := HCELL.out wr HR.out
              have e4 : wr.cell? ⟨w.heap.size, 4, none⟩ = some (.slice none 0 0) := by simp only [World.cell?, hbt4]; rfl
              clear hbt4
              obtain ⟨A, hA⟩ : ∃ A, (t.kinds.all fun s => isK s 16) = A := ⟨_, rfl⟩
              rw [hA]
              have HA := Lib.hid hA; clear hA
              go_wp2_with fail
              go_loopw [8, 96] (fun u z wq => u = .bool false ∧ z = .int .i64 0 ∧ wq = wr) (fun _ z _ => 0)
              case atStart => exact ⟨rfl, rfl, rfl⟩
              case round =>
                obtain ⟨rfl, rfl, rfl⟩ := hrel
                go_wp2_with fail
                rw [← HPO.out]
                refine ⟨2, rfl, ?_, .inr rfl, HB.out.trans (HR.out.mono HB.out.size)⟩
                exact ⟨fun h => (by cases h), fun h => (by have h1 := (HOKI.out.1 h).2.2.2.2.2.1; have h2 := HN.out; exact absurd h1 h2)⟩
        have hd5 : decide ((t.fixed.length : Int) ≤ 16) = true := decide_eq_true (by omega)
        have HC5 := Lib.hid h5; clear h5
        go_wp2_with (refine (HW.out _).mono ?_; rintro e w' ⟨rfl, rfl⟩)
        clear e2 e3 e4
        go_loopw [8, 82] (fun u z wr => ∃ i : Nat, i ≤ t.kinds.length ∧ u = .bool (true && (t.kinds.take i).all fun s => isK s 16) ∧ z = .int .i64 i ∧ Hid (Below w1.heap.size w1 wr)) (fun _ z _ => t.kinds.length - (intOf z).toNat)
        case atStart => exact ⟨0, by omega, rfl, rfl, HB3⟩
        case round =>
          clear HB3 e1
          obtain ⟨i, hi, rfl, rfl, HR⟩ := hrel
          by_cases hlt : i < t.kinds.length
          · obtain ⟨s, hs⟩ : ∃ s, t.kinds[i]? = some s := ⟨_, List.getElem?_eq_getElem hlt⟩
            obtain ⟨ka, sv, rfl, hks, hsv⟩ := (HK.out.below (HB.out.trans (HR.out.mono HB.out.size))).at hs
            obtain ⟨sp, sc, rfl⟩ := hsv.slice
            have HAS := Lib.hid (all_snoc6 (f := fun s => isK s 16) hs); clear hs
            have HIS := Lib.hid (is_any s _ 16 (by decide) wr hsv); clear hsv
            obtain ⟨A, hA⟩ : ∃ A, ((t.kinds.take i).all fun s => isK s 16) = A := ⟨_, rfl⟩
            rw [hA] at HAS
            rw [hA]
            clear hA
            cases A with
            | true =>
              go_wp2_with fail
              refine HIS.out.mono ?_
              rintro e w5 ⟨rfl, hB5⟩
              have HB5 := Lib.hid (HR.out.trans (hB5.mono HR.out.size)); clear hB5 HIS hks HR
              go_wp2_with fail
              go_roundw
              case rel => exact ⟨i + 1, by omega, by rw [HAS.out]; simp only [Bool.true_and], by go_num, HB5⟩
              case measure => simp [intOf]; omega
            | false =>
              go_wp2_with fail
              go_roundw
              case rel => exact ⟨i + 1, by omega, by rw [HAS.out]; rfl, by go_num, HR⟩
              case measure => simp [intOf]; omega
          · obtain rfl : i = t.kinds.length := by omega
            rw [List.take_length]
            have hbt4 := HCELL.out wr HR.out
            have e4 : wr.cell? ⟨w.heap.size, 4, none⟩ = some (.slice none 0 0) := by simp only [World.cell?, hbt4]; rfl
            clear hbt4
            obtain ⟨A, hA⟩ : ∃ A, (t.kinds.all fun s => isK s 16) = A := ⟨_, rfl⟩
            rw [hA]
            have HA := Lib.hid hA; clear hA
            cases A with
            | true =>
              go_wp2_with fail
              go_loopw [8, 96] (fun u z wq => u = .bool true ∧ z = .int .i64 0 ∧ wq = wr) (fun _ z _ => 0)
              case atStart => exact ⟨rfl, rfl, rfl⟩
              case round =>
                obtain ⟨rfl, rfl, rfl⟩ := hrel
                go_wp2_with fail
                rw [← HPO.out]
                refine ⟨0, rfl, ?_, .inl rfl, HB.out.trans (HR.out.mono HB.out.size)⟩
                exact ⟨fun _ => HOKI.out.2 ⟨HALL.out, HC1.out, HC2.out, HC3.out, by rw [HSUM.out]; exact HC4.out, HC5.out, fun s hs => List.all_eq_true.1 HA.out s hs⟩, fun _ => rfl⟩
            | false =>
              go_wp2_with fail
              go_loopw [8, 96] (fun u z wq => u = .bool false ∧ z = .int .i64 0 ∧ wq = wr) (fun _ z _ => 0)
              case atStart => exact ⟨rfl, rfl, rfl⟩
              case round =>
                obtain ⟨rfl, rfl, rfl⟩ := hrel
                go_wp2_with fail
                rw [← HPO.out]
                refine ⟨2, rfl, ?_, .inr rfl, HB.out.trans (HR.out.mono HB.out.size)⟩
                exact ⟨fun h => (by cases h), fun h => by have h1 := (HOKI.out.1 h).2.2.2.2.2.2; rw [← List.all_eq_true (l := t.kinds) (p := fun s => isK s 16), HA.out] at h1; cases h1⟩
end Go.Proofs.YtiinlplgloaanaaGreatDoor

/- Chapter 7 in the heap: First, of a task without fixed pieces and without joints below. -/
namespace Go.Proofs.YtiinlplgloaanaaGreatDoor
set_option linter.all false
set_option linter.unusedSimpArgs false
set_option linter.unusedVariables false
open Go.RowKit
attribute [local go_sem] Oper.semAt_some

theorem tk_any {t : Tk} {L : List E} (ho : OkT t) (hl : LOk t.ground L) : TkOk t L := by
  have k := tk_ok ho
  have hq := (checkN_ok ho.ground).1.1
  have hp : L.Perm (edgesL t.ground) := (List.perm_ext_iff_of_nodup hl.nodup (edgesL_nodup _)).2 fun e => by rw [hl.mem e, edgesL_mem hq]
  exact ⟨k.g64, by rw [hp.length_eq]; exact k.l192, k.cnt, k.clen, k.k8, k.inG, fun p h e he => hp.mem_iff.2 (k.inL p h e he), k.kind, k.ne⟩
theorem own_wider {w : World} {base base' : Nat} {e : TypeId} {size : Nat} {v : Value} {n : Nat} {xs : List Value} (h : w.ownsRow base e size v n xs) (hb : base' ≤ base) : w.ownsRow base' e size v n xs := by
  refine ⟨h.1, ?_⟩
  rcases h.2 with h2 | ⟨g, cap, cur, hv, hb2, r⟩
  · exact .inl h2
  · exact .inr ⟨g, cap, cur, hv, Nat.le_trans hb hb2, r⟩
theorem root_fixed_nil {t : Tk} (h : t.fixed = []) : rootT t = some [] := by unfold rootT; rw [h]; rfl
def FirstPost (t : Tk) (w : World) (e : Ending) (w' : World) : Prop := ∃ (v : Value) (code : Nat), e = .returned (.tuple #[v, .int .i64 code]) ∧ Below w.heap.size w w' ∧ (OkT t → RL.Own w' w.heap.size v (firstT t).1 ∧ code = (firstT t).2) ∧ (¬ OkT t → v = .slice none 0 0 ∧ code = 2)
set_option maxRecDepth 100000 in
set_option maxHeartbeats 8000000 in
theorem first_task {t : Tk} (hbel : t.below = []) (hfx : t.fixed = []) (w : World) (vg vk vc vf : Value) (hg : HasQ w vg t.ground) (hk : HasQQ w vk t.kinds) (hc : RI.Has w vc t.counts) (hcf : flatV vc) (hf : RL.Has w vf t.fixed) (hcl : t.counts.length ≤ 1000) (htb : TbAt w) :
    Calls Tryz.prog 15 #[.agg #[vg, vk, vc, vf, .slice none 0 0]] w (FirstPost t w) := by
  obtain ⟨gp, gc, rfl⟩ := hg.slice
  obtain ⟨kp, kc, rfl⟩ := hk.slice
  obtain ⟨cp, cc, rfl⟩ := hc.slice
  obtain ⟨fp, fc, rfl⟩ := hf.slice
  have hCK : ∀ W, Below w.heap.size w W → Calls Tryz.prog 13 #[.agg #[.slice gp t.ground.length gc, .slice kp t.kinds.length kc, .slice cp t.counts.length cc, .slice fp t.fixed.length fc, .slice none 0 0]] W (CkPost t W) :=
    fun W h => check_task hbel W _ _ _ _ (hg.below h) (hk.below h) (hc.below h) (hf.below h) hcl
  have hLY : ∀ W, Below w.heap.size w W → OkT t → Calls Tryz.prog 37 #[.agg #[.slice gp t.ground.length gc, .slice kp t.kinds.length kc, .slice cp t.counts.length cc, .slice fp t.fixed.length fc, .slice none 0 0]] W fun e w' => ∃ (bb : Nat) (bv : BV) (L : List E), e = .returned (.pointer (some ⟨bb, 0, none⟩)) ∧ W.heap.size ≤ bb ∧ BdAt w' bb bv t L (pcsT t L) (belT t L) ∧ LOk t.ground L ∧ Below W.heap.size W w' :=
    fun W h ho => board_any ho W _ _ _ _ _ (hg.below h) (hk.below h) (hc.below h) hcf (hf.below h) (by rw [hbel]; exact .inl ⟨rfl, rfl⟩)
  have hAF : ∀ W bb bv L, Below w.heap.size w W → OkT t → LOk t.ground L → BdAt W bb bv t L (pcsT t L) (belT t L) → Calls Tryz.prog 48 #[.pointer (some ⟨bb, 0, none⟩), .slice none 0 0] W fun e w' => ∃ v, e = .returned (.tuple #[v, .int .i64 (firstT t).2]) ∧ RL.Own w' W.heap.size v (firstT t).1 ∧ Below W.heap.size W w' :=
    fun W bb bv L h ho hl hb => after_nil ho (tk_any ho hl) (fun s hs => by rw [root_fixed_nil hfx] at hs; cases hs; exact good_nil t) W bb bv hb (htb.below h) fun W' hb' _ => root_nil hfx W' bb bv _ _ hb'
  have HCK := Lib.hid hCK; clear hCK
  have HLY := Lib.hid hLY; clear hLY
  have HAF := Lib.hid hAF; clear hAF hg hk hc hf htb hcf
  generalize hpo : FirstPost t w = Po
  have HPO := Lib.hid hpo; clear hpo
  have HFX := Lib.hid hfx; clear hfx
  have HBEL := Lib.hid hbel; clear hbel
  go_enter Tryz.func15, Tryz.ntmps15
  go_wp2_with fail
  have hT := World.alloc_heap_new w (.cells #[.slice gp t.ground.length gc, .slice kp t.kinds.length kc, .slice cp t.counts.length cc, .slice fp t.fixed.length fc, .slice none 0 0] 34)
  have hB : Below w.heap.size w (w.alloc (.cells #[.slice gp t.ground.length gc, .slice kp t.kinds.length kc, .slice cp t.counts.length cc, .slice fp t.fixed.length fc, .slice none 0 0] 34)) := (Below.refl _ w).alloc (Nat.le_refl _) _
  revert hT hB
  generalize w.alloc (.cells #[.slice gp t.ground.length gc, .slice kp t.kinds.length kc, .slice cp t.counts.length cc, .slice fp t.fixed.length fc, .slice none 0 0] 34) = w1
  intro hT hB
  have HB := Lib.hid hB; clear hB
  have htl := (Array.getElem?_eq_some_iff.1 hT).1
  refine (HCK.out w1 HB.out).mono ?_
  rintro e w2 ⟨code, rfl, h0, h2, hB2⟩
  have hT2 := (hB2.block _ htl).trans hT
  have HB2 := Lib.hid (HB.out.trans (hB2.mono HB.out.size)); clear hB2 HB htl
  have hcell : ∀ j, w2.cell? ⟨w.heap.size, j, none⟩ = (#[.slice gp t.ground.length gc, .slice kp t.kinds.length kc, .slice cp t.counts.length cc, .slice fp t.fixed.length fc, .slice none 0 0] : Array Value)[j]? := fun j => by simp only [World.cell?, hT2]; simp
  have c0 := hcell 0
  have c1 := hcell 1
  have c2 := hcell 2
  have c3 := hcell 3
  have c4 := hcell 4
  simp at c0 c1 c2 c3 c4
  clear hcell hT HCK
  have HO := Lib.hid h0; clear h0
  rcases h2 with rfl | rfl
  · have ho := HO.out.1 rfl
    have HL := Lib.hid (HLY.out w2 HB2.out ho)
    have HA := Lib.hid fun W bb bv L h => HAF.out W bb bv L h ho
    have HOK := Lib.hid ho
    clear ho HLY HAF hT2 HO
    go_wp2_with fail
    refine HL.out.mono ?_
    rintro e w3 ⟨bb, bv, L, rfl, hbb, hbd, hlok, hB3⟩
    have HB3 := Lib.hid (HB2.out.trans (hB3.mono HB2.out.size)); clear hB3 HL
    have HA2 := Lib.hid (HA.out w3 bb bv L HB3.out hlok hbd)
    clear HA hbd hlok c0 c1 c2 c3 c4 hbb
    go_wp2_with fail
    refine HA2.out.mono ?_
    rintro e w4 ⟨v, rfl, hv, hB4⟩
    have HB4 := Lib.hid (HB3.out.trans (hB4.mono HB3.out.size)); clear hB4 HA2
    have HV := Lib.hid (own_wider hv HB3.out.size); clear hv
    go_wp2_with fail
    rw [← HPO.out]
    exact ⟨v, _, rfl, HB4.out, fun _ => ⟨HV.out, rfl⟩, fun h => absurd HOK.out h⟩
  · have HN : Hid (¬ OkT t) := Lib.hid fun h => absurd (HO.out.2 h) (by decide)
    clear HLY HAF hT2 HO
    go_wp2_with fail
    rw [← HPO.out]
    exact ⟨_, 2, rfl, HB2.out, fun h => absurd h HN.out, fun _ => ⟨rfl, rfl⟩⟩
end Go.Proofs.YtiinlplgloaanaaGreatDoor
