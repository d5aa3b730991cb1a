/- images: the set of the eight images. -/
import Derived.Test.YtimnmfjbfbkooaaGreatDoorKy
namespace Go.Proofs.YtimnmfjbfbkooaaGreatDoor
set_option linter.all false
set_option linter.unusedSimpArgs false
set_option linter.unusedVariables false
open Go.RowKit
attribute [local go_sem] Oper.semAt_some

/-! ### Sets -/
def setM {κ : Type} (l : List κ) : List (κ × Value) := l.map fun x => (x, Value.bool true)
section
variable {P : Program} {k t e : TypeId} {κ : Type} {enc : κ → Value} {ok : κ → Prop} {W : World} {b : Nat} {l : List κ}
theorem setM_keys (l : List κ) : (setM l).map (·.1) = l := by simp [setM, Function.comp_def]
theorem mem_setM {p : κ × Value} : p ∈ setM l ↔ p.1 ∈ l ∧ p.2 = .bool true := by
  simp only [setM, List.mem_map]
  constructor
  · rintro ⟨x, hx, rfl⟩; exact ⟨hx, rfl⟩
  · rintro ⟨h1, h2⟩; exact ⟨p.1, h1, by rw [← h2]⟩
theorem run_update_set (E : KeyEnc P k enc ok) (ht : P.underlying t = some (.map k e)) (h : HasM enc W b (setM l)) (hok : ∀ x ∈ l, ok x) (hn : l.Nodup) {x : κ} (hx : ok x) :
    ∃ l', (Instr.mapUpdate t (.map (some b)) (enc x) (.bool true)).run P W = .ok () (putM enc W b (setM l')) ∧ l'.Nodup ∧ ∀ y, y ∈ l' ↔ y ∈ l ∨ y = x := by
  by_cases hm : x ∈ l
  · obtain ⟨l1, l2, rfl⟩ := List.append_of_mem hm
    refine ⟨l1 ++ x :: l2, ?_, hn, fun y => ⟨fun h => .inl h, fun h => h.elim id (fun e => by subst e; exact hm)⟩⟩
    have e : setM (l1 ++ x :: l2) = setM l1 ++ (x, Value.bool true) :: setM l2 := by simp [setM]
    rw [e] at h ⊢
    refine run_update_hit E ht h (fun p hp => ?_) ?_ _
    · rw [← e] at hp; exact hok _ (mem_setM.1 hp).1
    · rw [← e, setM_keys]; exact hn
  · refine ⟨l ++ [x], ?_, ?_, fun y => by simp⟩
    · have e : setM (l ++ [x]) = setM l ++ [(x, Value.bool true)] := by simp [setM]
      rw [e]
      exact run_update_miss E ht h (fun p hp => hok _ (mem_setM.1 hp).1) hx (fun p hp e => hm (by rw [← e]; exact (mem_setM.1 hp).1)) _
    · rw [List.nodup_append]
      exact ⟨hn, by simp, fun a ha b hb e => hm (by rw [List.mem_singleton.1 hb] at e; rw [← e]; exact ha)⟩
end
theorem Stab.hasM {B b : Nat} (h : b < B) {κ : Type} (enc : κ → Value) (l : List (κ × Value)) : Stab B (fun W => HasM enc W b l) := Stab.obj h _

theorem ways_call {a : Act} {t : Tmp} {g : Grid} (h : a.eval (.tmp t) = .func (.func 47) #[gridV g] #[]) (l : Nat) (W : World) :
    ∃ d, (resolve a.eval (rangeCall (.tmp t) l) 0).run Tryz.prog W = .ok d W ∧ (invoke d.target d.args).run Tryz.prog W = .ok (.enter 47 #[gridV g, .func (.yield l) #[] #[]]) W := by
  refine ⟨{ target := .fn (.func 47) #[], args := #[gridV g, .func (.yield l) #[] #[]] }, ?_, ?_⟩
  · simp only [resolve, h]
    simp [go_sem]
  · simp [invoke, go_sem]
theorem wayXs_size {g : Grid} : ∀ x ∈ wayXs g, x.size = 2 := by
  intro x hx
  simp only [wayXs, List.mem_map] at hx
  obtain ⟨i, _, rfl⟩ := hx
  rfl
theorem wayXs_some {g : Grid} {k : Nat} {x : Array Value} (h : (wayXs g)[k]? = some x) : k < 8 ∧ x = #[.agg #[.bool (decide (4 ≤ k)), .int .i64 (k % 4 : Nat), .int .i64 0, .int .i64 0], gridV (imgG g (wayN k))] := by
  have hk : k < 8 := by have := (List.getElem?_eq_some_iff.1 h).1; rwa [wayXs_length] at this
  rw [wayXs_get g hk] at h
  exact ⟨hk, (Option.some.inj h).symm⟩
theorem okG_img {g : Grid} (h : okG g) (w : Way) : okG (imgG g w) := okG_moved (okG_turns (okG_front h w.1) w.2)

set_option maxRecDepth 100000 in
set_option maxHeartbeats 4000000 in
theorem images_any (g : Grid) (hg : okG g) (w : World) :
    Calls Tryz.prog 74 #[gridV g] w fun e w' => ∃ b l, e = .returned (.map (some b)) ∧ w.heap.size ≤ b ∧ HasM gridV w' b (setM l) ∧ l.Nodup ∧ (∀ x : Grid, x ∈ l ↔ ∃ v ∈ ways8, imgG g v = x) ∧ Below w.heap.size w w' := by
  have HG := Lib.hid hg; clear hg
  have hmm := @run_makeMap Tryz.prog
  refine calls_of_rf Tryz.func74 rfl ?_
  simp only [Tryz.ntmps74, List.size_toArray, List.length_cons, List.length_nil, Nat.reduceAdd, Nat.reduceSub, Array.replicate_succ, Array.replicate_zero, List.push_toArray, List.append_toArray, List.nil_append, List.cons_append]
  unfold gridV
  gi_wp2_with (refine wpListIn_load_row rfl 76 _ rfl w.heap.size rfl 76 (gridA g) (0, 0) _ (((HasG.new w g).alloc _).alloc _) Tryz.underlying76 rfl (by rw [size_gridA]; exact sizeG) ?_)
  clear hmm
  obtain ⟨hG0, hM0, hO0, hB0, hsz⟩ := alloc3 w (.cells (gridA g) 76) (.map #[] 0) (.cells #[.map (some (w.heap.size + 1))] 78)
  revert hM0 hO0 hB0 hsz
  clear hG0
  generalize ((w.alloc (.cells (gridA g) 76)).alloc (.map #[] 0)).alloc (.cells #[.map (some (w.heap.size + 1))] 78) = W0
  intro hM0 hO0 hB0 hsz
  refine range_law_g (ro := none) (gf := 47) (mk := fun y => #[gridV g, y]) (xs := wayXs g) ?hro ?hg (ways_iter g HG.out) ?hps
    (fun _ k W => ((∃ l : List Grid, HasM gridV W (w.heap.size + 1) (setM l) ∧ (l.Nodup ∧ ∀ x, x ∈ l ↔ ∃ i, i < k ∧ imgG g (wayN i) = x)) ∧ Boxed W (w.heap.size + 1 + 1) 78 (.map (some (w.heap.size + 1)))) ∧ Below w.heap.size w W)
    (fun _ _ => False) ?hI ?hIx ?h0 ?round ?done ?stop
  case hro => intro l0 h; cases h
  case hg => exact ways_call (g := g) rfl
  case hps => intro x hx; rw [wayXs_size x hx]; rfl
  case hI => exact (fun _ k => Stab.and (Stab.and (Stab.ex fun l => Stab.and (Stab.hasM (by omega) _ _) (Stab.pure _ _)) (Stab.boxed _ _ _ _)) (Stab.below (by omega) (Nat.le_refl _)))
  case hIx => exact (fun _ => Stab.false _)
  case h0 =>
    intro b W' _ hE
    exact ⟨⟨⟨[], hE.block _ _ hM0 (.inl (by omega)), by simp, fun x => by simp⟩, hE.block _ _ hO0 (.inr rfl)⟩, Stab.below (B := W0.heap.size) (by omega) (Nat.le_refl _) _ _ hB0 hE⟩
  case round =>
    intro b l k x W o hx hI hl hlb hl2 hob hoc
    obtain ⟨hk, rfl⟩ := wayXs_some hx
    simp only [round_tmps2, List.setIfInBounds_toArray, List.set_cons_zero, List.set_cons_succ]
    have hbW : b < W.heap.size := (Array.getElem?_eq_some_iff.1 hob).1
    have HI := Lib.hid hI; clear hI
    gi_wp2_with (refine wpListIn_store_row rfl 76 _ _ rfl W.heap.size rfl 76 _ (gridA (imgG g (wayN k))) rfl (World.alloc_heap_new W _) (by rw [size_gridA]; exact sizeG) (by rw [gridA_zero, size_gridA, size_gridA]) (gridA_one _) ?_; rw [World.setRow_alloc_new])
    refine ⟨fun W' => ((((∃ l : List Grid, HasM gridV W' (w.heap.size + 1) (setM l) ∧ (l.Nodup ∧ ∀ x, x ∈ l ↔ ∃ i, i < k ∧ imgG g (wayN i) = x)) ∧ Boxed W' (w.heap.size + 1 + 1) 78 (.map (some (w.heap.size + 1)))) ∧ Below w.heap.size w W') ∧ HasG W' W.heap.size (imgG g (wayN k))),
      Stab.and (Stab.and (Stab.and (Stab.ex fun l => Stab.and (Stab.hasM (by omega) _ _) (Stab.pure _ _)) (Stab.boxed _ _ _ _)) (Stab.below (by omega) (Nat.le_refl _))) (Stab.hasG _ _ _), ?_, ?_, ?_, ?_⟩
    · exact ⟨by simp, fun k o' _ hk _ => heapO _ hk⟩
    · obtain ⟨⟨⟨l, hm, hr⟩, hO⟩, hB⟩ := HI.out
      exact ⟨⟨⟨⟨l, hm.alloc _, hr⟩, heapO _ hO⟩, hB.alloc hB.size _⟩, HasG.new W _⟩
    · exact heapO _ hob
    · rintro W2 ⟨⟨⟨⟨l, hm, hn, hmem⟩, hO⟩, hB⟩, hX⟩ hl3 hob2
      have HM := Lib.hid hmem; clear hmem
      have HN := Lib.hid hn
      have hkok : ∀ x ∈ l, okG x := fun x hx => by
        obtain ⟨i, _, rfl⟩ := (HM.out x).1 hx
        exact okG_img HG.out _
      obtain ⟨l', hup, hn', hl'⟩ := run_update_set encG Tryz.underlying78 hm hkok hn (okG_img HG.out (wayN k))
      clear hn hkok
      have HN' := Lib.hid hn'; clear hn'
      have HL' := Lib.hid hl'; clear hl'
      unfold gridV at hup
      have c1 := hO.cell
      gi_wp2_with (refine wpListIn_load_row rfl 76 _ rfl W.heap.size rfl 76 _ (0, 0) _ hX Tryz.underlying76 rfl (by rw [size_gridA]; exact sizeG) ?_)
      have hb1 : w.heap.size + 1 < b := by omega
      refine ⟨⟨by rw [putM_size]; exact Nat.le_refl _, fun j o' hj hjo _ => (putM_other W2 (by omega) _).trans hjo⟩, ⟨⟨⟨l', HasM.put hm.lt _, HN'.out, fun x => ?_⟩, (putM_other W2 (by omega) _).trans hO⟩, hB.trans (putM_below W2 (by omega) _)⟩, (putM_other W2 (by omega) _).trans hob2⟩
      rw [HL'.out x, HM.out x]
      constructor
      · rintro (⟨i, hi, e⟩ | e)
        · exact ⟨i, by omega, e⟩
        · exact ⟨k, by omega, e.symm⟩
      · rintro ⟨i, hi, e⟩
        by_cases hik : i = k
        · subst hik; exact .inr e.symm
        · exact .inl ⟨i, by omega, e⟩
  case done =>
    intro b ds W hM ⟨⟨⟨l, hm, hn, hmem⟩, hO⟩, hB⟩
    obtain ⟨D, hD, rfl, hK⟩ := hM
    have c1 := hO.cell
    have HM := Lib.hid hmem; clear hmem
    have HN := Lib.hid hn; clear hn
    gi_wp2
    have hne : w.heap.size + 1 ≠ D := by omega
    refine ⟨[D], rfl, by simp, by simpa using hK, fun w' ht => ⟨.map (some (w.heap.size + 1)), by simp [results, Tryz.results74, go_sem], _, l, rfl, Nat.le_succ _, ?_, HN.out, ?_, hB.trans (ht.below (by simp; omega))⟩⟩
    · exact (ht.block _ (by simpa using hne)).trans hm
    · intro x
      rw [HM.out x, wayXs_length]
      constructor
      · rintro ⟨i, hi, e⟩; exact ⟨wayN i, by rw [ways8_eq]; exact List.mem_map.2 ⟨i, by simpa using hi, rfl⟩, e⟩
      · rintro ⟨v, hv, e⟩
        rw [ways8_eq] at hv
        obtain ⟨i, hi, rfl⟩ := List.mem_map.1 hv
        exact ⟨i, by simpa using hi, e⟩
  case stop =>
    rintro ds c W _ h
    exact h.elim
end Go.Proofs.YtimnmfjbfbkooaaGreatDoor
