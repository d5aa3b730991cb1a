/- Chapter 7 in the heap: Count, of a task without fixed pieces and without joints below. -/
import Derived.Test.YtiinlplgloaanaaGreatDoorZzTopHalved11
import Derived.Test.YtiinlplgloaanaaGreatDoorZzTopHalved16
import Derived.Test.YtiinlplgloaanaaGreatDoorZzTopHalved12
import Derived.Test.YtiinlplgloaanaaGreatDoorZzTopHalved02
import Derived.Sort.CutIn
import Derived.Sort.QuietIn
import Derived.OwnWalk
import Derived.Maps.OwnIn

/- Beside Count: the ways as a slice of slices of numbers; what the key asks of a way. -/
namespace Go.Proofs.YtiinlplgloaanaaGreatDoor
set_option linter.all false
set_option linter.unusedSimpArgs false
set_option linter.unusedVariables false
open Go.RowKit
attribute [local go_sem] Oper.semAt_some

section
variable {P : Program} {ops : Array Oper} {C : World → Prop} {Q : Act → Prop} {a : Act} {o : Oper} {rest : List Oper}
/-- A load of a whole row in a quiet walk. -/
theorem wpQuiet_load_is (hw : Region.wanted o (yielded ops a.tmps) = true) (ty : TypeId) (x : Operand) (ho : o.op = .load ty x) {p : Value} (hx : a.eval x = p) {v : Value} (hv : ∀ w, C w → (Instr.loadAt ty p).run P w = .ok v w) (h : wpQuiet P ops C Q rest (a.put o.dst v)) :
    wpQuiet P ops C Q (o :: rest) a := by
  refine wpQuiet_step fun K hK => ?_
  rw [if_pos hw]
  refine ⟨v, fun w hc => ?_, hK _ h⟩
  unfold Oper.quietAt execOp
  simp only [ho, hx, Sem.run_bind, hv w hc, Result.andThen_ok, Sem.run_pure]
  exact ⟨rfl, rfl⟩
end
theorem mapM_mem {α β : Type} {f : α → Option β} : ∀ {l : List α} {T : List β}, l.mapM f = some T → ∀ y ∈ T, ∃ x ∈ l, f x = some y
  | [], T, h, y, hy => by simp at h; subst h; simp at hy
  | a :: l, T, h, y, hy => by
    simp only [List.mapM_cons, Option.bind_eq_bind, Option.bind_eq_some_iff, Option.pure_def, Option.some.injEq] at h
    obtain ⟨b, hb, T', hT', rfl⟩ := h
    rcases List.mem_cons.1 hy with rfl | hy
    · exact ⟨a, by simp, hb⟩
    · obtain ⟨x, hx, h2⟩ := mapM_mem hT' y hy
      exact ⟨x, List.mem_cons_of_mem _ hx, h2⟩
theorem ways_ok {g : List Q} {tw : List Nat} (h : tw ∈ waysT g) : tw.length = g.length ∧ ∀ x ∈ tw, x < g.length := by
  unfold waysT at h
  obtain ⟨i, _, hi⟩ := List.mem_filterMap.1 h
  rw [wayT_eq] at hi
  refine ⟨by rw [mapM_some_len hi]; unfold imgT; simp, fun x hx => ?_⟩
  obtain ⟨q, _, hq⟩ := mapM_mem hi x hx
  exact (atT_some hq).2
/-- One tiling is counted. -/
def stepU (g : List Q) (a : List (List UInt8) × Nat) (s : List Pc) : List (List UInt8) × Nat :=
  if keyT g ((waysT g).headD []) s ∈ a.1 then a else (a.1 ++ (waysT g).map fun tw => keyT g tw s, a.2 + 1)
def foldU (g : List Q) (l : List (List Pc)) (i : Nat) : List (List UInt8) × Nat := (l.take i).foldl (stepU g) ([], 0)
theorem foldU_zero (g : List Q) (l : List (List Pc)) : foldU g l 0 = ([], 0) := rfl
theorem foldU_step {g : List Q} {l : List (List Pc)} {i : Nat} {s : List Pc} (h : l[i]? = some s) : foldU g l (i + 1) = stepU g (foldU g l i) s := by
  unfold foldU
  rw [take_snoc6 h, List.foldl_append]; rfl
theorem foldU_all (g : List Q) (l : List (List Pc)) : (foldU g l l.length).2 = unlikeT g l := by
  unfold foldU unlikeT
  rw [List.take_length]; rfl
theorem foldU_le (g : List Q) (l : List (List Pc)) : ∀ i, (foldU g l i).2 ≤ i := by
  intro i
  have key : ∀ (m : List (List Pc)) (a : List (List UInt8) × Nat), (m.foldl (stepU g) a).2 ≤ a.2 + m.length := by
    intro m
    induction m with
    | nil => intro a; simp
    | cons s m ih =>
      intro a
      rw [List.foldl_cons]
      have h1 := ih (stepU g a s)
      have h2 : (stepU g a s).2 ≤ a.2 + 1 := by unfold stepU; split <;> simp
      simp only [List.length_cons]; omega
  have := key (l.take i) ([], 0)
  unfold foldU
  have h2 : (l.take i).length ≤ i := by rw [List.length_take]; omega
  simp only at this; omega
/-- A slice of slices of numbers, the outer one the call's own. -/
structure WaysAt (W : World) (base : Nat) (v : Value) (vs : List Value) (wl : List (List Nat)) : Prop where
  own : W.ownsRow base 30 1 v wl.length vs
  len : vs.length = wl.length
  each : ∀ (i : Nat) (u : Value) (l : List Nat), vs[i]? = some u → wl[i]? = some l → RI.Own W 0 u (l.map fun n : Nat => (n : Int))
theorem waysAt_nil (W : World) (base : Nat) : WaysAt W base (.slice none 0 0) [] [] := ⟨World.ownsRow_nil W base _ 1, rfl, fun i u l h => by simp at h⟩
theorem WaysAt.below {W W' : World} {base : Nat} {v : Value} {vs : List Value} {wl : List (List Nat)} (h : WaysAt W base v vs wl) (e : Below W.heap.size W W') : WaysAt W' base v vs wl :=
  ⟨owns_below h.own e, h.len, fun i u l hu hl => owns_below (h.each i u l hu hl) e⟩
theorem WaysAt.ext {W W' : World} {base B : Nat} {v : Value} {vs : List Value} {wl : List (List Nat)} (h : WaysAt W base v vs wl) (e : Ext B W W') : WaysAt W' base v vs wl :=
  ⟨Stab.owns B _ _ _ _ _ _ W W' h.own e, h.len, fun i u l hu hl => Stab.owns B _ _ _ _ _ _ W W' (h.each i u l hu hl) e⟩
/-- Where the blocks of numbers and of slices stay. -/
theorem WaysAt.move {W W' : World} {base : Nat} {v : Value} {vs : List Value} {wl : List (List Nat)} (h : WaysAt W base v vs wl) (e : ∀ (k : Nat) (cs : Array Value) (T : TypeId), (T = 3 ∨ T = 30) → W.heap[k]? = some (.cells cs T (0, 0)) → W'.heap[k]? = W.heap[k]?) : WaysAt W' base v vs wl :=
  ⟨owns_move h.own fun k hk => by obtain ⟨_, _, cs, hc⟩ := owns_lt h.own hk; exact e k cs _ (.inr rfl) hc, h.len, fun i u l hu hl => owns_move (h.each i u l hu hl) fun k hk => by
    obtain ⟨_, _, cs, hc⟩ := owns_lt (h.each i u l hu hl) hk
    exact e k cs _ (.inl rfl) hc⟩
theorem WaysAt.snoc {W W' : World} {base : Nat} {v v' u : Value} {vs : List Value} {wl : List (List Nat)} {l : List Nat} (h : WaysAt W base v vs wl) (hg : W.grownBy W' v.ownBlock) (ho : W'.ownsRow base 30 1 v' (wl.length + 1) (vs ++ [u])) (hu : RI.Own W 0 u (l.map fun n : Nat => (n : Int))) :
    WaysAt W' base v' (vs ++ [u]) (wl ++ [l]) := by
  have hmv : ∀ (x : Value) (m : List Nat), RI.Own W 0 x (m.map fun n : Nat => (n : Int)) → RI.Own W' 0 x (m.map fun n : Nat => (n : Int)) := fun x m hx => by
    refine owns_move hx fun k hk => ?_
    obtain ⟨_, hkl, cur, hc⟩ := owns_lt hx hk
    refine hg.block k hkl fun e => ?_
    obtain ⟨_, _, cur2, hc2⟩ := owns_lt h.own e.symm
    rw [hc] at hc2
    simp only [Option.some.injEq, Obj.cells.injEq] at hc2
    exact absurd hc2.2.1 (by decide)
  refine ⟨by rw [List.length_append]; exact ho, by simp [h.len], fun i x m hx hm => ?_⟩
  rcases snoc_get hx with hx1 | ⟨hi, rfl⟩
  · rcases snoc_get hm with hm1 | ⟨hj, rfl⟩
    · exact hmv _ _ (h.each i x m hx1 hm1)
    · have := (List.getElem?_eq_some_iff.1 hx1).1
      have := h.len
      omega
  · rcases snoc_get hm with hm1 | ⟨_, rfl⟩
    · have := (List.getElem?_eq_some_iff.1 hm1).1
      have := h.len
      omega
    · exact hmv _ _ hu
theorem WaysAt.slice {W : World} {base : Nat} {v : Value} {vs : List Value} {wl : List (List Nat)} (h : WaysAt W base v vs wl) : ∃ p c, v = .slice p wl.length c := own_slice h.own |> fun ⟨p, c, e⟩ => ⟨p, c, e⟩
/-- What holds between two rounds of the range over the symmetries. -/
def ctR (w4 : World) (wl : List (List Nat)) (b k : Nat) (W : World) : Prop :=
  ∃ (v : Value) (vs : List Value), Below w4.heap.size w4 W ∧ Boxed W w4.heap.size 99 v ∧ WaysAt W (w4.heap.size + 1) v vs (wl.take k) ∧ v.ownBlock ≠ some b
theorem ctR_stab {w4 : World} {B : Nat} (h : w4.heap.size ≤ B) (wl : List (List Nat)) (b k : Nat) : Stab B (ctR w4 wl b k) := by
  rintro W W' ⟨v, vs, h1, h2, h3, h4⟩ e
  exact ⟨v, vs, Stab.below (B := B) h (Nat.le_refl _) W W' h1 e, Stab.boxed B _ _ _ W W' h2 e, h3.ext e, h4⟩
theorem ctR_step {w4 W2 w10 : World} {wl : List (List Nat)} {k b B : Nat} {v v' u : Value} {vs : List Value} {way : List Nat} {o O : Obj} (hb : Below w4.heap.size w4 W2) (hbx : Boxed W2 w4.heap.size 99 v) (hws : WaysAt W2 (w4.heap.size + 1) v vs (wl.take k)) (hvb : v.ownBlock ≠ some b)
    (hu : RI.Own W2 0 u (way.map fun n : Nat => (n : Int))) (hway : wl[k]? = some way) (hob : W2.heap[b]? = some o) (hbb : w4.heap.size < b)
    (ho : w10.ownsRow (w4.heap.size + 1) 30 1 v' ((wl.take k).length + 1) (vs ++ [u])) (hg : (W2.alloc O).grownBy w10 v.ownBlock) (hat : v'.ownBlock = v.ownBlock ∨ v'.ownBlock = some (W2.alloc O).heap.size) :
    KeepsFrom B W2 (w10.setCell ⟨w4.heap.size, 0, none⟩ v') ∧ ctR w4 wl b (k + 1) (w10.setCell ⟨w4.heap.size, 0, none⟩ v') ∧ (w10.setCell ⟨w4.heap.size, 0, none⟩ v').heap[b]? = some o := by
  have hal : Below W2.heap.size W2 (W2.alloc O) := (Below.refl _ W2).alloc (Nat.le_refl _) _
  have hws' := (hws.below hal).snoc hg ho (owns_below hu hal)
  have hown : ∀ c, v.ownBlock = some c → w4.heap.size + 1 ≤ c ∧ c < W2.heap.size := fun c hc => ⟨(owns_lt hws.own hc).1, (owns_lt hws.own hc).2.1⟩
  have hcl := hbx.lt
  have hbl := (Array.getElem?_eq_some_iff.1 hob).1
  have hsz : (W2.alloc O).heap.size = W2.heap.size + 1 := World.size_alloc _ _
  have hb10 : Boxed w10 w4.heap.size 99 v := (hg.block _ (by omega) fun e => by have := (hown _ e.symm).1; omega).trans (heapO O hbx)
  refine ⟨?_, ⟨v', vs ++ [u], ?_, Boxed.set _ hb10, ?_, ?_⟩, ?_⟩
  · have k1 : KeepsFrom B W2 (W2.alloc O) := ⟨by omega, fun k o' _ hk _ => heapO O hk⟩
    have k2 : KeepsFrom B (W2.alloc O) w10 := keeps_grown hg (fun c hc => by
      obtain ⟨_, _, cs, h1⟩ := owns_lt (hws.below hal).own hc
      exact ⟨_, _, _, h1⟩)
    have k3 : KeepsFrom B w10 (w10.setCell ⟨w4.heap.size, 0, none⟩ v') := ⟨by simp, fun k o' _ hk ho' => by
      by_cases e : k = w4.heap.size
      · subst e; rw [show w10.heap[w4.heap.size]? = _ from hb10] at hk; cases hk; cases ho'
      · exact (heap_setCell_other w10 _ _ v' e).trans hk⟩
    exact (k1.trans k2).trans k3
  · exact ((hb.alloc hb.size O).grown hg (by have := hb.size; omega) fun c hc => by have := (hown c hc).1; omega).setCell (Nat.le_refl _) _
  · rw [take_snoc6 hway]
    refine hws'.move fun c cs T hT hc => heap_setCell_other _ _ _ _ fun e => ?_
    simp only at e
    subst e
    rw [show w10.heap[w4.heap.size]? = _ from hb10] at hc
    simp only [Option.some.injEq, Obj.cells.injEq] at hc
    rcases hT with rfl | rfl
    · exact absurd hc.2.1 (by decide)
    · exact absurd hc.2.1 (by decide)
  · rcases hat with e | e
    · rw [e]; exact hvb
    · rw [e, hsz]
      intro e'
      simp only [Option.some.injEq] at e'
      omega
  · exact (heap_setCell_other w10 _ _ v' (by simp only; omega)).trans ((hg.block b (by omega) fun e => hvb e.symm).trans (heapO O hob))
/-- What holds in the loops of Count. -/
structure CtI (w4 : World) (mb D : Nat) (v : Value) (vs : List Value) (wl : List (List Nat)) (S : List (List UInt8)) (W : World) : Prop where
  below : Below w4.heap.size w4 W
  box : Boxed W w4.heap.size 99 v
  ways : WaysAt W (w4.heap.size + 1) v vs wl
  map : HasM txtV W mb (setM S)
  defr : W.heap[D]? = some (.deferred (some []))
theorem CtI.keep {w4 W W' : World} {mb D : Nat} {v : Value} {vs : List Value} {wl : List (List Nat)} {S : List (List UInt8)} (h : CtI w4 mb D v vs wl S W) (e : Below W.heap.size W W') : CtI w4 mb D v vs wl S W' :=
  ⟨h.below.trans (e.mono h.below.size), (e.block _ h.box.lt).trans h.box, h.ways.below e, h.map.below e, (e.block _ (Array.getElem?_eq_some_iff.1 h.defr).1).trans h.defr⟩
theorem CtI.put {w4 W : World} {mb D : Nat} {v : Value} {vs : List Value} {wl : List (List Nat)} {S : List (List UInt8)} (h : CtI w4 mb D v vs wl S W) (hmb : w4.heap.size + 1 ≤ mb) (S' : List (List UInt8)) : CtI w4 mb D v vs wl S' (putM txtV W mb (setM S')) := by
  have hm := h.map
  unfold HasM at hm
  refine ⟨h.below.trans (putM_below W (by omega) _), (putM_other W (by omega) _).trans h.box, h.ways.move fun k cs T _ hc => putM_other W (fun e => ?_) _, HasM.put h.map.lt _, (putM_other W (fun e => ?_) _).trans h.defr⟩
  · subst e; rw [hm] at hc; cases hc
  · subst e; have := h.defr; rw [hm] at this; cases this
end Go.Proofs.YtiinlplgloaanaaGreatDoor

/- Chapter 7 in the heap: Count, of a task without fixed pieces and without joints below. -/
namespace Go.Proofs.YtiinlplgloaanaaGreatDoor
set_option linter.all false
set_option linter.unusedSimpArgs false
set_option linter.unusedVariables false
open Go.RowKit
attribute [local go_sem] Oper.semAt_some

theorem symm_call {a : Act} {tp : Tmp} {bb : Nat} (h : a.eval (.tmp tp) = .func (.func 39) #[.pointer (some ⟨bb, 0, none⟩)] #[]) (l : Nat) (W : World) :
    ∃ d, (resolve a.eval (rangeCall (.tmp tp) l) 0).run Tryz.prog W = .ok d W ∧ (invoke d.target d.args).run Tryz.prog W = .ok (.enter 39 #[.pointer (some ⟨bb, 0, none⟩), .func (.yield l) #[] #[]]) W := by
  refine ⟨{ target := .fn (.func 39) #[], args := #[.pointer (some ⟨bb, 0, none⟩), .func (.yield l) #[] #[]] }, ?_, ?_⟩
  · simp only [resolve, h]
    simp [go_sem]
  · simp [invoke, go_sem]
theorem infoII : (Tryz.prog.info? 30).map (fun i => (i.zero, i.size, i.bytes)) = some (some (.slice none 0 0), 1, 24) := by kernel_rfl
def CountPost (t : Tk) (w : World) (e : Ending) (w' : World) : Prop := ∃ all unlike nodes code : Nat, e = .returned (.tuple #[.int .i64 all, .int .i64 unlike, .int .i64 nodes, .int .i64 code]) ∧ Below w.heap.size w w' ∧
  (OkT t → (all, unlike, nodes, code) = countT t) ∧ (¬ OkT t → all = 0 ∧ unlike = 0 ∧ nodes = 0 ∧ code = 2)
/-- What is in the heap when the tilings are found. -/
theorem tiling_kinds {t : Tk} {L : List E} (ok : TkOk t L) (ho : OkT t) {T : List Pc} (h : T ∈ (tilingsT t).1) (hr : ∀ s, rootT t = some s → GoodT t s) : ∀ p ∈ T, 0 ≤ p.ld.kind ∧ p.ld.kind < 100 := by
  unfold tilingsT at h
  split at h
  · cases h
  · rename_i s hs
    split at h
    · split at h
      · cases h
      · simp only at h
        obtain ⟨u, hu, rfl⟩ := List.mem_map.1 h
        have hg := (search_found _ (hr s hs) hu).1
        intro p hp
        have hm := hg.mem p ((sortP_perm t.ground u).mem_iff.1 hp)
        obtain ⟨h1, h2⟩ := (pieces_ok ho.kinds ho.clen).2.1 p hm
        have h3 := ho.clen
        have h4 := ho.klen.2
        omega
    · cases h

set_option maxRecDepth 100000 in
set_option maxHeartbeats 16000000 in
theorem count_task {t : Tk} (hbel : t.below = []) (hfx : t.fixed = []) (w : World) (vg vk vc vf : Value) (hg : HasQ w vg t.ground) (hk : HasQQ w vk t.kinds) (hc : RI.Has w vc t.counts) (hcf : flatV vc) (hf : RL.Has w vf t.fixed) (hcl : t.counts.length ≤ 1000) (htb : TbAt w) :
    Calls Tryz.prog 11 #[.agg #[vg, vk, vc, vf, .slice none 0 0]] w (CountPost t w) := by
  obtain ⟨gp, gc, rfl⟩ := hg.slice
  obtain ⟨kp, kc, rfl⟩ := hk.slice
  obtain ⟨cp, cc, rfl⟩ := hc.slice
  obtain ⟨fp, fc, rfl⟩ := hf.slice
  have hCK : ∀ W, Below w.heap.size w W → Calls Tryz.prog 13 #[.agg #[.slice gp t.ground.length gc, .slice kp t.kinds.length kc, .slice cp t.counts.length cc, .slice fp t.fixed.length fc, .slice none 0 0]] W (CkPost t W) :=
    fun W h => check_task hbel W _ _ _ _ (hg.below h) (hk.below h) (hc.below h) (hf.below h) hcl
  have hLY : ∀ W, Below w.heap.size w W → OkT t → Calls Tryz.prog 37 #[.agg #[.slice gp t.ground.length gc, .slice kp t.kinds.length kc, .slice cp t.counts.length cc, .slice fp t.fixed.length fc, .slice none 0 0]] W fun e w' => ∃ (bb : Nat) (bv : BV) (L : List E), e = .returned (.pointer (some ⟨bb, 0, none⟩)) ∧ W.heap.size ≤ bb ∧ BdAt w' bb bv t L (pcsT t L) (belT t L) ∧ LOk t.ground L ∧ Below W.heap.size W w' :=
    fun W h ho => board_any ho W _ _ _ _ _ (hg.below h) (hk.below h) (hc.below h) hcf (hf.below h) (by rw [hbel]; exact .inl ⟨rfl, rfl⟩)
  have hrg : ∀ s, rootT t = some s → GoodT t s := fun s hs => by rw [root_fixed_nil hfx] at hs; cases hs; exact good_nil t
  have hTI : ∀ W bb bv L, Below w.heap.size w W → OkT t → LOk t.ground L → BdAt W bb bv t L (pcsT t L) (belT t L) → Calls Tryz.prog 38 #[.pointer (some ⟨bb, 0, none⟩)] W fun e w' => ∃ v, e = .returned (.tuple #[v, .int .i64 (tilingsT t).2.1, .int .i64 (tilingsT t).2.2]) ∧ TsAt w' t.ground L W.heap.size v (tilingsT t).1 ∧ Below W.heap.size W w' :=
    fun W bb bv L h ho hl hb => tilings_any ho (tk_any ho hl) W bb bv hb (htb.below h) fun W' hb' _ => root_nil hfx W' bb bv _ _ hb'
  have HCK := Lib.hid hCK; clear hCK
  have HLY := Lib.hid hLY; clear hLY
  have HRG := Lib.hid hrg; clear hrg
  have HTI := Lib.hid hTI; clear hTI hg hk hc hf htb hcf
  generalize hpo : CountPost t w = Po
  have HPO := Lib.hid hpo; clear hpo
  have HFX := Lib.hid hfx; clear hfx
  have HBEL := Lib.hid hbel; clear hbel
  have hmm := @run_makeMap Tryz.prog
  refine calls_of_rf Tryz.func11 rfl ?_
  simp only [Tryz.ntmps11, List.size_toArray, List.length_cons, List.length_nil, Nat.reduceAdd, Nat.reduceSub, Array.replicate_succ, Array.replicate_zero, List.push_toArray, List.append_toArray, List.nil_append, List.cons_append]
  gi_wp2_with fail
  have hT := World.alloc_heap_new w (.cells #[.slice gp t.ground.length gc, .slice kp t.kinds.length kc, .slice cp t.counts.length cc, .slice fp t.fixed.length fc, .slice none 0 0] 34)
  have hB : Below w.heap.size w (w.alloc (.cells #[.slice gp t.ground.length gc, .slice kp t.kinds.length kc, .slice cp t.counts.length cc, .slice fp t.fixed.length fc, .slice none 0 0] 34)) := (Below.refl _ w).alloc (Nat.le_refl _) _
  revert hT hB
  generalize w.alloc (.cells #[.slice gp t.ground.length gc, .slice kp t.kinds.length kc, .slice cp t.counts.length cc, .slice fp t.fixed.length fc, .slice none 0 0] 34) = w1
  intro hT hB
  have HB := Lib.hid hB; clear hB
  have htl := (Array.getElem?_eq_some_iff.1 hT).1
  refine callsIn_FW.2 ((HCK.out w1 HB.out).mono ?_)
  rintro e w2 ⟨code, rfl, h0, h2, hB2⟩
  have hT2 := (hB2.block _ htl).trans hT
  have HB2 := Lib.hid (HB.out.trans (hB2.mono HB.out.size)); clear hB2 HB htl
  have hcell : ∀ j, w2.cell? ⟨w.heap.size, j, none⟩ = (#[.slice gp t.ground.length gc, .slice kp t.kinds.length kc, .slice cp t.counts.length cc, .slice fp t.fixed.length fc, .slice none 0 0] : Array Value)[j]? := fun j => by simp only [World.cell?, hT2]; simp
  have c0 := hcell 0
  have c1 := hcell 1
  have c2 := hcell 2
  have c3 := hcell 3
  have c4 := hcell 4
  simp at c0 c1 c2 c3 c4
  clear hcell hT HCK
  have HO := Lib.hid h0; clear h0
  rcases h2 with rfl | rfl
  · have ho := HO.out.1 rfl
    have HL := Lib.hid (HLY.out w2 HB2.out ho)
    have HA := Lib.hid fun W bb bv L h => HTI.out W bb bv L h ho
    have HOK := Lib.hid ho
    clear ho HLY HTI hT2 HO
    gi_wp2_with fail
    refine callsIn_FW.2 (HL.out.mono ?_)
    rintro e w3 ⟨bb, bv, L, rfl, hbb, hbd, hlok, hB3⟩
    have HB3 := Lib.hid (HB2.out.trans (hB3.mono HB2.out.size)); clear hB3 HL
    have HA2 := Lib.hid (HA.out w3 bb bv L HB3.out hlok hbd)
    have HBD := Lib.hid hbd
    have HLOK := Lib.hid hlok
    clear HA hbd hlok c0 c1 c2 c3 c4 hbb
    gi_wp2_with fail
    refine callsIn_FW.2 (HA2.out.mono ?_)
    rintro e w4 ⟨v, rfl, hts, hB4⟩
    have HBD4 := Lib.hid (HBD.out.keep hB4)
    have HB4 := Lib.hid (HB3.out.trans (hB4.mono HB3.out.size)); clear hB4 HA2 HBD
    have HTS := Lib.hid hts; clear hts
    by_cases hcode : (tilingsT t).2.2 = 0
    · obtain ⟨vp, vcap, rfl⟩ := HTS.out.slice
      have HTK : Hid (∀ T ∈ (tilingsT t).1, T.length ≤ 64 ∧ ∀ p ∈ T, 0 ≤ p.ld.kind ∧ p.ld.kind < 100) := Lib.hid fun T hT => ⟨tiling_len (tk_any HOK.out HLOK.out) hT HRG.out, tiling_kinds (tk_any HOK.out HLOK.out) HOK.out hT HRG.out⟩
      have hTl : (tilingsT t).1.length ≤ 20000 := (tilings_small t).1
      have HCT : Hid (countT t = ((tilingsT t).1.length, unlikeT t.ground (tilingsT t).1, (tilingsT t).2.1, 0)) := Lib.hid (by unfold countT; rw [if_pos hcode])
      rw [hcode]
      revert HTS HTK hTl HCT
      generalize (tilingsT t).1 = Ts
      generalize (tilingsT t).2.1 = nd
      intro HTS HTK hTl HCT
      have HTL := Lib.hid hTl; clear hTl hcode
      gi_wp2_with fail
      have h64 := HOK.out.g64
      have hst : Stab (w4.alloc (.cells #[.slice none 0 0] 99)).heap.size (ctR w4 (waysT t.ground) 0 0) := ctR_stab (by simp) _ _ _
      refine range_law_m (ro := none) (gf := 39) (mk := fun y => #[.pointer (some ⟨bb, 0, none⟩), y]) (n := (waysT t.ground).length) (N := fun W => BdAt W bb bv t L (pcsT t L) (belT t L)) (Xp := WyP t.ground) ?hro ?hg (symmetries_iter HOK.out.ground h64 bb bv (pcsT t L) (belT t L)) ?hps
        (fun b k W => ctR w4 (waysT t.ground) b k W) (fun _ _ => False) (fun b k => ctR_stab (by simp) _ b k) (fun _ => Stab.false _) ?h0 ?hN ?round ?done ?stop
      case hro => intro l0 h; cases h
      case hg => exact symm_call (bb := bb) rfl
      case hps => rintro k x W ⟨v, way, _, rfl, _⟩; rfl
      case h0 =>
        intro b W' hb hE
        refine ctR_stab (B := (w4.alloc (.cells #[.slice none 0 0] 99)).heap.size) (by simp) (waysT t.ground) b 0 _ _ ⟨.slice none 0 0, [], (Below.refl _ w4).alloc (Nat.le_refl _) _, World.alloc_heap_new w4 _, waysAt_nil _ _, by simp [Value.ownBlock]⟩ hE
      case hN => rintro b k W ⟨v, vs, h1, _⟩; exact HBD4.out.keep h1
      case round =>
        intro b l k x W o hkn hx hI hl hlb hl2 hob hoc
        obtain ⟨u, way, hway, rfl, hown⟩ := hx
        simp only [round_tmps1, List.setIfInBounds_toArray, List.set_cons_zero, List.set_cons_succ]
        have HI := Lib.hid hI; clear hI
        have HOW := Lib.hid hown; clear hown
        have HWA := Lib.hid hway; clear hway hst
        rw [World.size_alloc] at hl
        gi_wp2_with fail
        refine ⟨fun W' => ctR w4 (waysT t.ground) b k W' ∧ RI.Own W' 0 u (way.map fun n : Nat => (n : Int)), Stab.and (ctR_stab (by simp) _ b k) (Stab.owns _ _ _ _ _ _ _), ⟨Nat.le_refl _, fun j o' _ hk _ => hk⟩, ⟨HI.out, HOW.out⟩, hob, ?_⟩
        rintro W2 ⟨⟨v, vs, hb2, hbx2, hws2, hvb2⟩, hu2⟩ hl3 hob2
        obtain ⟨vp2, vc2, rfl⟩ := hws2.slice
        obtain ⟨up, uc, rfl⟩ := own_slice hu2
        rw [List.length_map] at hu2
        have h8 := (ways_first (checkN_ok HOK.out.ground).1.2.nodup).2.2
        have hkl : ((waysT t.ground).take k).length ≤ 8 := by rw [List.length_take]; omega
        have c1 := hbx2.cell
        have f1 := hbx2.frozen
        have HM1 : Hid (((waysT t.ground).take k).length + 1 ≤ maxLen) := Lib.hid (by simp only [maxLen]; omega)
        have HM2 : Hid ((((waysT t.ground).take k).length + 1) * 24 ≤ 140737488355328) := Lib.hid (by omega)
        have hG0 : ∀ (O : Obj) w10, (W2.alloc O).grownBy w10 (Value.slice vp2 ((waysT t.ground).take k).length vc2).ownBlock → Boxed w10 w4.heap.size 99 (.slice vp2 ((waysT t.ground).take k).length vc2) := fun O w10 hg =>
          (hg.block _ (by have := hbx2.lt; rw [World.size_alloc]; omega) fun e => by have := (owns_lt hws2.own e.symm).1; omega).trans (heapO O hbx2)
        have HG0 := Lib.hid hG0; clear hG0
        have HF2 := Lib.hid (And.intro hb2 (And.intro hbx2 (And.intro hws2 (And.intro hvb2 (And.intro hu2 hob2))))); clear hb2 hbx2 hws2 hvb2 hu2 hob2 hob
        obtain ⟨iI, hiI, hzI, hsI, hbI⟩ := info_parts infoII
        have hbs : w4.heap.size + 1 ≤ W2.heap.size := by have := HF2.out.2.1.lt; omega
        obtain ⟨n2, hn2⟩ : ∃ n2, ((waysT t.ground).take k).length = n2 := ⟨_, rfl⟩
        have HN2 := Lib.hid hn2
        rw [hn2] at c1 HM1 HM2 HG0
        clear hn2 hkl h8
        have HOWN2 : Hid (W2.ownsRow (w4.heap.size + 1) 30 1 (.slice vp2 n2 vc2) n2 vs) := Lib.hid (by have := HF2.out.2.2.1.own; rw [HN2.out] at this; exact this)
        gi_wp2_with (first
          | (gi_at_builtin; (refine wpListIn_append_own_at (P := Tryz.prog) _ rfl _ _ 99 rfl (w4.heap.size + 1) 30 iI _ 1 24 Tryz.underlying99 hiI hzI hsI hbI rfl (by decide) (.slice vp2 n2 vc2) n2 vs rfl (HOWN2.out.alloc _) ⟨W2.heap.size, 0, none⟩ 1 1 [.slice up way.length uc] rfl rfl (cells1 _ _ _) (by simp [Value.oneCell']) HM1.out HM2.out (by rw [World.size_alloc]; omega) ?_); intro v' w10 hown' hgrow _ hat; obtain ⟨p', c', rfl⟩ := own_slice hown'; have hb1 := HG0.out _ _ hgrow; have c1 := hb1.cell; have f1 := hb1.frozen))
        have HFN := ctR_step (B := (w4.alloc (.cells #[.slice none 0 0] 99)).heap.size) HF2.out.1 HF2.out.2.1 HF2.out.2.2.1 HF2.out.2.2.2.1 HF2.out.2.2.2.2.1 HWA.out HF2.out.2.2.2.2.2 (by omega) (by rw [HN2.out]; exact hown') (by rw [HN2.out]; exact hgrow) (by rw [HN2.out]; exact hat)
        exact HFN
      case done =>
        intro b ds W hM ⟨v, vs, hb2, hbx2, hws2, _⟩
        rw [List.take_length] at hws2
        obtain ⟨D, hD, rfl, hK⟩ := hM
        rw [World.size_alloc] at hD
        obtain ⟨vp2, vc2, rfl⟩ := hws2.slice
        have h8 := ways_first (checkN_ok HOK.out.ground).1.2.nodup
        have hn0 : 0 < (waysT t.ground).length := List.length_pos_of_mem h8.2.1
        obtain ⟨gw, rfl⟩ : ∃ gw, vp2 = some ⟨gw, 0, none⟩ := by
          rcases hws2.own.2 with ⟨h, h0⟩ | ⟨g, cap, cur, h, _⟩
          · rw [h0] at hn0; exact absurd hn0 (by decide)
          · simp only [Value.slice.injEq] at h; exact ⟨g, h.1⟩
        have hal : Below W.heap.size W (W.alloc (.map #[] 0)) := (Below.refl _ W).alloc (Nat.le_refl _) _
        have hci : CtI w4 W.heap.size D (.slice (some ⟨gw, 0, none⟩) (waysT t.ground).length vc2) vs (waysT t.ground) [] (W.alloc (.map #[] 0)) := ⟨hb2.trans (hal.mono hb2.size), heapO _ hbx2, hws2.below hal, HasM.made W txtV, heapO _ hK⟩
        have hmb : w4.heap.size + 1 ≤ W.heap.size := by have := hbx2.lt; omega
        have HCI := Lib.hid hci; clear hci
        clear hb2 hbx2 hws2 hal hst
        gi_wp2_with fail
        revert HCI hmb
        generalize W.alloc (.map #[] 0) = W5
        generalize W.heap.size = mb
        intro hmb HCI
        clear hK hmm
        have HWY : Hid (∀ tw ∈ waysT t.ground, tw.length = t.ground.length ∧ ∀ x ∈ tw, x < 64) := Lib.hid fun tw htw => ⟨(ways_ok htw).1, fun x hx => Nat.lt_of_lt_of_le ((ways_ok htw).2 x hx) h64⟩
        obtain ⟨WS, hWS⟩ : ∃ WS, waysT t.ground = WS := ⟨_, rfl⟩
        have HWS := Lib.hid hWS
        have hsu : stepU t.ground = fun a s => if keyT t.ground (List.range t.ground.length) s ∈ a.1 then a else (a.1 ++ WS.map fun tw => keyT t.ground tw s, a.2 + 1) := by
          funext a s; unfold stepU; rw [h8.1, hWS]
        have HSU := Lib.hid hsu; clear hsu
        have HR0 : Hid (WS[0]? = some (List.range t.ground.length)) := Lib.hid (by
          have h1 := h8.1
          rw [hWS] at h1 hn0
          cases WS with
          | nil => simp at hn0
          | cons x l => simp only [List.headD_cons] at h1; rw [← h1]; rfl)
        have hw8 : WS.length ≤ 8 := by rw [← hWS]; exact h8.2.2
        rw [hWS] at HCI HWY hn0
        clear h8 hWS HRG
        obtain ⟨Ss, hs1, hs2, hs3⟩ := HTS.out
        have HTSm : Hid (∀ W', Below w4.heap.size w4 W' → RS.Own W' w3.heap.size (.slice vp Ts.length vcap) Ss ∧ ∀ (i : Nat) (S : HS) (T : List Pc), Ss[i]? = some S → Ts[i]? = some T → RP.Own W' w3.heap.size S.laid (T.map (hpT t.ground L))) := Lib.hid fun W' h => ⟨owns_below hs1 h, fun i S T h1 h2 => owns_below (hs3 i S T h1 h2).2 h⟩
        clear hs1 hs3 HTS
        simp only [List.append_nil]
        have hTl := HTL.out
        gi_loopw [3, 42] (fun u z wr => ∃ (i : Nat) (S : List (List UInt8)), i ≤ Ts.length ∧ z = .int .i64 i ∧ u = .int .i64 ((foldU t.ground Ts i).2 : Nat) ∧ Hid (CtI w4 mb D (.slice (some ⟨gw, 0, none⟩) WS.length vc2) vs WS S wr ∧ S.Nodup ∧ (∀ x, x ∈ S ↔ x ∈ (foldU t.ground Ts i).1) ∧ ∀ x ∈ S, okTx x)) (fun _ z _ => Ts.length - (intOf z).toNat)
        case atStart => exact ⟨0, [], Nat.zero_le _, rfl, rfl, Lib.hid ⟨HCI.out, List.nodup_nil, fun x => by simp [foldU_zero], fun x hx => by simp at hx⟩⟩
        case round =>
          obtain ⟨i, S, hi, rfl, rfl, HR⟩ := hrel
          by_cases hlt : i < Ts.length
          · obtain ⟨T, hT⟩ : ∃ T, Ts[i]? = some T := ⟨_, List.getElem?_eq_getElem hlt⟩
            obtain ⟨hs1, hs3⟩ := HTSm.out wr HR.out.1.below
            obtain ⟨ST, hST⟩ : ∃ ST, Ss[i]? = some ST := ⟨_, List.getElem?_eq_getElem (by omega)⟩
            have HOWT : Hid (∀ W', Below w4.heap.size w4 W' → RP.Has W' ST.laid (T.map (hpT t.ground L))) := Lib.hid fun W' h => REnc.Own.has ((HTSm.out W' h).2 i ST T hST hT)
            obtain ⟨xa, rfl, hat⟩ := (REnc.Own.has (R := RS) hs1).at_ (by rintro e; rw [e] at hST; simp at hST)
            have hld : (Instr.loadAt 108 (.pointer (some (xa.add (i * 16))))).run Tryz.prog wr = .ok (.agg (hsVals ST).toArray) wr := run_load_elem (P := Tryz.prog) (R := RS) Tryz.underlying108 rfl sizeS hat hST
            have hsz : (Tryz.prog.info? 108).map (·.size) = some (hsVals ST).toArray.size := sizeS
            have hone : (hsVals ST).toArray.all (·.oneCell') = true := by simp [hsVals, Value.oneCell']
            have HFS := Lib.hid (foldU_step (g := t.ground) hT)
            have HTT := Lib.hid (HTK.out T (List.mem_of_getElem? hT)); clear hT
            clear hs1 hs3 hST hat
            gi_upto_region 16 with (first
              | (refine wpListIn_load_is rfl 108 _ rfl rfl hld ?_)
              | (refine wpListIn_store_row rfl 108 _ _ rfl wr.heap.size rfl 108 _ (hsVals ST).toArray rfl (World.alloc_heap_new wr _) hsz rfl hone ?_; rw [World.setRow_alloc_new]))
            simp only [Act.put]
            have hSB := World.alloc_heap_new wr (.cells (hsVals ST).toArray 108)
            have hBa : Below wr.heap.size wr (wr.alloc (.cells (hsVals ST).toArray 108)) := (Below.refl _ wr).alloc (Nat.le_refl _) _
            have hct := HR.out.1.keep hBa
            clear hld
            revert hSB hct
            clear hBa
            generalize wr.alloc (.cells (hsVals ST).toArray 108) = w6
            generalize wr.heap.size = sb
            intro hSB hct
            have hlen := hct.ways.len
            obtain ⟨u0, hu0⟩ : ∃ u0, vs[0]? = some u0 := ⟨_, List.getElem?_eq_getElem (by omega)⟩
            have hway0 := hct.ways.each 0 u0 _ hu0 HR0.out
            have hkey : ∀ d : SubW w6, Calls Tryz.prog 40 #[.agg (hsVals ST).toArray, u0] d.1 fun e w' => e = .returned (.string ⟨(keyT t.ground (List.range t.ground.length) T).toArray⟩) ∧ ∃ d' : SubW w6, w' = d'.1 := fun d => by
              obtain ⟨hl0, hx0⟩ := HWY.out _ (List.mem_of_getElem? HR0.out)
              refine (key_any (L := L) h64 HTT.out.1 HTT.out.2 hl0 hx0 ST d.1 (HOWT.out d.1 (hct.keep d.2).below) u0 (REnc.Own.has (R := RI) (owns_below hway0 d.2))).mono ?_
              rintro e w' ⟨rfl, hb'⟩
              exact ⟨rfl, ⟨w', d.2.trans (hb'.mono d.2.size)⟩, rfl⟩
            have HKEY := Lib.hid hkey; clear hkey
            have d1 : ∀ d : SubW w6, (Instr.loadAt 108 (.pointer (some ⟨sb, 0, none⟩))).run Tryz.prog d.1 = .ok (.agg (hsVals ST).toArray) d.1 := fun d => by
              have := run_loadVar_row (P := Tryz.prog) d.1 sb 108 108 (hsVals ST).toArray (0, 0) _ (d.block hSB) Tryz.underlying108 rfl hsz
              simp only [Instr.loadAt, Instr.sureAddr, Sem.run_bind, Sem.run_pure, Result.andThen_ok, this]
            have d2 : ∀ d : SubW w6, d.1.cell? ⟨w4.heap.size, 0, none⟩ = some (.slice (some ⟨gw, 0, none⟩) WS.length vc2) := fun d => Boxed.cell (t := 99) (d.block hct.box)
            have d3 : ∀ d : SubW w6, d.1.cell? ⟨gw, 0, none⟩ = some u0 := fun d => by
              rw [(owns_below hct.ways.own d.2).cellAt 0 (by omega), hu0]
            have HCTI := Lib.hid hct; clear hct
            have HSB := Lib.hid hSB; clear hSB
            have hok : ∀ p ∈ setM S, okTx p.1 := fun p hp => HR.out.2.2.2 p.1 (mem_setM.1 hp).1
            have HOKS := Lib.hid hok; clear hok
            have hokk := keyT_ok t.ground (List.range t.ground.length) HTT.out.1
            by_cases hin : keyT t.ground (List.range t.ground.length) T ∈ (foldU t.ground Ts i).1
            · have d4 : ∀ d : SubW w6, (Instr.lookup 101 (.map (some mb)) (.string ⟨(keyT t.ground (List.range t.ground.length) T).toArray⟩) false).run Tryz.prog d.1 = .ok (.bool true) d.1 := fun d =>
                run_lookup_hit encS Tryz.underlying101 (HCTI.out.map.below d.2) HOKS.out (by rw [setM_keys]; exact HR.out.2.1) (mem_setM.2 ⟨(HR.out.2.2.1 _).2 hin, rfl⟩) false
              have HFE : Hid (foldU t.ground Ts (i + 1) = foldU t.ground Ts i) := Lib.hid (by rw [HFS.out, HSU.out]; exact if_pos hin)
              clear hin
              refine wpIn_region_qb 7 (by kernel_rfl) (by kernel_rfl) (by kernel_rfl) ?_
              simp only [List.take_succ_cons, List.take_zero, List.drop_succ_cons, List.drop_zero]
              repeat (first | ((refine wpQuiet_load_is rfl 108 _ rfl rfl (by rintro w ⟨d, rfl⟩; exact d1 d) ?_; simp only [Act.put, List.setIfInBounds_toArray, List.set_cons_zero, List.set_cons_succ])) | go_big_quiet_step ((exact HKEY.out _)))
              refine wpQuiet_nil ?_
              intro dq
              have hct7 := HCTI.out.keep dq.2
              clear d1 d2 d3 d4
              revert hct7
              generalize dq.1 = w7
              intro hct7
              have HC7 := Lib.hid hct7; clear hct7
              gi_wp2_with fail
              go_roundw
              case rel => exact ⟨i + 1, S, by omega, by go_num, by rw [HFE.out], Lib.hid ⟨HC7.out, HR.out.2.1, by rw [HFE.out]; exact HR.out.2.2.1, HR.out.2.2.2⟩⟩
              case measure => simp only [intOf]; omega
            · have d4 : ∀ d : SubW w6, (Instr.lookup 101 (.map (some mb)) (.string ⟨(keyT t.ground (List.range t.ground.length) T).toArray⟩) false).run Tryz.prog d.1 = .ok (.bool false) d.1 := fun d =>
                run_lookup_miss encS Tryz.underlying101 (Tryz.zeroValue4 _) (HCTI.out.map.below d.2) HOKS.out hokk (fun p hp e => hin ((HR.out.2.2.1 _).1 (e ▸ (mem_setM.1 hp).1))) false
              have HFE : Hid (foldU t.ground Ts (i + 1) = ((foldU t.ground Ts i).1 ++ WS.map fun tw => keyT t.ground tw T, (foldU t.ground Ts i).2 + 1)) := Lib.hid (by rw [HFS.out, HSU.out]; exact if_neg hin)
              clear hin
              refine wpIn_region_qb 7 (by kernel_rfl) (by kernel_rfl) (by kernel_rfl) ?_
              simp only [List.take_succ_cons, List.take_zero, List.drop_succ_cons, List.drop_zero]
              repeat (first | ((refine wpQuiet_load_is rfl 108 _ rfl rfl (by rintro w ⟨d, rfl⟩; exact d1 d) ?_; simp only [Act.put, List.setIfInBounds_toArray, List.set_cons_zero, List.set_cons_succ])) | go_big_quiet_step ((exact HKEY.out _)))
              refine wpQuiet_nil ?_
              intro dq
              have hct7 := HCTI.out.keep dq.2
              have hSB7 := dq.block HSB.out
              clear d1 d2 d3 d4
              revert hct7 hSB7
              generalize dq.1 = w7
              intro hct7 hSB7
              have hul := foldU_le t.ground Ts i
              obtain ⟨un, hun⟩ : ∃ un, (foldU t.ground Ts i).2 = un := ⟨_, rfl⟩
              obtain ⟨FA, hFA⟩ : ∃ FA, (foldU t.ground Ts i).1 = FA := ⟨_, rfl⟩
              rw [hun] at hul HFE ⊢
              rw [hFA] at HFE HR
              have hun2 : un ≤ 20000 := by have := HTL.out; omega
              have c9 := hct7.box.cell
              have HC7 := Lib.hid hct7; clear hct7
              have HSB7 := Lib.hid hSB7; clear hSB7 hun hFA
              gi_wp2_with fail
              clear c9
              gi_loopw [57] (fun z wq => ∃ (j : Nat) (S' : List (List UInt8)), j ≤ WS.length ∧ z = .int .i64 j ∧ Hid (CtI w4 mb D (.slice (some ⟨gw, 0, none⟩) WS.length vc2) vs WS S' wq ∧ S'.Nodup ∧ (∀ x, x ∈ S' ↔ x ∈ FA ∨ x ∈ (WS.take j).map fun tw => keyT t.ground tw T) ∧ (∀ x ∈ S', okTx x) ∧ wq.heap[sb]? = some (.cells (hsVals ST).toArray 108 (0, 0)))) (fun z _ => WS.length - (intOf z).toNat)
              case atStart => exact ⟨0, S, Nat.zero_le _, rfl, Lib.hid ⟨HC7.out, HR.out.2.1, fun x => by rw [HR.out.2.2.1]; simp, HR.out.2.2.2, HSB7.out⟩⟩
              case round =>
                obtain ⟨j, S', hj, rfl, HR2⟩ := hrel
                by_cases hjl : j < WS.length
                · obtain ⟨tw, htw⟩ : ∃ tw, WS[j]? = some tw := ⟨_, List.getElem?_eq_getElem hjl⟩
                  obtain ⟨uj, huj⟩ : ∃ uj, vs[j]? = some uj := ⟨_, List.getElem?_eq_getElem (by omega)⟩
                  have c0 : wr.cell? ⟨gw, j, none⟩ = some uj := by rw [HR2.out.1.ways.own.cellAt j (by omega), huj]
                  have hwj := HR2.out.1.ways.each j uj tw huj htw
                  obtain ⟨hl0, hx0⟩ := HWY.out _ (List.mem_of_getElem? htw)
                  have HKJ := Lib.hid (key_any (L := L) h64 HTT.out.1 HTT.out.2 hl0 hx0 ST wr (HOWT.out wr HR2.out.1.below) uj (REnc.Own.has (R := RI) hwj))
                  have HTW2 := Lib.hid htw
                  have hld2 : (Instr.loadAt 108 (.pointer (some ⟨sb, 0, none⟩))).run Tryz.prog wr = .ok (.agg (hsVals ST).toArray) wr := by
                    have := run_loadVar_row (P := Tryz.prog) wr sb 108 108 (hsVals ST).toArray (0, 0) _ HR2.out.2.2.2.2 Tryz.underlying108 rfl hsz
                    simp only [Instr.loadAt, Instr.sureAddr, Sem.run_bind, Sem.run_pure, Result.andThen_ok, this]
                  clear hwj htw huj hl0 hx0
                  gi_wp2_with (refine wpListIn_load_is rfl 108 _ rfl rfl hld2 ?_)
                  refine callsIn_FW.2 (HKJ.out.mono ?_)
                  rintro e w8 ⟨rfl, hb8⟩
                  have hct8 := HR2.out.1.keep hb8
                  have hsb8 := (hb8.block _ (Array.getElem?_eq_some_iff.1 HR2.out.2.2.2.2).1).trans HR2.out.2.2.2.2
                  have hokj := keyT_ok t.ground tw HTT.out.1
                  obtain ⟨S2, hup, hn2, hm2⟩ := run_update_set encS Tryz.underlying101 hct8.map HR2.out.2.2.2.1 HR2.out.2.1 hokj
                  have hup' : (Instr.mapUpdate 101 (.map (some mb)) (.string ⟨(keyT t.ground tw T).toArray⟩) (.bool true)).run Tryz.prog w8 = .ok () (putM txtV w8 mb (setM S2)) := hup
                  have hne : sb ≠ mb := fun e => by
                    have h1 := hct8.map
                    unfold HasM at h1
                    rw [← e, hsb8] at h1; cases h1
                  have HFN : Hid (CtI w4 mb D (.slice (some ⟨gw, 0, none⟩) WS.length vc2) vs WS S2 (putM txtV w8 mb (setM S2)) ∧ S2.Nodup ∧ (∀ x, x ∈ S2 ↔ x ∈ FA ∨ x ∈ (WS.take (j + 1)).map fun tw => keyT t.ground tw T) ∧ (∀ x ∈ S2, okTx x) ∧ (putM txtV w8 mb (setM S2)).heap[sb]? = some (.cells (hsVals ST).toArray 108 (0, 0))) := Lib.hid (by
                    refine ⟨hct8.put hmb S2, hn2, fun x => ?_, fun x hx => ?_, (putM_other w8 hne _).trans hsb8⟩
                    · rw [hm2, HR2.out.2.2.1, take_snoc6 HTW2.out, List.map_append, List.mem_append, or_assoc]; simp
                    · rcases (hm2 x).1 hx with h | rfl
                      · exact HR2.out.2.2.2.1 x h
                      · exact hokj)
                  clear hup hn2 hm2 hct8 hsb8 hb8 c0 hld2
                  gi_wp2_with fail
                  go_roundw
                  case rel => exact ⟨j + 1, S2, by omega, by go_num, HFN⟩
                  case measure => simp only [intOf]; omega
                · obtain rfl : j = WS.length := by omega
                  gi_wp2_with fail
                  go_roundw
                  case rel =>
                    refine ⟨i + 1, S', by omega, by go_num, by rw [HFE.out]; go_num, Lib.hid ⟨HR2.out.1, HR2.out.2.1, fun x => ?_, HR2.out.2.2.2.1⟩⟩
                    rw [HFE.out, HR2.out.2.2.1, List.take_length, List.mem_append]
                  case measure => simp only [intOf]; omega
          · obtain rfl : i = Ts.length := by omega
            have hul := foldU_all t.ground Ts
            rw [hul]
            have hK2 := HR.out.1.defr
            gi_wp2_with fail
            refine ⟨[D], rfl, by simp, by simpa using hK2, fun w' tk => ⟨.tuple #[.int .i64 Ts.length, .int .i64 (unlikeT t.ground Ts : Nat), .int .i64 nd, .int .i64 0], by simp [results, Tryz.results11, go_sem], ?_⟩⟩
            rw [← HPO.out]
            have hbw : Below w.heap.size w wr := HB4.out.trans (HR.out.1.below.mono HB4.out.size)
            have hws := HB4.out.size
            exact ⟨Ts.length, unlikeT t.ground Ts, nd, 0, rfl, hbw.trans (tk.below (by simp; omega)), fun _ => HCT.out.symm, fun h => absurd HOK.out h⟩
      case stop =>
        rintro ds c W _ h
        exact h.elim
    · have hne : (((tilingsT t).2.2 : Int) != 0) = true := by simpa using hcode
      have HCODE := Lib.hid hcode; clear hcode
      gi_wp2_with fail
      refine ⟨[], rfl, List.nodup_nil, fun D hD => (by cases hD), fun w' tk => ⟨.tuple #[.int .i64 0, .int .i64 0, .int .i64 0, .int .i64 (tilingsT t).2.2], by simp [results, Tryz.results11, go_sem], ?_⟩⟩
      rw [← HPO.out]
      exact ⟨0, 0, 0, (tilingsT t).2.2, rfl, HB4.out.trans (tk.below (by simp)), fun _ => by unfold countT; rw [if_neg HCODE.out], fun h => absurd HOK.out h⟩
  · have HN : Hid (¬ OkT t) := Lib.hid fun h => absurd (HO.out.2 h) (by decide)
    clear HLY HTI hT2 HO
    gi_wp2_with fail
    refine ⟨[], rfl, List.nodup_nil, fun D hD => (by cases hD), fun w' tk => ⟨.tuple #[.int .i64 0, .int .i64 0, .int .i64 0, .int .i64 2], by simp [results, Tryz.results11, go_sem], ?_⟩⟩
    rw [← HPO.out]
    exact ⟨0, 0, 0, 2, rfl, HB2.out.trans (tk.below (by simp)), fun h => absurd h HN.out, fun _ => ⟨rfl, rfl, rfl, rfl⟩⟩
end Go.Proofs.YtiinlplgloaanaaGreatDoor
