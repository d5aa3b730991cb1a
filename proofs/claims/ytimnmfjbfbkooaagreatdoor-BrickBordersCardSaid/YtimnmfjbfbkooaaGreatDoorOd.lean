/- ordered: the walk. -/
import Derived.Test.YtimnmfjbfbkooaaGreatDoorOr
namespace Go.Proofs.YtimnmfjbfbkooaaGreatDoor
set_option linter.all false
set_option linter.unusedSimpArgs false
set_option linter.unusedVariables false
open Go.RowKit
attribute [local go_sem] Oper.semAt_some

def doneOf (W : World) (r : Nat) : Nat := match W.heap[r]? with | some (.mapIter _ _ seen _) => seen.size | _ => 0
theorem HasIter.done {W : World} {r b n : Nat} {done : List Nat} (h : HasIter W r b n done) : doneOf W r = done.length := by
  unfold HasIter at h
  simp [doneOf, h]

theorem ownEd_snoc {W : World} {base : Nat} {v : Value} {es : List E} {e : E} (h : W.ownsRow base 72 3 v (es.length + 1) (eCells es ++ eVals e)) : OwnEd W base v (es ++ [e]) := by
  show W.ownsRow base _ 3 v (es ++ [e]).length (eCells (es ++ [e]))
  rw [eCells_snoc, List.length_append]; exact h
set_option maxRecDepth 100000 in
set_option maxHeartbeats 4000000 in
theorem ordered_any (b base f : Nat) (caps : Array Value) (M : List (E × List Q)) (vs : List Value) (p : List Q → Bool) (w : World) (hg : Grp w b base M vs) (hM : M.length ≤ 1000000)
    (hf : ∀ args w, (callFunc f args).run Tryz.prog w = .ok (.enter f args) w)
    (hcl : ∀ (W : World) (i : Nat) (v : Value) (m : E × List Q), Below w.heap.size w W → vs[i]? = some v → M[i]? = some m → Calls Tryz.prog f (#[v] ++ caps) W fun e W' => e = .returned (.bool (p m.2)) ∧ Below W.heap.size W W') :
    Calls Tryz.prog 62 #[.map (some b), .func (.func f) #[] caps] w fun e w' => ∃ v es, e = .returned v ∧ HasEs w' v es ∧ es.Perm ((M.filter (fun m => p m.2)).map (·.1)) ∧ es.Pairwise (fun a b => ¬ ltE b a) ∧ Below w.heap.size w w' := by
  have HCL := Lib.hid hcl; clear hcl
  have hrange := run_range_M (P := Tryz.prog) Tryz.underlying96 hg.map
  go_enter Tryz.func62, Tryz.ntmps62
  go_wp2
  clear hrange
  have hit := HasIter.start w b (zipM M vs).length
  have hal : Below w.heap.size w (w.alloc (.mapIter (some b) (zipM M vs).length #[] (zipM M vs).length)) := (Below.refl _ w).alloc (Nat.le_refl _) _
  have hg0 := hg.below hal
  have hbw : b < w.heap.size := hg.map.lt
  have HLEN := Lib.hid (zipM_length hg.len)
  have HVL := Lib.hid hg.len
  clear hg
  revert hit hg0 hal
  generalize w.alloc (.mapIter (some b) (zipM M vs).length #[] (zipM M vs).length) = W0
  intro hit hal hg0
  go_loopw [4] (fun v wr => ∃ (done : List Nat) (es : List E), Hid (HasIter wr w.heap.size b (zipM M vs).length done ∧ Grp wr b base M vs ∧ done.Nodup ∧ (∀ i ∈ done, i < M.length) ∧ OwnEd wr (w.heap.size + 1) v es ∧ es = pickE M p done ∧ Below w.heap.size w wr ∧ w.heap.size + 1 ≤ wr.heap.size)) (fun _ wr => M.length - doneOf wr w.heap.size)
  case atStart => exact ⟨[], [], Lib.hid ⟨hit, hg0, by simp, by simp, World.ownsRow_nil _ _ _ 3, rfl, hal, by have := hit.lt; omega⟩⟩
  case round =>
    obtain ⟨done, es, HR⟩ := hrel
    obtain ⟨hit, hg, hdn, hdl, hq, hes, hB, hsz⟩ := HR.out
    obtain ⟨p', c', rfl⟩ := own_slice hq
    have hdlen : done.length ≤ M.length := nodup_lt_length _ _ hdn hdl
    have hel : es.length ≤ done.length := by rw [hes]; exact pickE_length _ _ _
    have HDO := Lib.hid hit.done
    clear HR
    have HG := Lib.hid hg
    have hmap := hg.map; clear hg
    have HQ := Lib.hid hq; clear hq
    have HES := Lib.hid hes; clear hes
    have HD := Lib.hid hdn; clear hdn
    have HDL := Lib.hid hdl; clear hdl
    go_wp2_with (first
      | (at_next; refine wpList_next_M rfl _ rfl rfl hit hmap ?_ ?_)
      | go_in)
    · intro hall
      have hall' : ∀ i, i < M.length → i ∈ done := fun i hi => hall i (by rw [HLEN.out]; exact hi)
      have h1 : done.Perm (List.range M.length) := (List.perm_ext_iff_of_nodup HD.out List.nodup_range).2 (fun i => ⟨fun h => by simpa using HDL.out i h, fun h => hall' i (by simpa using h)⟩)
      have HP : Hid (es.Perm ((M.filter (fun m => p m.2)).map (·.1))) := Lib.hid (by rw [HES.out]; exact pickE_all M p h1)
      clear hall hall' h1
      by_cases he0 : es = []
      · subst he0
        have HNONE := Lib.hid (fun W => AnyF.slices_SortFunc_none { Tryz.sortE with } p' c' (.func (.func 83) #[] #[]) W)
        go_wp2_with fail
        refine Calls.mono (show Calls Tryz.prog 82 _ _ _ from HNONE.out _) ?_
        rintro e w2 ⟨rfl, rfl⟩
        go_wp2_with fail
        go_ret
        refine ⟨_, [], rfl, ?_, HP.out, by simp, hB⟩
        show HasEs w2 (.slice p' ([] : List E).length c') []
        rcases HQ.out.2 with ⟨hn, _⟩ | ⟨g, cap, cur, hn, _, h2, h3, h4, _⟩
        · exact .inl ⟨hn, rfl⟩
        · rw [hn]
          refine .inr ⟨_, cap, rfl, h3, h4, ?_, ?_, ?_, ?_⟩
          · exact (Array.getElem?_eq_some_iff.1 h2).1
          all_goals (intro i q hq; simp at hq)
      · obtain ⟨g, rfl⟩ : ∃ g, p' = some ⟨g, 0, none⟩ := by
          rcases HQ.out.2 with ⟨_, h0⟩ | ⟨g, cap, cur, hv, _⟩
          · exact absurd (List.length_eq_zero_iff.1 h0) he0
          · simp only [Value.slice.injEq] at hv; exact ⟨g, hv.1⟩
        have HS := Lib.hid (sortE_any (w.heap.size + 1) g c' es _ HQ.out hsz (by omega))
        clear he0
        go_wp2_with fail
        refine HS.out.mono ?_
        rintro e w2 ⟨rfl, es', hp', hs', hv', hlen', hB'⟩
        have hBf := hB.trans (hB'.mono (Nat.le_succ _))
        have HF : Hid (HasEs w2 (.slice (some ⟨g, 0, none⟩) es.length c') es' ∧ es'.Perm ((M.filter (fun m => p m.2)).map (·.1)) ∧ es'.Pairwise (fun a b => ¬ ltE b a)) := Lib.hid ⟨by rw [← hlen']; exact hv', hp'.trans HP.out, hs'⟩
        clear hp' hs' hv' hlen' HS
        go_wp2_with fail
        go_ret
        exact ⟨_, _, rfl, HF.out.1, HF.out.2.1, HF.out.2.2, hBf⟩
    · intro i x xv w1 hpe hnew hit1 hgr hsz1 hen
      have hi : i < M.length := by
        have := (List.getElem?_eq_some_iff.1 hpe).1
        rwa [HLEN.out] at this
      obtain ⟨m, hm, hmx, hvx⟩ := zipM_get hpe
      simp only at hmx hvx
      subst hmx
      clear hpe
      have HMI := Lib.hid hm
      have HB1 : Below w.heap.size w w1 := (hB.grown hgr hB.size (fun j hj => by cases hj; exact Nat.le_refl _))
      have hg1 : Grp w1 b base M vs := by
        refine ⟨hmap.grown hgr (by intro e; cases e; omega), HG.out.len, HG.out.ok, HG.out.keys, fun j u mm hu hmm => ?_, HG.out.apart⟩
        have ho := HG.out.each j u mm hu hmm
        refine ho.kept hgr ?_
        by_cases hv : u.ownBlock = none
        · exact .inl hv
        · refine .inr (fun e' => ?_)
          rcases ho.2 with ⟨rfl, _⟩ | ⟨g, cap, cur, rfl, _, h2, _⟩
          · cases e'
          · simp only [Value.ownBlock, Option.some.injEq] at e'
            subst e'
            unfold HasIter at hit
            rw [h2] at hit; cases hit
      have hq1 : OwnEd w1 (w.heap.size + 1) (.slice p' es.length c') es := HQ.out.kept hgr (by
        by_cases hv : (Value.slice p' es.length c').ownBlock = none
        · exact .inl hv
        · exact .inr (fun e' => by have := (HQ.out.lt _ e').1; omega))
      have hsz2 : w.heap.size + 1 ≤ w1.heap.size := by omega
      have HVX := Lib.hid hvx
      clear hgr hsz1 hmap hm hvx hB hit
      have HG1 := Lib.hid hg1; clear hg1
      have HQ1 := Lib.hid hq1; clear hq1
      have HIT1 := Lib.hid hit1; clear hit1
      obtain ⟨⟨ex, ey, ek⟩, row⟩ := m
      unfold E.val at hen
      go_wp2_with fail
      have hbx : (w1.alloc (.cells #[.int .i64 ex, .int .i64 ey, .int .i64 ek] 72)).heap[w1.heap.size]? = some (.cells #[.int .i64 ex, .int .i64 ey, .int .i64 ek] 72) := World.alloc_heap_new w1 _
      have hal1 : Below w1.heap.size w1 (w1.alloc (.cells #[.int .i64 ex, .int .i64 ey, .int .i64 ek] 72)) := Below.alloc (Below.refl _ w1) (Nat.le_refl _) _
      refine (HCL.out _ i xv (⟨ex, ey, ek⟩, row) (HB1.trans (hal1.mono HB1.size)) HVX.out HMI.out).mono ?_
      rintro e w3 ⟨rfl, hB3⟩
      have hw3 : Below w1.heap.size w1 w3 := hal1.trans (hB3.mono hal1.size)
      have hbx3 := (hB3.block _ (Array.getElem?_eq_some_iff.1 hbx).1).trans hbx
      have hBw3 := HB1.trans (hw3.mono HB1.size)
      have HG3 := Lib.hid (HG1.out.below hw3)
      have HIT3 := Lib.hid (HIT1.out.below hw3)
      have HQ3 := Lib.hid (owns_below HQ1.out hw3)
      have hsz3 : w.heap.size + 1 ≤ w3.heap.size := Nat.le_trans hsz2 hw3.size
      have d0 : w3.cell? ⟨w1.heap.size, 0, none⟩ = some (.int .i64 ex) := by simp [World.cell?, hbx3]
      have d1 : w3.cell? ⟨w1.heap.size, 1, none⟩ = some (.int .i64 ey) := by simp [World.cell?, hbx3]
      have d2 : w3.cell? ⟨w1.heap.size, 2, none⟩ = some (.int .i64 ek) := by simp [World.cell?, hbx3]
      clear hbx hal1 hB3 hw3 hbx3 HB1 HG1 HIT1 HQ1 hen
      have hlt1 : done.length + 1 ≤ M.length := by
        have := nodup_lt_length M.length (done ++ [i]) (by
          rw [List.nodup_append]
          exact ⟨HD.out, by simp, fun a ha b hb e => hnew (by rw [List.mem_singleton.1 hb] at e; rw [← e]; exact ha)⟩) (fun j hj => by
          rcases List.mem_append.1 hj with h | h
          · exact HDL.out j h
          · rw [List.mem_singleton.1 h]; exact hi)
        simpa using this
      have HND : Hid ((done ++ [i]).Nodup ∧ ∀ j ∈ done ++ [i], j < M.length) := Lib.hid ⟨by
          rw [List.nodup_append]
          exact ⟨HD.out, by simp, fun a ha b hb e => hnew (by rw [List.mem_singleton.1 hb] at e; rw [← e]; exact ha)⟩, fun j hj => by
          rcases List.mem_append.1 hj with h | h
          · exact HDL.out j h
          · rw [List.mem_singleton.1 h]; exact hi⟩
      have hdo3 : doneOf w3 w.heap.size = done.length + 1 := by rw [HIT3.out.done]; simp
      have HDO3 := Lib.hid hdo3; clear hdo3
      cases hp : p row with
      | false =>
        have HES2 : Hid (es = pickE M p (done ++ [i])) := Lib.hid (by rw [pickE_snoc HMI.out, HES.out]; simp [hp])
        go_wp2_with fail
        go_roundw
        case rel => exact ⟨done ++ [i], es, Lib.hid ⟨HIT3.out, HG3.out, HND.out.1, HND.out.2, HQ3.out, HES2.out, hBw3, hsz3⟩⟩
        case measure =>
          rw [HDO3.out, HDO.out]; omega
      | true =>
        have HES2 : Hid (es ++ [⟨ex, ey, ek⟩] = pickE M p (done ++ [i])) := Lib.hid (by rw [pickE_snoc HMI.out, HES.out]; simp [hp])
        have HM1 : Hid (es.length + 1 ≤ maxLen) := Lib.hid (by simp only [maxLen]; omega)
        have HM2 : Hid ((es.length + 1) * 24 ≤ 140737488355328) := Lib.hid (by omega)
        obtain ⟨iE, hiE, hzE, hsE, hbE⟩ := info_parts infoE
        go_wp2_with (first
          | (at_builtin; refine wpList_append_own _ rfl _ _ 45 rfl (w.heap.size + 1) 72 iE _ 3 24 Tryz.underlying45 hiE hzE hsE hbE rfl (by decide) (.slice p' es.length c') es.length (eCells es) rfl (HQ3.out.alloc _) ⟨w3.heap.size, 0, none⟩ 1 1 (eVals ⟨ex, ey, ek⟩) rfl rfl (eVals_at ⟨ex, ey, ek⟩) (eVals_one _) HM1.out HM2.out (by rw [World.size_alloc]; omega) ?_; intro v' w4 hown' hgrow _; obtain ⟨p'', c'', rfl⟩ := own_slice hown'))
        have hga : w3.grownBy w4 (Value.slice p' es.length c').ownBlock := ⟨hgrow.os, hgrow.tape, hgrow.output, Nat.le_trans (by simp) hgrow.size, fun k hk hne => (hgrow.block k (by simp; omega) hne).trans (Below.heap_alloc _ _ _ hk)⟩
        have hrow : ∀ k, (Value.slice p' es.length c').ownBlock = some k → w.heap.size + 1 ≤ k := fun k hk => (HQ3.out.lt k hk).1
        have hit4 : HasIter w4 w.heap.size b (zipM M vs).length (done ++ [i]) := HIT3.out.grown hga (fun e => by have := hrow _ e.symm; omega)
        have hg4 : Grp w4 b base M vs := by
          refine ⟨HG3.out.map.grown hga (fun e => by have := hrow _ e.symm; omega), HG3.out.len, HG3.out.ok, HG3.out.keys, fun j u mm hu hmm => ?_, HG3.out.apart⟩
          have ho := HG3.out.each j u mm hu hmm
          refine ho.kept hga ?_
          rcases ho.2 with ⟨rfl, _⟩ | ⟨g, cap, cur, rfl, _, h2, _⟩
          · exact .inl rfl
          · rcases HQ3.out.2 with ⟨hn, _⟩ | ⟨g', cap', cur', hn, _, h2', _⟩
            · exact .inr (by rw [hn]; simp [Value.ownBlock])
            · refine .inr (fun e' => ?_)
              rw [hn] at e'
              simp only [Value.ownBlock, Option.some.injEq] at e'
              subst e'
              rw [h2] at h2'
              simp only [Option.some.injEq, Obj.cells.injEq] at h2'
              exact absurd h2'.2.1 (by decide)
        have hdo4 : doneOf w4 w.heap.size = done.length + 1 := by rw [hit4.done]; simp
        have HDO4 := Lib.hid hdo4; clear hdo4
        have HG4 := Lib.hid hg4; clear hg4
        have HIT4 := Lib.hid hit4; clear hit4
        go_roundw
        case rel => exact ⟨done ++ [i], es ++ [⟨ex, ey, ek⟩], Lib.hid ⟨HIT4.out, HG4.out, HND.out.1, HND.out.2, ownEd_snoc hown', HES2.out, hBw3.grown hga hBw3.size (fun k hk => by have := hrow k hk; omega), Nat.le_trans hsz3 hga.size⟩⟩
        case measure =>
          rw [HDO4.out, HDO.out]; omega
end Go.Proofs.YtimnmfjbfbkooaaGreatDoor
