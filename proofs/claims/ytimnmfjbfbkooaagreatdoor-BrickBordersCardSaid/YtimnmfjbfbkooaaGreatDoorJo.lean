/- Joints. -/
import Derived.Test.YtimnmfjbfbkooaaGreatDoorJn
namespace Go.Proofs.YtimnmfjbfbkooaaGreatDoor
set_option linter.all false
set_option linter.unusedSimpArgs false
set_option linter.unusedVariables false
open Go.RowKit
attribute [local go_sem] Oper.semAt_some

theorem addE_length (M : List (E × List Q)) (e : E) (q : Q) : (addE M e q).length ≤ M.length + 1 := by
  induction M with
  | nil => simp [addE]
  | cons m M ih =>
    simp only [addE]
    split
    · simp
    · simp only [List.length_cons]; omega
theorem addQ_length (M : List (E × List Q)) (q : Q) : (addQ M q).length ≤ M.length + 3 := by
  simp only [addQ, edgesQ, List.foldl_cons, List.foldl_nil]
  have h1 := addE_length M ⟨q.x, q.y, q.s⟩ q
  have h2 := addE_length (addE M ⟨q.x, q.y, q.s⟩ q) ⟨q.x, q.y, (q.s + 3) % 4⟩ q
  have h3 := addE_length (addE (addE M ⟨q.x, q.y, q.s⟩ q) ⟨q.x, q.y, (q.s + 3) % 4⟩ q) (sideE q) q
  omega
theorem ownL_length : ∀ (l : List Q) (M : List (E × List Q)), (ownL M l).length ≤ M.length + 3 * l.length
  | [], M => Nat.le_refl _
  | q :: l, M => by
    have h1 := ownL_length l (addQ M q)
    have h2 := addQ_length M q
    simp only [ownL, List.foldl_cons, List.length_cons] at h1 ⊢
    omega
theorem addE_mem {M : List (E × List Q)} {e : E} {q : Q} {P : Q → Prop} (h : ∀ m ∈ M, ∀ r ∈ m.2, P r) (hq : P q) : ∀ m ∈ addE M e q, ∀ r ∈ m.2, P r := by
  induction M with
  | nil => intro m hm r hr; simp [addE] at hm; subst hm; simp at hr; subst hr; exact hq
  | cons a M ih =>
    intro m hm r hr
    simp only [addE] at hm
    split at hm
    · rcases List.mem_cons.1 hm with rfl | hm
      · rcases List.mem_append.1 hr with hr | hr
        · exact h a (by simp) r hr
        · rw [List.mem_singleton.1 hr]; exact hq
      · exact h m (by simp [hm]) r hr
    · rcases List.mem_cons.1 hm with rfl | hm
      · exact h m (by simp) r hr
      · exact ih (fun m hm => h m (by simp [hm])) m hm r hr
theorem ownL_mem {P : Q → Prop} : ∀ {l : List Q} {M : List (E × List Q)}, (∀ m ∈ M, ∀ r ∈ m.2, P r) → (∀ q ∈ l, P q) → ∀ m ∈ ownL M l, ∀ r ∈ m.2, P r
  | [], M, h, _ => h
  | q :: l, M, h, hl => by
    have hq := hl q (by simp)
    refine ownL_mem (l := l) ?_ (fun r hr => hl r (by simp [hr]))
    simp only [addQ, edgesQ, List.foldl_cons, List.foldl_nil]
    exact addE_mem (addE_mem (addE_mem h hq) hq) hq
theorem ownL_append (M : List (E × List Q)) (a b : List Q) : ownL M (a ++ b) = ownL (ownL M a) b := List.foldl_append

def shapesFrom : Nat → List (List Q) → List (Q × Nat)
  | _, [] => []
  | i, l :: ls => l.map (fun q => (q, i)) ++ shapesFrom (i + 1) ls
theorem shapesFrom_snoc : ∀ (ls : List (List Q)) (i : Nat) (l : List Q), shapesFrom i (ls ++ [l]) = shapesFrom i ls ++ l.map (fun q => (q, i + ls.length))
  | [], i, l => by simp [shapesFrom]
  | a :: ls, i, l => by
    simp only [List.cons_append, shapesFrom, shapesFrom_snoc ls (i + 1) l, List.append_assoc, List.length_cons]
    rw [show i + 1 + ls.length = i + (ls.length + 1) by omega]
theorem shapesFrom_keys : ∀ (ls : List (List Q)) (i : Nat), (shapesFrom i ls).map (·.1) = ls.flatten
  | [], _ => rfl
  | a :: ls, i => by simp [shapesFrom, shapesFrom_keys ls (i + 1), Function.comp_def]
theorem take_snoc' {α : Type} {ls : List α} {k : Nat} {l : α} (h : ls[k]? = some l) : ls.take (k + 1) = ls.take k ++ [l] := by
  obtain ⟨hk, rfl⟩ := List.getElem?_eq_some_iff.1 h
  exact List.take_succ_eq_append_getElem hk
theorem flatten_take_le : ∀ (ls : List (List Q)), (∀ l ∈ ls, l.length ≤ 400) → ls.flatten.length ≤ 400 * ls.length
  | [], _ => by simp
  | a :: ls, h => by
    have := flatten_take_le ls (fun l hl => h l (by simp [hl]))
    have := h a (by simp)
    simp only [List.flatten_cons, List.length_append, List.length_cons]; omega
theorem nodup_part {ls : List (List Q)} {k : Nat} {l : List Q} (h : ls[k]? = some l) (hn : ls.flatten.Nodup) : ((ls.take k).flatten ++ l).Nodup := by
  have e : ls = ls.take k ++ l :: ls.drop (k + 1) := by
    obtain ⟨hk, rfl⟩ := List.getElem?_eq_some_iff.1 h
    rw [← List.drop_eq_getElem_cons hk, List.take_append_drop]
  rw [e, List.flatten_append, List.flatten_cons, ← List.append_assoc] at hn
  exact (List.nodup_append.1 hn).1

def jointsCode (ls : List (List Q)) : Nat := if 60 < ls.length then 5 else if checks ls ≠ 0 then checks ls else if ls.flatten.Nodup then 0 else 6
def jointE (ls : List (List Q)) : List E := ((ownL [] ls.flatten).filter (fun m => jointP (shapesFrom 0 ls) m.2)).map (·.1)

theorem nodup_at {α : Type} {A l : List α} {j : Nat} {q : α} (h : l[j]? = some q) (hn : (A ++ l).Nodup) : q ∉ A ++ l.take j := by
  obtain ⟨hj, rfl⟩ := List.getElem?_eq_some_iff.1 h
  have e : l = l.take j ++ l[j] :: l.drop (j + 1) := by rw [← List.drop_eq_getElem_cons hj, List.take_append_drop]
  have hn' : ((A ++ l.take j) ++ l[j] :: l.drop (j + 1)).Nodup := by rw [List.append_assoc, ← e]; exact hn
  intro hm
  exact (List.nodup_append.1 hn').2.2 _ hm _ List.mem_cons_self rfl
/-- What holds between two rounds of the shapes' loop. -/
structure JI (w wr : World) (n0 : Nat) (vs : List Value) (L : List Q) (S : List (Q × Nat)) : Prop where
  grp : Grp wr n0 (n0 + 3) (ownL [] L) vs
  row : ∀ m ∈ ownL [] L, m.2.length ≤ 3 * L.length
  map : HasM Q.val wr (n0 + 1) (shapeM S)
  box : Boxed wr (n0 + 1 + 1) 99 (.map (some (n0 + 1)))
  below : Below w.heap.size w wr
  size : n0 + 3 ≤ wr.heap.size
theorem JI.keep {w wr wr' : World} {n0 : Nat} {vs : List Value} {L : List Q} {S : List (Q × Nat)} (h : JI w wr n0 vs L S) (e : Below wr.heap.size wr wr') : JI w wr' n0 vs L S :=
  ⟨h.grp.below e, h.row, h.map.below e, (e.block _ h.box.lt).trans h.box, h.below.trans (e.mono h.below.size), Nat.le_trans h.size e.size⟩
theorem JI.put {w wr : World} {n0 : Nat} {vs : List Value} {L : List Q} {S : List (Q × Nat)} (h : JI w wr n0 vs L S) (hn : w.heap.size ≤ n0) (S' : List (Q × Nat)) : JI w (putM Q.val wr (n0 + 1) (shapeM S')) n0 vs L S' := by
  have hg := putM_grown (enc := Q.val) wr (n0 + 1) (shapeM S')
  refine ⟨⟨h.grp.map.grown hg (by intro e; simp at e), h.grp.len, h.grp.ok, h.grp.keys, fun i v m hv hm => ?_, h.grp.apart⟩, h.row, HasM.put h.map.lt _, (putM_other wr (by omega) _).trans h.box, h.below.trans (putM_below wr (by omega) _), by rw [putM_size]; exact h.size⟩
  have ho := h.grp.each i v m hv hm
  refine ho.kept hg ?_
  by_cases hv0 : v.ownBlock = none
  · exact .inl hv0
  · refine .inr (fun e => ?_)
    have := (ho.lt _ e).1
    omega
theorem HasQ.own_lt {W : World} {v : Value} {l : List Q} (h : HasQ W v l) (hne : l ≠ []) : ∀ k, v.ownBlock = some k → k < W.heap.size := by
  intro k hk
  rcases h with ⟨rfl, _⟩ | ⟨a, cap, rfl, _, _, hq⟩
  · cases hk
  · simp only [Value.ownBlock, Option.some.injEq] at hk; subst hk; exact hq.lt hne
theorem shapesFrom_part {ls : List (List Q)} {k : Nat} (j : Nat) (l : List Q) : (shapesFrom 0 (ls.take k) ++ (l.take j).map (fun q => (q, k))).map (·.1) = (ls.take k).flatten ++ l.take j := by
  rw [List.map_append, shapesFrom_keys, List.map_map]
  congr 1
  exact List.map_id _

set_option maxRecDepth 100000 in
set_option maxHeartbeats 4000000 in
theorem Joints_any (ls : List (List Q)) (v : Value) (w : World) (h : HasQQ w v ls) (hlen : ls.length ≤ 1000000000) :
    Calls Tryz.prog 25 #[v] w fun e w' => ∃ u es, e = .returned (.tuple #[u, .int .i64 (jointsCode ls)]) ∧ HasEs w' u es ∧ (jointsCode ls ≠ 0 → es = []) ∧ (jointsCode ls = 0 → es.Perm (jointE ls) ∧ es.Pairwise (fun a b => ¬ ltE b a)) ∧ Below w.heap.size w w' := by
  have H := Lib.hid h
  have hv' : ∃ p c, v = .slice p ls.length c := by
    rcases h with ⟨rfl, rfl⟩ | ⟨a, cap, vs, rfl, _⟩
    · exact ⟨none, 0, rfl⟩
    · exact ⟨some a, cap, rfl⟩
  obtain ⟨vp, vc, rfl⟩ := hv'
  clear h
  have hmm := @run_makeMap Tryz.prog
  by_cases h60 : 60 < ls.length
  case pos =>
    have hc : jointsCode ls = 5 := by rw [jointsCode, if_pos h60]
    have HC := Lib.hid hc; clear hc
    go_enter Tryz.func25, Tryz.ntmps25
    go_wp2
    go_ret2
    exact ⟨.slice none 0 0, [], by rw [HC.out]; rfl, .inl ⟨rfl, rfl⟩, fun _ => rfl, fun h => absurd (HC.out.symm.trans h) (by decide), Below.refl _ _⟩
  have HK := Lib.hid (checkAll_any ls _ w H.out)
  go_enter Tryz.func25, Tryz.ntmps25
  go_wp2_with fail
  refine HK.out.mono ?_
  rintro e w1 ⟨rfl, hB1⟩
  clear HK
  by_cases hc0 : checks ls = 0
  case neg =>
    have hc1 : ((checks ls : Int) != 0) = true := by simpa using hc0
    have HC : Hid (jointsCode ls = checks ls ∧ checks ls ≠ 0) := Lib.hid ⟨by rw [jointsCode, if_neg h60, if_pos hc0], hc0⟩
    clear hc0
    go_wp2_with fail
    go_ret2
    exact ⟨.slice none 0 0, [], by rw [HC.out.1]; rfl, .inl ⟨rfl, rfl⟩, fun _ => rfl, fun h => absurd (HC.out.1.symm.trans h) HC.out.2, hB1⟩
  have hc1 : ((checks ls : Int) != 0) = false := by simpa using hc0
  have HC0 := Lib.hid hc0; clear hc0
  go_wp2_with fail
  clear hmm
  obtain ⟨hMo, hMs, hBx, hB0, hsz0⟩ := alloc3 w1 (.map #[] 0) (.map #[] 0) (.cells #[.map (some (w1.heap.size + 1))] 99)
  revert hMo hMs hBx hB0 hsz0
  generalize ((w1.alloc (.map #[] 0)).alloc (.map #[] 0)).alloc (.cells #[.map (some (w1.heap.size + 1))] 99) = W0
  intro hMo hMs hBx hB0 hsz0
  have hn0 : w.heap.size ≤ w1.heap.size := hB1.size
  have hBW : Below w.heap.size w W0 := hB1.trans (hB0.mono hn0)
  clear hB0 hB1
  revert hMo hMs hBx hsz0 hn0
  generalize w1.heap.size = n0
  intro hMo hMs hBx hsz0 hn0
  have hlen60 : ls.length ≤ 60 := by omega
  have HQO := Lib.hid (checks_zero HC0.out)
  have h0 : Hid (JI w W0 n0 [] [] []) := Lib.hid ⟨⟨hMo, rfl, fun m hm => (by cases hm), List.nodup_nil, fun i v m hv _ => (by simp at hv), fun i j u v _ hu _ => (by simp at hu)⟩, fun m hm => (by cases hm), hMs, hBx, hBW, by omega⟩
  clear hMo hMs hBx hBW hsz0
  have hlk : ∀ k, k ≤ ls.length → (ls.take k).flatten.length ≤ 24000 := fun k hk => by
    have := flatten_take_le (ls.take k) (fun l hl => (checkN_ok (HQO.out l (List.mem_of_mem_take hl))).2.2)
    have h2 : (ls.take k).length ≤ 60 := by rw [List.length_take]; omega
    omega
  have HLK := Lib.hid hlk; clear hlk
  have HNUM : Hid (¬ 60 < ls.length) := Lib.hid h60
  clear h60 hc1
  have HKIN : Hid (∀ q ∈ ls.flatten, inQ q) := Lib.hid fun q hq => by
    obtain ⟨l, hl, hq⟩ := List.mem_flatten.1 hq
    exact (checkN_ok (HQO.out l hl)).1.1 q hq
  go_loopw [25] (fun u wr => ∃ (k : Nat) (vs : List Value), k ≤ ls.length ∧ u = .int .i64 k ∧ Hid (JI w wr n0 vs (ls.take k).flatten (shapesFrom 0 (ls.take k)) ∧ (ls.take k).flatten.Nodup)) (fun u _ => ls.length - (intOf u).toNat)
  case atStart => exact ⟨0, [], by omega, rfl, Lib.hid ⟨h0.out, List.nodup_nil⟩⟩
  case round =>
    obtain ⟨k, vs, hk, rfl, HR⟩ := hrel
    by_cases hlt : k < ls.length
    · obtain ⟨a, qs, rfl, hva, hvl, heach⟩ : ∃ (a : Addr) (qs : List Value), vp = some a ∧ VsAt w a qs ∧ qs.length = ls.length ∧ ∀ (i : Nat) (u : Value) (l : List Q), qs[i]? = some u → ls[i]? = some l → HasQ w u l := by
        rcases H.out with ⟨_, h⟩ | ⟨a, cap, qs, h1, _, _, h4, h5, h6⟩
        · rw [h] at hlt; cases hlt
        · simp only [Value.slice.injEq] at h1
          exact ⟨a, qs, h1.1, h4, h5, h6⟩
      obtain ⟨l, hl⟩ : ∃ l, ls[k]? = some l := ⟨_, List.getElem?_eq_getElem hlt⟩
      obtain ⟨u, hu⟩ : ∃ u, qs[k]? = some u := ⟨_, List.getElem?_eq_getElem (by rw [hvl]; exact hlt)⟩
      have c0 := (hva.below HR.out.1.below).at_ k u hu
      have HQ := Lib.hid (heach k u l hu hl)
      have HL := Lib.hid hl
      have HOK := Lib.hid (checkN_ok (HQO.out l (List.mem_of_getElem? hl)))
      clear hva hvl heach hl hu
      have hl400 : l.length ≤ 400 := HOK.out.2.2
      have hu' : ∃ p c, u = .slice p l.length c := by
        rcases HQ.out with ⟨rfl, rfl⟩ | ⟨a, c, rfl, _⟩
        · exact ⟨_, _, rfl⟩
        · exact ⟨_, _, rfl⟩
      obtain ⟨up, uc, rfl⟩ := hu'
      go_wp2_with fail
      clear c0
      go_loopw [32] (fun u wr => ∃ j : Nat, j ≤ l.length ∧ u = .int .i64 j ∧ Hid (JI w wr n0 vs (ls.take k).flatten (shapesFrom 0 (ls.take k) ++ (l.take j).map (fun q => (q, k))) ∧ ((ls.take k).flatten ++ l.take j).Nodup)) (fun u _ => l.length - (intOf u).toNat)
      case atStart => exact ⟨0, by omega, rfl, Lib.hid ⟨by simpa using HR.out.1, by simpa using HR.out.2⟩⟩
      case round =>
        obtain ⟨j, hj, rfl, HI⟩ := hrel
        by_cases hlj : j < l.length
        · obtain ⟨q, hqk⟩ : ∃ q, l[j]? = some q := ⟨_, List.getElem?_eq_getElem hlj⟩
          obtain ⟨a', rfl, hqs⟩ : ∃ a', up = some a' ∧ QsAt w a' l := by
            rcases HQ.out with ⟨_, h⟩ | ⟨a', c, h1, _, _, h2⟩
            · rw [h] at hlj; cases hlj
            · simp only [Value.slice.injEq] at h1; exact ⟨a', h1.1, h2⟩
          have hs2 := hqs.below HI.out.1.below
          have c0 := hs2.at0 j q hqk
          have c1 := hs2.at1 j q hqk
          have c2 := hs2.at2 j q hqk
          have HK := Lib.hid hqk; clear hqk hs2 hqs
          have hin : inQ q := HOK.out.1.1 q (List.mem_of_getElem? HK.out)
          have HIN := Lib.hid hin; clear hin
          have hn0l : Hid (w.heap.size ≤ n0) := Lib.hid hn0
          obtain ⟨x, y, s⟩ := q
          go_upto_region 13 with (fail)
          have hal : Below wr.heap.size wr (wr.alloc (.cells #[.int .i64 x, .int .i64 y, .int .i64 s] 64)) := Below.alloc (Below.refl _ wr) (Nat.le_refl _) _
          have hJ5 := HI.out.1.keep hal
          have hq5 : (wr.alloc (.cells #[.int .i64 x, .int .i64 y, .int .i64 s] 64)).heap[wr.heap.size]? = some (.cells #[.int .i64 x, .int .i64 y, .int .i64 s] 64) := World.alloc_heap_new wr _
          have HND := Lib.hid HI.out.2
          clear hal HI c0 c1 c2
          revert hJ5 hq5
          generalize wr.alloc (.cells #[.int .i64 x, .int .i64 y, .int .i64 s] 64) = W5
          generalize wr.heap.size = rb
          intro hJ5 hq5
          have d0 : W5.cell? ⟨rb, 0, none⟩ = some (.int .i64 x) := by simp [World.cell?, hq5]
          have d1 : W5.cell? ⟨rb, 1, none⟩ = some (.int .i64 y) := by simp [World.cell?, hq5]
          have d2 : W5.cell? ⟨rb, 2, none⟩ = some (.int .i64 s) := by simp [World.cell?, hq5]
          have d3 := hJ5.box.cell
          have hkeys : (shapesFrom 0 (ls.take k) ++ (l.take j).map (fun q => (q, k))).map (·.1) = (ls.take k).flatten ++ l.take j := shapesFrom_part j l
          have hok : ∀ p ∈ shapeM (shapesFrom 0 (ls.take k) ++ (l.take j).map (fun q => (q, k))), inQ p.1 := fun p hp => by
            have h1 : p.1 ∈ (shapeM (shapesFrom 0 (ls.take k) ++ (l.take j).map (fun q => (q, k)))).map (·.1) := List.mem_map.2 ⟨p, hp, rfl⟩
            rw [shapeM_keys, hkeys] at h1
            rcases List.mem_append.1 h1 with h1 | h1
            · refine HKIN.out _ ?_
              obtain ⟨m, hm, h2⟩ := List.mem_flatten.1 h1
              exact List.mem_flatten.2 ⟨m, List.mem_of_mem_take hm, h2⟩
            · exact HOK.out.1.1 _ (List.mem_of_mem_take h1)
          have hnk : ((shapeM (shapesFrom 0 (ls.take k) ++ (l.take j).map (fun q => (q, k)))).map (·.1)).Nodup := by rw [shapeM_keys, hkeys]; exact HND.out
          by_cases hmem : (⟨x, y, s⟩ : Q) ∈ (ls.take k).flatten ++ l.take j
          · have hlook := run_lookup_hit encQ Tryz.underlying99 hJ5.map hok hnk (mem_shapeM (shapeAt_mem (by rw [hkeys]; exact hmem))) true
            unfold Q.val at hlook
            simp only [ite_true] at hlook
            have HR6 : Hid (jointsCode ls = 6) := Lib.hid (by
              have h1 : ¬ ls.flatten.Nodup := fun hn => by
                have h2 := nodup_part HL.out hn
                exact nodup_at HK.out h2 hmem
              rw [jointsCode, if_neg HNUM.out, if_neg (fun h => h HC0.out), if_neg h1])
            have HBF := Lib.hid hJ5.below
            clear hmem hok hnk hkeys hJ5 hq5
            go_wp2_with fail
            go_ret2
            exact ⟨.slice none 0 0, [], by rw [HR6.out]; rfl, .inl ⟨rfl, rfl⟩, fun _ => rfl, fun h => absurd (HR6.out.symm.trans h) (by decide), HBF.out⟩
          · have hlook := run_lookup_miss encQ Tryz.underlying99 (Tryz.zeroValue3 W5) hJ5.map hok HIN.out (fun p hp e => hmem (by rw [← hkeys, ← shapeM_keys, ← e]; exact List.mem_map.2 ⟨p, hp, rfl⟩)) true
            have hup := run_update_miss encQ Tryz.underlying99 hJ5.map hok HIN.out (fun p hp e => hmem (by rw [← hkeys, ← shapeM_keys, ← e]; exact List.mem_map.2 ⟨p, hp, rfl⟩)) (.int .i64 k)
            have hsm : shapeM (shapesFrom 0 (ls.take k) ++ (l.take j).map (fun q => (q, k))) ++ [(⟨x, y, s⟩, .int .i64 k)] = shapeM (shapesFrom 0 (ls.take k) ++ (l.take (j + 1)).map (fun q => (q, k))) := by
              rw [take_snoc' HK.out]; simp [shapeM]
            rw [hsm] at hup
            have HJ6 := Lib.hid (hJ5.put hn0 (shapesFrom 0 (ls.take k) ++ (l.take (j + 1)).map (fun q => (q, k))))
            revert hup HJ6
            generalize putM Q.val W5 (n0 + 1) (shapeM (shapesFrom 0 (ls.take k) ++ (l.take (j + 1)).map (fun q => (q, k)))) = W6
            intro hup HJ6
            unfold Q.val at hlook hup
            have HND6 : Hid ((ls.take k).flatten ++ l.take (j + 1)).Nodup := Lib.hid (by
              rw [take_snoc' HK.out, ← List.append_assoc]
              exact List.nodup_append.2 ⟨HND.out, by simp, fun a ha b hb e => hmem (by rw [← List.mem_singleton.1 hb, ← e]; exact ha)⟩)
            simp only [ite_true] at hlook
            clear hmem hok hnk hkeys hJ5 hq5 hsm hn0
            go_wp2_with fail
            have hn0 := hn0l.out
            go_roundw
            case rel => exact ⟨j + 1, by omega, by go_num, Lib.hid ⟨HJ6.out, HND6.out⟩⟩
            case measure => simp [intOf]; omega
        · obtain rfl : j = l.length := by omega
          have hF := HI.out
          rw [List.take_length] at hF
          have hS : shapesFrom 0 (ls.take k) ++ l.map (fun q => (q, k)) = shapesFrom 0 (ls.take (k + 1)) := by
            rw [take_snoc' HL.out, shapesFrom_snoc, List.length_take, Nat.min_eq_left (by omega), Nat.zero_add]
          have hLf : (ls.take k).flatten ++ l = (ls.take (k + 1)).flatten := by rw [take_snoc' HL.out]; simp
          rw [hS] at hF
          have HF := Lib.hid hF; clear hF HI hS
          have HLF := Lib.hid hLf; clear hLf
          have hlen3 := HLK.out k (by omega)
          have HOWN := Lib.hid (own_any n0 (n0 + 3) (3 * (ls.take k).flatten.length) (ownL [] (ls.take k).flatten) vs l (.slice up l.length uc) wr HF.out.1.grp HF.out.1.size (HQ.out.below HF.out.1.below)
            (fun b hb => by have := HQ.out.own_lt HOK.out.2.1 b hb; exact ⟨by omega, by omega⟩) HOK.out.1.1 HF.out.1.row (by omega))
          have hn0l : Hid (w.heap.size ≤ n0) := Lib.hid hn0
          clear hlen3 hn0
          go_wp2_with fail
          refine HOWN.out.mono ?_
          rintro e w5 ⟨rfl, ⟨vs', hg'⟩, hrow', hBB⟩
          have hn0 := hn0l.out
          have HJ' : Hid (JI w w5 n0 vs' (ls.take (k + 1)).flatten (shapesFrom 0 (ls.take (k + 1)))) := Lib.hid (by
            rw [← HLF.out]
            have hJ := HF.out.1
            refine ⟨by rw [ownL_append]; exact hg', ?_, (hBB.block _ (by omega) (by omega)).trans hJ.map, (hBB.block _ (by omega) (by omega)).trans hJ.box, hJ.below.trans (hBB.below (by omega) hn0), Nat.le_trans hJ.size hBB.size⟩
            rw [ownL_append]
            intro m hm
            have := hrow' m hm
            rw [List.length_append]; omega)
          clear hg' hrow' hBB
          go_wp2_with fail
          go_roundw
          case rel => exact ⟨k + 1, vs', by omega, by go_num, Lib.hid ⟨HJ'.out, by rw [← HLF.out]; exact HF.out.2⟩⟩
          case measure => simp [intOf]; omega
    · obtain rfl : k = ls.length := by omega
      have hF := HR.out
      rw [List.take_length] at hF
      have HF := Lib.hid hF; clear hF HR
      have hfl := HLK.out ls.length (Nat.le_refl _)
      rw [List.take_length] at hfl
      have hML : (ownL [] ls.flatten).length ≤ 1000000 := by
        have := ownL_length ls.flatten []
        simp only [List.length_nil] at this; omega
      have HORD := Lib.hid (ordered_any n0 (n0 + 3) 64 #[.pointer (some ⟨n0 + 1 + 1, 0, none⟩)] (ownL [] ls.flatten) vs (jointP (shapesFrom 0 ls)) wr HF.out.1.grp hML
        (fun args w => by kernel_rfl)
        (fun W i v m hB hv hm => jointsP_any (shapesFrom 0 ls) (n0 + 1) (n0 + 1 + 1) m.2 v W ((HF.out.1.grp.each i v m hv hm).has.below hB) (HF.out.1.map.below hB) ((hB.block _ HF.out.1.box.lt).trans HF.out.1.box)
          (by rw [shapesFrom_keys]; exact HF.out.2) (fun p hp => HKIN.out _ (by rw [← shapesFrom_keys ls 0]; exact List.mem_map.2 ⟨p, hp, rfl⟩))
          (fun q hq => by rw [shapesFrom_keys]; exact ownL_mem (P := fun q => q ∈ ls.flatten) (M := []) (fun m hm => by cases hm) (fun q hq => hq) m (List.mem_of_getElem? hm) q hq)))
      have HBF := Lib.hid HF.out.1.below
      have HC : Hid (jointsCode ls = 0) := Lib.hid (by rw [jointsCode, if_neg HNUM.out, if_neg (fun h => h HC0.out), if_pos HF.out.2])
      clear hML hfl
      go_wp2_with fail
      refine HORD.out.mono ?_
      rintro e w5 ⟨u, es, rfl, hes, hperm, hsort, hBo⟩
      have HE := Lib.hid hes; clear hes
      have HP := Lib.hid hperm; clear hperm
      have HS := Lib.hid hsort; clear hsort
      have HB5 := Lib.hid (HBF.out.trans (hBo.mono HBF.out.size)); clear hBo
      go_wp2_with fail
      go_ret2
      exact ⟨u, es, by rw [HC.out]; rfl, HE.out, fun h => absurd HC.out h, fun _ => ⟨HP.out, HS.out⟩, HB5.out⟩
end Go.Proofs.YtimnmfjbfbkooaaGreatDoor
