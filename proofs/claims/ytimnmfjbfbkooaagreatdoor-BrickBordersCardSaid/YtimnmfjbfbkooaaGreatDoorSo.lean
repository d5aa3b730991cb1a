/- sorted: the shapes of grids, in their order; Images. -/
import Derived.Test.YtimnmfjbfbkooaaGreatDoorCf
namespace Go.Proofs.YtimnmfjbfbkooaaGreatDoor
set_option linter.all false
set_option linter.unusedSimpArgs false
set_option linter.unusedVariables false
open Go.RowKit
attribute [local go_sem] Oper.semAt_some

/-! ### Slices of shapes -/
structure VsAt (W : World) (a : Addr) (vs : List Value) : Prop where
  lt : a.block < W.heap.size
  at_ : ∀ (i : Nat) (v : Value), vs[i]? = some v → W.cell? (a.add i) = some v
theorem VsAt.move {W W' : World} {a : Addr} {vs : List Value} (h : VsAt W a vs) (e : W'.heap[a.block]? = W.heap[a.block]?) : VsAt W' a vs := by
  refine ⟨?_, fun i v hv => ?_⟩
  · have := h.lt
    have h1 : W.heap[a.block]? = some W.heap[a.block] := Array.getElem?_eq_getElem this
    exact (Array.getElem?_eq_some_iff.1 (e.trans h1)).1
  · exact (cell_of_block (x := a.add i) (by rw [block_add, e])).trans (h.at_ i v hv)
theorem VsAt.below {W W' : World} {a : Addr} {vs : List Value} (h : VsAt W a vs) (e : Below W.heap.size W W') : VsAt W' a vs := h.move (e.block _ h.lt)
def HasQQ (W : World) (v : Value) (ls : List (List Q)) : Prop :=
  (v = .slice none 0 0 ∧ ls = []) ∨ ∃ (a : Addr) (cap : Nat) (vs : List Value), v = .slice (some a) ls.length cap ∧ ls.length ≤ cap ∧ cap ≤ maxLen ∧ VsAt W a vs ∧ vs.length = ls.length ∧
    ∀ (i : Nat) (u : Value) (l : List Q), vs[i]? = some u → ls[i]? = some l → HasQ W u l
theorem HasQQ.below {W W' : World} {v : Value} {ls : List (List Q)} (h : HasQQ W v ls) (e : Below W.heap.size W W') : HasQQ W' v ls := by
  rcases h with h | ⟨a, cap, vs, h1, h2, h3, h4, h5, h6⟩
  · exact .inl h
  · exact .inr ⟨a, cap, vs, h1, h2, h3, h4.below e, h5, fun i u l hu hl => (h6 i u l hu hl).below e⟩

def lenV : Value → Nat
  | .slice _ n _ => n
  | _ => 0
/-- The slice v of the call's own holds the slices vs, of the call's own, which hold the shapes ls. -/
structure OwnQQ (W : World) (base : Nat) (v : Value) (vs : List Value) (ls : List (List Q)) : Prop where
  row : W.ownsRow base 22 1 v vs.length vs
  len : vs.length = ls.length
  each : ∀ (i : Nat) (u : Value) (l : List Q), vs[i]? = some u → ls[i]? = some l → OwnQ W base u l
theorem OwnQQ.nil (W : World) (base : Nat) : OwnQQ W base (.slice none 0 0) [] [] := ⟨World.ownsRow_nil W base _ 1, rfl, fun i u l h => by simp at h⟩
theorem OwnQ.apart {W : World} {base base' n : Nat} {u v : Value} {l : List Q} {xs : List Value} (h : OwnQ W base u l) (hv : W.ownsRow base' 22 1 v n xs) : u.ownBlock = none ∨ u.ownBlock ≠ v.ownBlock := by
  rcases h.2 with ⟨rfl, _⟩ | ⟨g, cap, cur, rfl, _, h2, _⟩
  · exact .inl rfl
  · rcases hv.2 with ⟨rfl, _⟩ | ⟨g', cap', cur', rfl, _, h2', _⟩
    · exact .inr (by simp [Value.ownBlock])
    · refine .inr (fun e => ?_)
      simp only [Value.ownBlock, Option.some.injEq] at e
      subst e
      rw [h2] at h2'
      simp only [Option.some.injEq, Obj.cells.injEq] at h2'
      exact absurd h2'.2.1 (by decide)
theorem owns_below {W W' : World} {base : Nat} {e : TypeId} {size : Nat} {v : Value} {n : Nat} {xs : List Value} (h : W.ownsRow base e size v n xs) (b : Below W.heap.size W W') : W'.ownsRow base e size v n xs :=
  h.kept (row := none) ⟨b.os, b.tape, b.output, b.size, fun k hk _ => b.block k hk⟩ (by cases hv : v.ownBlock <;> simp)
theorem OwnQQ.below {W W' : World} {base : Nat} {v : Value} {vs : List Value} {ls : List (List Q)} (h : OwnQQ W base v vs ls) (e : Below W.heap.size W W') : OwnQQ W' base v vs ls :=
  ⟨owns_below h.row e, h.len, fun i u l hu hl => (h.each i u l hu hl).below e⟩
/-- One more. -/
theorem OwnQQ.snoc {W w1 : World} {base : Nat} {v v' u : Value} {vs : List Value} {ls : List (List Q)} {l : List Q} {o : Obj} (h : OwnQQ W base v vs ls) (hu : OwnQ W base u l)
    (hown : w1.ownsRow base 22 1 v' (vs.length + 1) (vs ++ [u])) (hgrow : (W.alloc o).grownBy w1 v.ownBlock) : OwnQQ w1 base v' (vs ++ [u]) (ls ++ [l]) := by
  have hal : Below W.heap.size W (W.alloc o) := Below.alloc (Below.refl _ W) (Nat.le_refl _) o
  refine ⟨by simpa using hown, by simp [h.len], fun i x m hx hm => ?_⟩
  have keep : ∀ {x : Value} {m : List Q}, OwnQ W base x m → OwnQ w1 base x m := fun hx => (hx.below hal).kept hgrow ((hx.below hal).apart (owns_below h.row hal))
  by_cases hi : i < vs.length
  · rw [List.getElem?_append_left hi] at hx
    rw [List.getElem?_append_left (by rw [← h.len]; exact hi)] at hm
    exact keep (h.each i x m hx hm)
  · have hi' : i = vs.length := by
      have := (List.getElem?_eq_some_iff.1 hx).1
      simp at this; omega
    subst hi'
    rw [List.getElem?_append_right (Nat.le_refl _)] at hx
    rw [List.getElem?_append_right (by rw [h.len]; exact Nat.le_refl _)] at hm
    simp at hx
    simp [h.len] at hm
    subst hx; subst hm
    exact keep hu
theorem infoQs : (Tryz.prog.info? 22).map (fun i => (i.zero, i.size, i.bytes)) = some (some (.slice none 0 0), 1, 24) := by kernel_rfl

theorem nodup_lt_length : ∀ (m : Nat) (l : List Nat), l.Nodup → (∀ i ∈ l, i < m) → l.length ≤ m := by
  intro m
  induction m with
  | zero =>
    intro l _ hl
    cases l with
    | nil => simp
    | cons a l => exact absurd (hl a (by simp)) (by omega)
  | succ m ih =>
    intro l hn hl
    by_cases hm : m ∈ l
    · obtain ⟨l1, l2, rfl⟩ := List.append_of_mem hm
      have hp : (l1 ++ m :: l2).Perm (m :: (l1 ++ l2)) := List.perm_middle
      have hn2 := (hp.nodup_iff).1 hn
      rw [List.nodup_cons] at hn2
      have := ih (l1 ++ l2) hn2.2 (fun i hi => by
        have h1 := hl i (by
          rcases List.mem_append.1 hi with h | h
          · simp [h]
          · simp [h])
        have : i ≠ m := fun e => hn2.1 (e ▸ hi)
        omega)
      simp at this ⊢; omega
    · have := ih l hn (fun i hi => by
        have h1 := hl i hi
        have : i ≠ m := fun e => hm (e ▸ hi)
        omega)
      omega
theorem sortWorld_other {α : Type} [Inhabited α] (enc : α → Value) (w : World) (blk off m : Nat) (dk : Array α) (os : Array Obj) {k : Nat} (hk : k < w.heap.size) (hne : k ≠ blk) : (sortWorld enc w blk off m dk os).heap[k]? = w.heap[k]? := by
  have h1 : k < (Sort.putRow enc (Sort.ahead w m) blk off dk).heap.size := by simpa [Sort.ahead] using hk
  show ((Sort.putRow enc (Sort.ahead w m) blk off dk).heap ++ os)[k]? = _
  rw [Array.getElem?_append_left h1]
  simp only [Sort.putRow, Sort.mapBlock, Sort.ahead]
  simp [Array.getElem?_modify, Ne.symm hne]

theorem HasQ.move {W W' : World} {v : Value} {l : List Q} (h : HasQ W v l) (e : ∀ k, v.ownBlock = some k → W'.heap[k]? = W.heap[k]?) : HasQ W' v l := by
  rcases h with h | ⟨a, cap, h1, h2, h3, h4⟩
  · exact .inl h
  · exact .inr ⟨a, cap, h1, h2, h3, h4.move (e _ (by rw [h1]; rfl))⟩
/-- A shape in the world W that does not lie in block g. -/
abbrev ShapeAt (W : World) (g : Nat) : Type := { x : Value × List Q // HasQ W x.1 x.2 ∧ ∀ k, x.1.ownBlock = some k → k < W.heap.size ∧ k ≠ g }
instance (W : World) (g : Nat) : Inhabited (ShapeAt W g) := ⟨⟨(.slice none 0 0, []), .inl ⟨rfl, rfl⟩, fun k h => by cases h⟩⟩
def shapeCmp {W : World} {g : Nat} (x y : ShapeAt W g) : Int := cmpL x.1.2 y.1.2
theorem shape_swo (W : World) (g : Nat) : Sort.SWO (ltOf (shapeCmp (W := W) (g := g))) where
  irrefl x := by simp [ltOf, shapeCmp, cmpL_self]
  trans x y z h1 h2 := by
    exact decide_eq_true (cmpL_trans (of_decide_eq_true h1) (of_decide_eq_true h2))
  ntrans x y z h1 h2 := by
    have h1 := of_decide_eq_false h1
    have h2 := of_decide_eq_false h2
    refine decide_eq_false (fun h => ?_)
    simp only [shapeCmp] at h h1 h2
    rcases cmpL_total x.1.2 y.1.2 with h3 | h3 | h3
    · exact h1 h3
    · rw [h3] at h; exact h2 h
    · exact h2 (cmpL_trans h3 h)

theorem sortQQ_any (base g cap : Nat) (vs : List Value) (ls : List (List Q)) (W : World) (hq : OwnQQ W base (.slice (some ⟨g, 0, none⟩) vs.length cap) vs ls) (hbase : base ≤ W.heap.size) (hn : vs.length ≤ 1000) :
    Calls Tryz.prog 91 #[.slice (some ⟨g, 0, none⟩) vs.length cap, .func (.func 92) #[] #[]] W fun e W' =>
      e = .returned (.tuple #[]) ∧ ∃ ls', ls'.Perm ls ∧ ls'.Pairwise (fun a b => ¬ cmpL b a < 0) ∧ HasQQ W' (.slice (some ⟨g, 0, none⟩) ls'.length cap) ls' ∧ ls'.length = vs.length ∧ Below base W W' := by
  obtain ⟨hg, hgW⟩ := hq.row.lt g rfl
  have hprop : ∀ i : Fin vs.length, HasQ W vs[i] (ls[i.1]'(by rw [← hq.len]; exact i.2)) ∧ ∀ k, (vs[i]).ownBlock = some k → k < W.heap.size ∧ k ≠ g := fun i => by
    have h1 := hq.each i.1 vs[i] (ls[i.1]'(by rw [← hq.len]; exact i.2)) (List.getElem?_eq_getElem i.2) (List.getElem?_eq_getElem _)
    refine ⟨h1.has, fun k hk => ⟨(h1.lt k hk).2, fun e => ?_⟩⟩
    rcases h1.apart hq.row with h | h
    · rw [h] at hk; cases hk
    · subst e; exact h hk
  let d : Array (ShapeAt W g) := Array.ofFn (n := vs.length) fun i => ⟨(vs[i], ls[i.1]'(by rw [← hq.len]; exact i.2)), hprop i⟩
  have hds : d.size = vs.length := by simp [d]
  have hdget : ∀ j (hj : j < vs.length), d[j]! = ⟨(vs[j], ls[j]'(by rw [← hq.len]; exact hj)), hprop ⟨j, hj⟩⟩ := fun j hj => by
    have : j < d.size := by rw [hds]; exact hj
    rw [getElem!_pos d j this]
    simp [d]
  have hH : Sort.Holds (fun x : ShapeAt W g => x.1.1) W g 0 d := fun j hj => by
    rw [hds] at hj
    rw [hdget j hj, Nat.zero_add]
    refine ⟨?_, ?_⟩
    · have := hq.row.cells (g := g) rfl j vs[j] (List.getElem?_eq_getElem hj)
      rwa [add_at] at this
    · rcases hq.row.2 with ⟨h, _⟩ | ⟨g', cap', cur, hv, _, h2, _⟩
      · cases h
      · simp only [Value.slice.injEq, Option.some.injEq, Addr.mk.injEq, and_true] at hv
        obtain ⟨rfl, _⟩ := hv
        exact frozen_of_row W _ j _ _ h2
  have hone : OneCell (fun x : ShapeAt W g => x.1.1) := fun x => by
    show x.1.1.oneCell' = true
    rcases x.2.1 with ⟨h, _⟩ | ⟨a, c, h, _⟩ <;> rw [h] <;> rfl
  have hcmp : CmpLays1 Tryz.prog 92 #[] (fun x : ShapeAt W g => x.1.1) shapeCmp g 0 d.size W := fun m os dk _ x y => by
    have mv : ∀ z : ShapeAt W g, HasQ (sortWorld (fun x : ShapeAt W g => x.1.1) W g 0 m dk os) z.1.1 z.1.2 := fun z => z.2.1.move (fun k hk => sortWorld_other _ W g 0 m dk os (z.2.2 k hk).1 (z.2.2 k hk).2)
    exact sortedCmp_any x.1.2 y.1.2 x.1.1 y.1.1 _ (mv x) (mv y)
  have hcon := Any.slices_SortFunc Tryz.sortQQ (fun x : ShapeAt W g => x.1.1) hone shapeCmp (shape_swo W g) 92 #[] g 0 cap d W (enters_of Tryz.func92 (by kernel_rfl) rfl) hcmp hH hgW (by rw [hds]; omega)
  rw [hds] at hcon
  change Calls Tryz.prog 91 _ _ _ at hcon
  refine hcon.mono ?_
  rintro e W' ⟨rfl, d', nn, os, hp, hs, rfl⟩
  have hd's : d'.size = vs.length := hp.1.trans hds
  have hperm : d'.toList.Perm d.toList := by
    have := hp.2.2
    rwa [show d'.extract 0 vs.length = d' by rw [← hd's]; simp, show d.extract 0 vs.length = d by rw [← hds]; simp] at this
  have hdl : d.toList.map (fun x => x.1.2) = ls := by
    apply List.ext_getElem?
    intro i
    by_cases hi : i < vs.length
    · have h1 : i < ls.length := by rw [← hq.len]; exact hi
      rw [List.getElem?_map, List.getElem?_eq_getElem h1]
      simp [d, hi]
    · rw [List.getElem?_eq_none (by simp [hds]; omega), List.getElem?_eq_none (by rw [← hq.len]; omega)]
  have hlen' : (d'.toList.map (fun x => x.1.2)).length = vs.length := by simp [hd's]
  refine ⟨rfl, d'.toList.map (fun x => x.1.2), ?_, ?_, ?_, hlen', ?_⟩
  · rw [← hdl]; exact hperm.map _
  · rw [List.pairwise_map, List.pairwise_iff_getElem]
    intro i j hi hj hij
    have hi' : i < d'.size := by simpa using hi
    have hj' : j < d'.size := by simpa using hj
    have := hs i j (Nat.zero_le _) hij (by rw [← hd's]; exact hj')
    rw [getElem!_pos d' i hi', getElem!_pos d' j hj'] at this
    have := of_decide_eq_false this
    simpa [shapeCmp] using this
  · have hH' : Sort.Holds (fun x : ShapeAt W g => x.1.1) (sortWorld (fun x : ShapeAt W g => x.1.1) W g 0 nn d' os) g 0 d' := by
      refine Sort.holds_grow _ _ os g 0 d' (by simpa [Sort.ahead] using hgW) ?_
      exact Sort.holds_putRow _ _ g 0 d d' hH hp.1
    rcases hq.row.2 with ⟨h, _⟩ | ⟨g', cap', cur, hv, _, h2, h3, h4, _⟩
    · cases h
    simp only [Value.slice.injEq, Option.some.injEq, Addr.mk.injEq, and_true] at hv
    obtain ⟨rfl, _, rfl⟩ := hv
    refine .inr ⟨_, cap, d'.toList.map (fun x => x.1.1), rfl, by rw [hlen']; exact h3, h4, ⟨?_, fun i v hv => ?_⟩, by simp, fun i u l hu hl => ?_⟩
    · show g < _
      have := hgW
      simp [sortWorld, Sort.ahead]; omega
    · rw [List.getElem?_map, Option.map_eq_some_iff] at hv
      obtain ⟨x, hx, rfl⟩ := hv
      obtain ⟨hi, he⟩ := List.getElem?_eq_some_iff.1 hx
      have hi' : i < d'.size := by simpa using hi
      have := (hH' i hi').1
      rw [getElem!_pos d' i hi', Nat.zero_add] at this
      rw [add_at, this]
      simp only [← he, Array.getElem_toList]
    · rw [List.getElem?_map, Option.map_eq_some_iff] at hu hl
      obtain ⟨x, hx, rfl⟩ := hu
      obtain ⟨y, hy, rfl⟩ := hl
      rw [hx] at hy; cases hy
      exact x.2.1.move (fun k hk => sortWorld_other _ W g 0 nn d' os (x.2.2 k hk).1 (x.2.2 k hk).2)
  · refine ⟨rfl, rfl, rfl, by simp [sortWorld, Sort.ahead], fun k hk => sortWorld_other _ W g 0 nn d' os (by omega) (by omega)⟩

theorem one_at (W : World) (T : TypeId) (v : Value) : ∀ (j : Nat) (u : Value), [v][j]? = some u → (W.alloc (.cells #[v] T)).cell? ((⟨W.heap.size, 0, none⟩ : Addr).add j) = some u := by
  intro j u h
  rw [add_at]
  exact row_new W [v] T j u h
set_option maxRecDepth 100000 in
set_option maxHeartbeats 4000000 in
theorem sorted_any (l : List Grid) (hl : l ≠ []) (hlen : l.length ≤ 1000) (hn : l.Nodup) (hok : ∀ x ∈ l, okG x) (b : Nat) (w : World) (hm : HasM gridV w b (setM l)) :
    Calls Tryz.prog 73 #[.map (some b)] w fun e w' => ∃ v ls, e = .returned v ∧ HasQQ w' v ls ∧ ls.Perm (l.map listG) ∧ ls.Pairwise (fun a b => cmpL a b < 0) ∧ Below w.heap.size w w' := by
  have HN := Lib.hid hn; clear hn
  have HOK := Lib.hid hok; clear hok
  have HL := Lib.hid hl; clear hl
  have hrange := run_range_M (P := Tryz.prog) Tryz.underlying78 hm
  go_enter Tryz.func73, Tryz.ntmps73
  go_wp2
  clear hrange
  have hit := HasIter.start w b (setM l).length
  have hm0 := hm.alloc (.mapIter (some b) (setM l).length #[] (setM l).length)
  have hB0 : Below w.heap.size w (w.alloc (.mapIter (some b) (setM l).length #[] (setM l).length)) := (Below.refl _ w).alloc (Nat.le_refl _) _
  revert hit hm0 hB0
  generalize w.alloc (.mapIter (some b) (setM l).length #[] (setM l).length) = W0
  intro hit hm0 hB0
  have hsl : (setM l).length = l.length := by simp [setM]
  have HSL := Lib.hid hsl; clear hsl
  go_loopw [2] (fun v wr => ∃ (done : List Nat) (vs : List Value) (ls : List (List Q)), Hid (HasIter wr w.heap.size b (setM l).length done ∧ HasM gridV wr b (setM l) ∧ done.Nodup ∧ (∀ i ∈ done, i < l.length) ∧ OwnQQ wr (w.heap.size + 1) v vs ls ∧ ls = done.map (fun i => listG (l.getD i zeroG)) ∧ Below w.heap.size w wr ∧ w.heap.size + 1 ≤ wr.heap.size)) (fun v _ => l.length - lenV v)
  case atStart => exact ⟨[], [], [], Lib.hid ⟨hit, hm0, by simp, by simp, OwnQQ.nil _ _, rfl, hB0, Nat.lt_of_lt_of_le (Nat.lt_succ_self _) (by have := hit.lt; omega)⟩⟩
  case round =>
    obtain ⟨done, vs, ls, HR⟩ := hrel
    obtain ⟨hit, hm1, hdn, hdl, hq, hls, hB, hsz⟩ := HR.out
    obtain ⟨p', c', rfl⟩ := own_slice hq.row
    have hl1 : (setM l).length = l.length := HSL.out
    have hdlen : done.length ≤ l.length := nodup_lt_length _ _ hdn hdl
    have hvl : vs.length = done.length := by rw [hq.len, hls, List.length_map]
    clear HR
    have HQ := Lib.hid hq; clear hq
    have HLS := Lib.hid hls; clear hls
    have HD := Lib.hid hdn; clear hdn
    have HDL := Lib.hid hdl; clear hdl
    have HVL := Lib.hid hvl; clear hvl
    clear hl1
    go_wp2_with (first
      | (at_next; refine wpList_next_M rfl _ rfl rfl hit hm1 ?_ ?_)
      | go_in)
    · intro hall
      have hall' : ∀ i, i < l.length → i ∈ done := fun i hi => hall i (by rw [HSL.out]; exact hi)
      have hperm : ls.Perm (l.map listG) := by
        have h1 : done.Perm (List.range l.length) := (List.perm_ext_iff_of_nodup HD.out List.nodup_range).2 (fun i => ⟨fun h => by simpa using HDL.out i h, fun h => hall' i (by simpa using h)⟩)
        rw [HLS.out]
        refine (h1.map _).trans ?_
        have h2 : (List.range l.length).map (fun i => listG (l.getD i zeroG)) = l.map listG := by
          apply List.ext_getElem?
          intro i
          by_cases hi : i < l.length
          · simp [List.getElem?_map, hi, List.getD_eq_getElem?_getD]
          · rw [List.getElem?_eq_none (by simp; omega), List.getElem?_eq_none (by simp; omega)]
        rw [h2]
      clear hall hall'
      have HP := Lib.hid hperm; clear hperm
      have hl0 : 0 < vs.length := by
        rw [HQ.out.len, HP.out.length_eq, List.length_map]
        exact List.length_pos_iff.2 HL.out
      have HL0 := Lib.hid hl0; clear hl0
      obtain ⟨g, rfl⟩ : ∃ g, p' = some ⟨g, 0, none⟩ := by
        rcases HQ.out.row.2 with ⟨_, h0⟩ | ⟨g, cap, cur, hv, _⟩
        · have := HL0.out; omega
        · simp only [Value.slice.injEq] at hv; exact ⟨g, hv.1⟩
      have hlen2 : vs.length ≤ 1000 := by have := HVL.out; omega
      have HS := Lib.hid (sortQQ_any (w.heap.size + 1) g c' vs ls wr HQ.out hsz hlen2)
      clear hlen2
      go_wp2_with fail
      refine HS.out.mono ?_
      rintro e w2 ⟨rfl, ls', hp', hs', hv', hlen', hB'⟩
      have hBf : Below w.heap.size w w2 := hB.trans (hB'.mono (Nat.le_succ _))
      have HF : Hid (HasQQ w2 (.slice (some ⟨g, 0, none⟩) vs.length c') ls' ∧ ls'.Perm (l.map listG) ∧ ls'.Pairwise (fun a b => cmpL a b < 0)) := Lib.hid (by
        refine ⟨by rw [← hlen']; exact hv', hp'.trans HP.out, ?_⟩
        have hnd : ls'.Nodup := by
          refine ((hp'.trans HP.out).nodup_iff).2 ?_
          exact nodup_map_on HN.out (fun a ha b hb e => listG_inj (HOK.out a ha) (HOK.out b hb) e)
        have hs2 : ls'.Pairwise (fun a b => ¬ cmpL b a < 0) := hs'.imp (fun {a b} h => by omega)
        have hand : ls'.Pairwise (fun a b => ¬ cmpL b a < 0 ∧ a ≠ b) := hs2.and hnd
        exact hand.imp (fun {a b} h => by
          rcases cmpL_total a b with h1 | h1 | h1
          · exact h1
          · exact absurd h1 h.2
          · exact absurd h1 h.1))
      clear hp' hs' hv' hlen' HS
      go_wp2_with fail
      go_ret
      exact ⟨_, _, rfl, HF.out.1, HF.out.2.1, HF.out.2.2, hBf⟩
    · intro i x xv w1 hpe hnew hit1 hgr hsz1 hen
      have hi : i < l.length := by
        have := (List.getElem?_eq_some_iff.1 hpe).1
        rwa [HSL.out] at this
      have hx : l[i]? = some x ∧ xv = .bool true := by
        simp only [setM, List.getElem?_map, Option.map_eq_some_iff, Prod.mk.injEq] at hpe
        obtain ⟨y, hy, rfl, rfl⟩ := hpe
        exact ⟨hy, rfl⟩
      obtain ⟨hx, rfl⟩ := hx
      clear hpe
      have hokx : okG x := HOK.out x (List.mem_of_getElem? hx)
      have HX := Lib.hid hx; clear hx
      have HLT : Hid (done.length + 1 ≤ l.length) := Lib.hid (by
        have := nodup_lt_length l.length (done ++ [i]) (by
          rw [List.nodup_append]
          exact ⟨HD.out, by simp, fun a ha b hb e => hnew (by rw [List.mem_singleton.1 hb] at e; rw [← e]; exact ha)⟩) (fun j hj => by
          rcases List.mem_append.1 hj with h | h
          · exact HDL.out j h
          · rw [List.mem_singleton.1 h]; exact hi)
        simpa using this)
      have HB1 : Below w.heap.size w w1 := (hB.grown hgr hB.size (fun j hj => by cases hj; exact Nat.le_refl _))
      have hm2 := hm1.grown hgr (by have := hit.lt; have := hm.lt; intro e; cases e; omega)
      have hne : ∀ k, (Value.slice p' vs.length c').ownBlock = some k → k ≠ w.heap.size := fun k hk => by have := (HQ.out.row.lt k hk).1; omega
      have hq1 : OwnQQ w1 (w.heap.size + 1) (.slice p' vs.length c') vs ls := by
        refine ⟨HQ.out.row.kept hgr ?_, HQ.out.len, fun j u m hu hmm => (HQ.out.each j u m hu hmm).kept hgr ?_⟩
        · by_cases hv : (Value.slice p' vs.length c').ownBlock = none
          · exact .inl hv
          · exact .inr (fun e => hne _ e rfl)
        · by_cases hv : u.ownBlock = none
          · exact .inl hv
          · exact .inr (fun e => by have := ((HQ.out.each j u m hu hmm).lt _ e).1; omega)
      have HQ1 := Lib.hid hq1; clear hq1
      have hsz2 : w.heap.size + 1 ≤ w1.heap.size := by omega
      have hG1 := HasG.new w1 x
      clear hgr hm1 hsz1
      have HLIST : Hid (∀ W, Calls Tryz.prog 59 #[gridV x] W fun e w' => ∃ v, e = .returned v ∧ OwnQ w' W.heap.size v (listG x) ∧ Below W.heap.size W w') := Lib.hid (fun W => list_any x hokx W)
      go_wp2_with (first
        | (refine wpList_store_row rfl 76 _ _ rfl w1.heap.size rfl 76 _ (gridA x) rfl (World.alloc_heap_new w1 _) (by rw [size_gridA]; exact sizeG) (by rw [gridA_zero, size_gridA, size_gridA]) (gridA_one _) ?_; rw [World.setRow_alloc_new])
        | (refine wpList_load_row rfl 76 _ rfl w1.heap.size rfl 76 (gridA x) (0, 0) _ hG1 Tryz.underlying76 rfl (by rw [size_gridA]; exact sizeG) ?_))
      refine (HLIST.out _).mono ?_
      rintro e w3 ⟨u, rfl, hu, hB3⟩
      have hal : Below w1.heap.size w1 (w1.alloc (.cells (gridA x) 76)) := Below.alloc (Below.refl _ w1) (Nat.le_refl _) _
      have hw3 : Below w1.heap.size w1 w3 := hal.trans (hB3.mono (by simp))
      have hq3 := HQ1.out.below hw3
      have hit3 := hit1.below hw3
      have hm3 := hm2.below hw3
      have hBw3 := HB1.trans (hw3.mono HB1.size)
      have hsz3 : w.heap.size + 1 ≤ w3.heap.size := Nat.le_trans hsz2 hw3.size
      have hu3 : OwnQ w3 (w.heap.size + 1) u (listG x) := OwnQ.mono hu (by simp; omega)
      clear hG1 hal hw3 hit1 hm2 HB1 HQ1 hu HLIST hB3 hen
      obtain ⟨up, uc, rfl⟩ := own_slice hu3
      have HIT := Lib.hid hit3; clear hit3
      have HM3 := Lib.hid hm3; clear hm3
      have HU3 := Lib.hid hu3; clear hu3
      have HQ3 := Lib.hid hq3; clear hq3
      have hvl := HVL.out
      have HM1 : Hid (vs.length + 1 ≤ maxLen) := Lib.hid (by simp only [maxLen]; omega)
      have HM2 : Hid ((vs.length + 1) * 24 ≤ 140737488355328) := Lib.hid (by omega)
      clear hvl
      obtain ⟨iQ, hiQ, hzQ, hsQ, hbQ⟩ := info_parts infoQs
      go_wp2_with (first
        | (at_builtin; refine wpList_append_own _ rfl _ _ 43 rfl (w.heap.size + 1) 22 iQ _ 1 24 Tryz.underlying43 hiQ hzQ hsQ hbQ rfl (by decide) (.slice p' vs.length c') vs.length vs rfl (HQ3.out.row.alloc _) ⟨w3.heap.size, 0, none⟩ 1 1 [.slice up (listG x).length uc] rfl rfl (one_at _ _ _) (by simp [Value.oneCell']) HM1.out HM2.out (by rw [World.size_alloc]; omega) ?_; intro v' w4 hown' hgrow _; obtain ⟨p'', c'', rfl⟩ := own_slice hown'))
      have hq4 := HQ3.out.snoc HU3.out hown' hgrow
      have hga : w3.grownBy w4 (Value.slice p' vs.length c').ownBlock := ⟨hgrow.os, hgrow.tape, hgrow.output, Nat.le_trans (by simp) hgrow.size, fun k hk hne => (hgrow.block k (by simp; omega) hne).trans (Below.heap_alloc _ _ _ hk)⟩
      have hrow : ∀ k, (Value.slice p' vs.length c').ownBlock = some k → w.heap.size + 1 ≤ k := fun k hk => (HQ3.out.row.lt k hk).1
      go_roundw
      case rel =>
        refine ⟨done ++ [i], vs ++ [.slice up (listG x).length uc], ls ++ [listG x], Lib.hid ⟨HIT.out.grown hga (fun e => by have := hrow _ e.symm; omega), HM3.out.grown hga (fun e => by have := hrow _ e.symm; have := hm.lt; omega), ?_, ?_, hq4, ?_, hBw3.grown hga hBw3.size (fun k hk => by have := hrow k hk; omega), Nat.le_trans hsz3 hga.size⟩⟩
        · rw [List.nodup_append]
          exact ⟨HD.out, by simp, fun a ha b hb e => hnew (by rw [List.mem_singleton.1 hb] at e; rw [← e]; exact ha)⟩
        · intro j hj
          rcases List.mem_append.1 hj with h | h
          · exact HDL.out j h
          · rw [List.mem_singleton.1 h]; exact hi
        · rw [List.map_append, HLS.out]
          simp [List.getD_eq_getElem?_getD, HX.out]
      case measure =>
        have h1 := HLT.out
        have h2 := HVL.out
        simp [lenV]
        omega

theorem freshL_length {α β : Type} [DecidableEq β] (f : α → β) : ∀ (l : List α) (seen : List β), (freshL f l seen).length ≤ l.length
  | [], _ => Nat.le_refl _
  | a :: l, seen => by
    unfold freshL
    split
    · exact Nat.le_succ_of_le (freshL_length f l seen)
    · simp only [List.length_cons]; exact Nat.succ_le_succ (freshL_length f l _)
theorem diffW_length (l : List Q) : (diffW l).length ≤ 8 := by
  unfold diffW freshW
  rw [List.length_map]
  exact freshL_length _ _ _
theorem imgs_perm {l : List Q} (hok : okQ l) (hne : l ≠ []) {L : List Grid} (hn : L.Nodup) (hm : ∀ x : Grid, x ∈ L ↔ ∃ v ∈ ways8, imgG (layG l) v = x) : (L.map listG).Perm (diffW l) := by
  have hokL : ∀ x ∈ L, okG x := fun x hx => by
    obtain ⟨v, _, rfl⟩ := (hm x).1 hx
    exact okG_img (okG_lay hok.1) v
  have hli : ∀ v : Way, listG (imgG (layG l) v) = imgW l v := fun v => (image_list hok hne v.1 v.2).1
  refine (List.perm_ext_iff_of_nodup (nodup_map_on hn (fun a ha b hb e => listG_inj (hokL a ha) (hokL b hb) e)) (diffW_nodup l)).2 (fun I => ?_)
  rw [mem_diffW, List.mem_map]
  constructor
  · rintro ⟨x, hx, rfl⟩
    obtain ⟨v, hv, rfl⟩ := (hm x).1 hx
    exact ⟨v, hv, (hli v).symm⟩
  · rintro ⟨v, hv, rfl⟩
    exact ⟨_, (hm _).2 ⟨v, hv, rfl⟩, hli v⟩

set_option maxRecDepth 100000 in
set_option maxHeartbeats 1000000 in
theorem Images_any (l : List Q) (v : Value) (w : World) (h : HasQ w v l) :
    Calls Tryz.prog 40 #[v] w fun e w' => ∃ u ls, e = .returned (.tuple #[u, .int .i64 (checkN l)]) ∧ HasQQ w' u ls ∧ (checkN l ≠ 0 → ls = []) ∧ (checkN l = 0 → ls.Perm (diffW l) ∧ ls.Pairwise (fun a b => cmpL a b < 0)) ∧ Below w.heap.size w w' := by
  have H := Lib.hid h; clear h
  go_enter Tryz.func40, Tryz.ntmps40
  go_wp2_with fail
  refine (check_any l v w H.out).mono ?_
  rintro e w1 ⟨rfl, hB1⟩
  by_cases hc : checkN l = 0
  case neg =>
    have hc1 : ((checkN l : Int) != 0) = true := by simpa using hc
    have HC := Lib.hid hc; clear hc
    go_wp2_with fail
    go_ret2
    exact ⟨.slice none 0 0, [], rfl, .inl ⟨rfl, rfl⟩, fun _ => rfl, fun h => absurd h HC.out, hB1⟩
  have hc1 : ((checkN l : Int) != 0) = false := by simpa using hc
  have HC := Lib.hid hc; clear hc
  obtain ⟨okl, hne, hlen⟩ := checkN_ok HC.out
  have HOK := Lib.hid okl; clear okl
  have HNE := Lib.hid hne; clear hne hlen
  go_wp2_with fail
  refine (lay_any l HOK.out.1 v w1 (H.out.below hB1)).mono ?_
  rintro e w2 ⟨rfl, hB2⟩
  go_wp2_with fail
  refine (images_any (layG l) (okG_lay HOK.out.1) w2).mono ?_
  rintro e w3 ⟨b, L, rfl, hb, hm, hn, hmem, hB3⟩
  have hp := imgs_perm HOK.out HNE.out hn hmem
  have hL8 : L.length ≤ 8 := by
    have := hp.length_eq
    have := diffW_length l
    rw [List.length_map] at *; omega
  have hLne : L ≠ [] := fun e => by
    have : imgG (layG l) (false, 0) ∈ L := (hmem _).2 ⟨(false, 0), by decide, rfl⟩
    rw [e] at this; cases this
  have hokL : ∀ x ∈ L, okG x := fun x hx => by
    obtain ⟨v, _, rfl⟩ := (hmem x).1 hx
    exact okG_img (okG_lay HOK.out.1) v
  have HP := Lib.hid hp; clear hp
  have HS := Lib.hid (sorted_any L hLne (by omega) hn hokL b w3 hm)
  clear hmem hokL hL8 hLne hn
  have hB := (hB1.trans (hB2.mono hB1.size)).trans (hB3.mono (Nat.le_trans hB1.size hB2.size))
  go_wp2_with fail
  refine HS.out.mono ?_
  rintro e w4 ⟨u, ls, rfl, hq, hpl, hs, hB4⟩
  have HF : Hid (HasQQ w4 u ls ∧ ls.Perm (diffW l) ∧ ls.Pairwise (fun a b => cmpL a b < 0)) := Lib.hid ⟨hq, hpl.trans HP.out, hs⟩
  clear hq hpl hs HS
  go_wp2_with fail
  go_ret2
  refine ⟨u, ls, by rw [HC.out]; rfl, HF.out.1, fun h => absurd HC.out h, fun _ => HF.out.2, hB.trans (hB4.mono hB.size)⟩
end Go.Proofs.YtimnmfjbfbkooaaGreatDoor
