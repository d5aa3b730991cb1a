/- Places. -/
import Derived.Maps.OwnIn
import Derived.Test.YtimnmfjbfbkooaaGreatDoorPc
namespace Go.Proofs.YtimnmfjbfbkooaaGreatDoor
set_option linter.all false
set_option linter.unusedSimpArgs false
set_option linter.unusedVariables false
open Go.RowKit
attribute [local go_sem] Oper.semAt_some

/-! ### Slices of places -/
def pVals (p : Plc) : List Value := [.bool p.m, .int .i64 p.t, .int .i64 p.x, .int .i64 p.y]
def pCells (l : List Plc) : List Value := l.flatMap pVals
theorem pCells_length (l : List Plc) : (pCells l).length = l.length * 4 := by
  induction l with
  | nil => rfl
  | cons a l ih => simp only [pCells, List.flatMap_cons, List.length_append, List.length_cons] at ih ⊢; rw [ih]; simp [pVals]; omega
theorem pCells_get : ∀ {l : List Plc} {i : Nat} {q : Plc}, l[i]? = some q → ∀ j, j < 4 → (pCells l)[i * 4 + j]? = (pVals q)[j]?
  | a :: l, 0, q, h, j, hj => by
    simp at h; subst h
    simp only [pCells, List.flatMap_cons, Nat.zero_mul, Nat.zero_add]
    rw [List.getElem?_append_left (by simp [pVals]; omega)]
  | a :: l, i + 1, q, h, j, hj => by
    have := pCells_get (l := l) (i := i) (by simpa using h) j hj
    simp only [pCells, List.flatMap_cons] at this ⊢
    rw [List.getElem?_append_right (by simp [pVals]; omega)]
    have e : (i + 1) * 4 + j - (pVals a).length = i * 4 + j := by simp [pVals]; omega
    rw [e]; exact this
theorem pCells_snoc (l : List Plc) (q : Plc) : pCells (l ++ [q]) = pCells l ++ pVals q := by simp [pCells]
abbrev OwnP (W : World) (base : Nat) (v : Value) (l : List Plc) : Prop := W.ownsRow base 33 4 v l.length (pCells l)
theorem ownP_snoc {W : World} {base : Nat} {v : Value} {es : List Plc} {e : Plc} (h : W.ownsRow base 33 4 v (es.length + 1) (pCells es ++ pVals e)) : OwnP W base v (es ++ [e]) := by
  show W.ownsRow base _ 4 v (es ++ [e]).length (pCells (es ++ [e]))
  rw [pCells_snoc, List.length_append]; exact h
structure PsAt (W : World) (a : Addr) (l : List Plc) : Prop where
  lt : a.block < W.heap.size
  at_ : ∀ (i : Nat) (q : Plc), l[i]? = some q → ∀ (j : Nat) (u : Value), (pVals q)[j]? = some u → W.cell? (a.add (i * 4 + j)) = some u
theorem PsAt.move {W W' : World} {a : Addr} {l : List Plc} (h : PsAt W a l) (e : W'.heap[a.block]? = W.heap[a.block]?) : PsAt W' a l := by
  refine ⟨?_, fun i q hq j u hu => ?_⟩
  · have := h.lt
    have h1 : W.heap[a.block]? = some W.heap[a.block] := Array.getElem?_eq_getElem this
    exact (Array.getElem?_eq_some_iff.1 (e.trans h1)).1
  · exact (cell_of_block (x := a.add (i * 4 + j)) (by rw [block_add, e])).trans (h.at_ i q hq j u hu)
theorem PsAt.below {W W' : World} {a : Addr} {l : List Plc} (h : PsAt W a l) (e : Below W.heap.size W W') : PsAt W' a l := h.move (e.block _ h.lt)
def HasP (W : World) (v : Value) (l : List Plc) : Prop :=
  (v = .slice none 0 0 ∧ l = []) ∨ ∃ (a : Addr) (cap : Nat), v = .slice (some a) l.length cap ∧ l.length ≤ cap ∧ cap ≤ maxLen ∧ PsAt W a l
theorem HasP.below {W W' : World} {v : Value} {l : List Plc} (h : HasP W v l) (e : Below W.heap.size W W') : HasP W' v l := by
  rcases h with h | ⟨a, cap, h1, h2, h3, h4⟩
  · exact .inl h
  · exact .inr ⟨a, cap, h1, h2, h3, h4.below e⟩
theorem HasP.move {W W' : World} {v : Value} {l : List Plc} (h : HasP W v l) (e : ∀ k, v.ownBlock = some k → W'.heap[k]? = W.heap[k]?) : HasP W' v l := by
  rcases h with h | ⟨a, cap, h1, h2, h3, h4⟩
  · exact .inl h
  · exact .inr ⟨a, cap, h1, h2, h3, h4.move (e _ (by rw [h1]; rfl))⟩
theorem OwnP.has {W : World} {base : Nat} {v : Value} {l : List Plc} (h : OwnP W base v l) : HasP W v l := by
  rcases h.2 with ⟨rfl, h0⟩ | ⟨g, cap, cur, rfl, h1, h2, h3, h4, h5⟩
  · exact .inl ⟨rfl, List.length_eq_zero_iff.1 h0⟩
  · refine .inr ⟨_, cap, rfl, h3, h4, (h.lt g rfl).2, fun i q hq j u hu => ?_⟩
    have hj : j < 4 := by have := (List.getElem?_eq_some_iff.1 hu).1; simpa [pVals] using this
    have hc := World.ownsRow.cells h (g := g) rfl
    refine hc _ _ ?_
    rw [pCells_get hq j hj]; exact hu
theorem infoP : (Tryz.prog.info? 33).map (fun i => (i.zero, i.size, i.bytes)) = some (some (.agg #[.bool false, .int .i64 0, .int .i64 0, .int .i64 0]), 4, 32) := by kernel_rfl
theorem pVals_at {W : World} {T : TypeId} (q : Plc) : ∀ (j : Nat) (u : Value), (pVals q)[j]? = some u → (W.alloc (.cells #[.bool q.m, .int .i64 q.t, .int .i64 q.x, .int .i64 q.y] T)).cell? ((⟨W.heap.size, 0, none⟩ : Addr).add j) = some u := by
  intro j u h
  rw [add_at]
  exact row_new W (pVals q) T j u h
theorem pVals_one (q : Plc) : ∀ u ∈ pVals q, u.oneCell' = true := by
  intro u hu
  simp [pVals] at hu
  rcases hu with rfl | rfl | rfl | rfl <;> rfl
def placesC (l g : List Q) : List Plc × Nat := if checks [l, g] ≠ 0 then ([], checks [l, g]) else (placesL l g, 0)
theorem two_shapes {W : World} {u v : Value} {l g : List Q} (hu : HasQ W u l) (hv : HasQ W v g) : HasQQ (W.alloc (.cells #[u, v] 22)) (.slice (some ⟨W.heap.size, 0, none⟩) 2 2) [l, g] := by
  have hal : Below W.heap.size W (W.alloc (.cells #[u, v] 22)) := (Below.refl _ W).alloc (Nat.le_refl _) _
  refine .inr ⟨_, 2, [u, v], rfl, Nat.le_refl _, by decide, ⟨by simp, fun i x hx => ?_⟩, rfl, fun i x m hx hm => ?_⟩
  · rw [add_at]
    exact row_new W [u, v] _ i x hx
  · match i, hx, hm with
    | 0, hx, hm => simp at hx hm; subst hx; subst hm; exact hu.below hal
    | 1, hx, hm => simp at hx hm; subst hx; subst hm; exact hv.below hal
    | i + 2, hx, hm => simp at hx

theorem results_cell_tmp {fn : Func} {p q : Tmp} {T : TypeId} (h : fn.results = #[.cell p T, .tmp q]) (hT : ∀ w, (isAgg T).run Tryz.prog w = .ok false w) (tmps : Array Value) (w : World) (b : Nat) (v z : Value) (hp : tmps.getD p undef = .pointer (some ⟨b, 0, none⟩)) (hb : Boxed w b T v)
    (hq : tmps.getD q undef = z) : (results fn tmps).run Tryz.prog w = .ok (.tuple #[v, z]) w := by
  have hp' : tmps[p]?.getD undef = .pointer (some ⟨b, 0, none⟩) := by simpa using hp
  have hq' : tmps[q]?.getD undef = z := by simpa using hq
  have e2 := loadVar_box hT w b v hb
  simp [results, h, hp', hq', asAddr, e2]
theorem HasQ.slice {W : World} {v : Value} {l : List Q} (h : HasQ W v l) : ∃ p c, v = .slice p l.length c := by
  rcases h with ⟨rfl, rfl⟩ | ⟨a, c, rfl, _⟩
  · exact ⟨_, _, rfl⟩
  · exact ⟨_, _, rfl⟩
/-- What holds between two rounds of the range over the ways. -/
def plI (w : World) (m0 : Nat) (l g : List Q) (bs : List Nat) (k : Nat) (W : World) : Prop :=
  ∃ (L : List Grid) (v : Value), HasM gridV W m0 (setM L) ∧ (L.Nodup ∧ ∀ x, x ∈ L ↔ ∃ i, i < k ∧ imgG (layG l) (wayN i) = x) ∧ HasG W (m0 + 1) (layG g) ∧ Boxed W (m0 + 1 + 1) 78 (.map (some m0)) ∧
    Boxed W w.heap.size 25 v ∧ OwnP W (m0 + 3) v (partW l g k) ∧ ((partW l g k).length ≤ 289 * k ∧ ∀ c ∈ bs, v.ownBlock ≠ some c) ∧ Below w.heap.size w W
theorem plI_stab {w : World} {m0 B : Nat} (h : m0 + 3 ≤ B) (hw : w.heap.size < m0) (l g : List Q) (bs : List Nat) (k : Nat) : Stab B (plI w m0 l g bs k) := by
  rintro W W' ⟨L, v, h1, h2, h3, h4, h5, h6, h7, h8⟩ e
  exact ⟨L, v, Stab.hasM (B := B) (by omega) _ _ W W' h1 e, h2, Stab.hasG B _ _ W W' h3 e, Stab.boxed B _ _ _ W W' h4 e, Stab.boxed B _ _ _ W W' h5 e, Stab.owns B _ _ _ _ _ _ W W' h6 e, h7, Stab.below (B := B) (by omega) (Nat.le_refl _) W W' h8 e⟩
/-- What holds within a round. -/
structure PB (w W2 wr : World) (B m0 tb ib b : Nat) (o : Obj) (g : List Q) (L : List Grid) (I : Grid) (v : Value) (pl : List Plc) : Prop where
  map : HasM gridV wr m0 (setM L)
  ground : HasG wr (m0 + 1) (layG g)
  box : Boxed wr (m0 + 1 + 1) 78 (.map (some m0))
  res : Boxed wr w.heap.size 25 v
  own : OwnP wr (m0 + 3) v pl
  img : HasG wr ib I
  obj : wr.heap[b]? = some o
  keeps : KeepsFrom B W2 wr
  below : Below w.heap.size w wr
  apart : ∀ k, v.ownBlock = some k → k ≠ b ∧ k ≠ tb ∧ k ≠ ib
  size : m0 + 3 ≤ tb ∧ m0 + 3 ≤ ib ∧ m0 + 3 ≤ b ∧ b ≠ tb ∧ b ≠ ib ∧ tb ≠ ib ∧ w.heap.size < m0

theorem old_iff {l : List Q} (h : okQ l) (hl : l ≠ []) (k : Nat) : (∃ i, i < k ∧ imgW l (wayN i) = imgW l (wayN k)) ↔ ∃ i, i < k ∧ imgG (layG l) (wayN i) = imgG (layG l) (wayN k) := by
  constructor
  · rintro ⟨i, hi, e⟩
    refine ⟨i, hi, listG_inj (okG_img (okG_lay h.1) _) (okG_img (okG_lay h.1) _) ?_⟩
    rw [list_img h hl, list_img h hl, e]
  · rintro ⟨i, hi, e⟩
    exact ⟨i, hi, by rw [← list_img h hl, ← list_img h hl, e]⟩
theorem own_kept_map {W : World} {base m0 : Nat} {e : TypeId} {size n : Nat} {v : Value} {xs : List Value} (h : W.ownsRow base e size v n xs) (hm : m0 < base) {W' : World} (g : W.grownBy W' (some m0)) : W'.ownsRow base e size v n xs := by
  refine h.kept g ?_
  by_cases hv : v.ownBlock = none
  · exact .inl hv
  · exact .inr (fun e' => by have := (h.lt _ e').1; omega)
theorem PB.put {w W2 wr : World} {B m0 tb ib b : Nat} {o : Obj} {g : List Q} {L : List Grid} {I : Grid} {v : Value} {pl : List Plc} (h : PB w W2 wr B m0 tb ib b o g L I v pl) (hB : m0 < B) (L' : List Grid) : PB w W2 (putM gridV wr m0 (setM L')) B m0 tb ib b o g L' I v pl := by
  obtain ⟨s1, s2, s3, s4, s5, s6, s7⟩ := h.size
  exact ⟨HasM.put h.map.lt _, (putM_other wr (by omega) _).trans h.ground, (putM_other wr (by omega) _).trans h.box, (putM_other wr (by omega) _).trans h.res, own_kept_map h.own (by omega) (putM_grown wr m0 _),
    (putM_other wr (by omega) _).trans h.img, (putM_other wr (by omega) _).trans h.obj, h.keeps.trans ⟨by rw [putM_size]; exact Nat.le_refl _, fun j o' hj hjo _ => (putM_other wr (by omega) _).trans hjo⟩, h.below.trans (putM_below wr (by omega) _), h.apart, h.size⟩
theorem PB.keep {w W2 wr wr' : World} {B m0 tb ib b : Nat} {o : Obj} {g : List Q} {L : List Grid} {I : Grid} {v : Value} {pl : List Plc} (h : PB w W2 wr B m0 tb ib b o g L I v pl) (e : Below wr.heap.size wr wr') : PB w W2 wr' B m0 tb ib b o g L I v pl :=
  ⟨h.map.below e, h.ground.below e, (e.block _ h.box.lt).trans h.box, (e.block _ h.res.lt).trans h.res, owns_below h.own e, h.img.below e, (e.block _ (Array.getElem?_eq_some_iff.1 h.obj).1).trans h.obj,
    h.keeps.trans ⟨e.size, fun k o' _ hk _ => (e.block _ (Array.getElem?_eq_some_iff.1 hk).1).trans hk⟩, h.below.trans (e.mono h.below.size), h.apart, h.size⟩
theorem PB.cell {w W2 wr : World} {B m0 tb ib b : Nat} {o : Obj} {g : List Q} {L : List Grid} {I : Grid} {v : Value} {pl : List Plc} (h : PB w W2 wr B m0 tb ib b o g L I v pl) {cs : Array Value} {T : TypeId} (ht : wr.heap[tb]? = some (.cells cs T)) (j : Nat) (u : Value) : PB w W2 (wr.setCell ⟨tb, j, none⟩ u) B m0 tb ib b o g L I v pl := by
  obtain ⟨s1, s2, s3, s4, s5, s6, s7⟩ := h.size
  have oth : ∀ {k : Nat} {x : Obj}, k ≠ tb → wr.heap[k]? = some x → (wr.setCell ⟨tb, j, none⟩ u).heap[k]? = some x := fun hk hx => (heap_setCell_other wr _ _ u hk).trans hx
  have hsz : (wr.setCell ⟨tb, j, none⟩ u).heap.size = wr.heap.size := by simp
  refine ⟨oth (by omega) h.map, oth (by omega) h.ground, oth (by omega) h.box, oth (by omega) h.res, ?_, oth (by omega) h.img, oth (by omega) h.obj,
    h.keeps.trans ⟨by rw [hsz]; exact Nat.le_refl _, fun k o' _ hk ho => ?_⟩, h.below.setCell (by simp; omega) _, h.apart, h.size⟩
  · have hg : wr.grownBy (wr.setCell ⟨tb, j, none⟩ u) (some tb) := ⟨rfl, rfl, rfl, by rw [hsz]; exact Nat.le_refl _, fun k _ hk => heap_setCell_other wr _ _ u (fun e => hk (by rw [e]))⟩
    refine World.ownsRow.kept h.own hg ?_
    by_cases hv : v.ownBlock = none
    · exact .inl hv
    · exact .inr (fun e' => (h.apart _ e').2.1 rfl)
  · by_cases hk' : k = tb
    · subst hk'; rw [ht] at hk; cases hk; cases ho
    · exact oth hk' hk
theorem plc_set3 {W : World} {tb : Nat} {a b c d : Value} {T : TypeId} (h : W.heap[tb]? = some (.cells #[a, b, c, d] T)) (u : Value) : (W.setCell ⟨tb, 3, none⟩ u).heap[tb]? = some (.cells #[a, b, c, u] T) := by
  obtain ⟨hlt, hk⟩ := Array.getElem?_eq_some_iff.1 h
  show (W.heap.modify tb _)[tb]? = _
  rw [Array.getElem?_eq_getElem (by rw [Array.size_modify]; exact hlt), Array.getElem_modify_self, hk]
  rfl
theorem plc_set2 {W : World} {tb : Nat} {a b c d : Value} {T : TypeId} (h : W.heap[tb]? = some (.cells #[a, b, c, d] T)) (u : Value) : (W.setCell ⟨tb, 2, none⟩ u).heap[tb]? = some (.cells #[a, b, u, d] T) := by
  obtain ⟨hlt, hk⟩ := Array.getElem?_eq_some_iff.1 h
  show (W.heap.modify tb _)[tb]? = _
  rw [Array.getElem?_eq_getElem (by rw [Array.size_modify]; exact hlt), Array.getElem_modify_self, hk]
  rfl
theorem PB.append {w W2 wr w8 : World} {B m0 tb ib b : Nat} {o : Obj} {g : List Q} {L : List Grid} {I : Grid} {v v' : Value} {pl : List Plc} {p : Plc} {O : Obj} (h : PB w W2 wr B m0 tb ib b o g L I v pl) {cs : Array Value} {T : TypeId} (ht : wr.heap[tb]? = some (.cells cs T))
    (hown : w8.ownsRow (m0 + 3) 33 4 v' (pl.length + 1) (pCells pl ++ pVals p)) (hg : (wr.alloc O).grownBy w8 v.ownBlock) (hat : v'.ownBlock = v.ownBlock ∨ v'.ownBlock = some (wr.alloc O).heap.size) :
    PB w W2 (w8.setCell ⟨w.heap.size, 0, none⟩ v') B m0 tb ib b o g L I v' (pl ++ [p]) ∧ (w8.setCell ⟨w.heap.size, 0, none⟩ v').heap[tb]? = some (.cells cs T) := by
  obtain ⟨s1, s2, s3, s4, s5, s6, s7⟩ := h.size
  have hlt : ∀ k, v.ownBlock = some k → m0 + 3 ≤ k ∧ k < wr.heap.size := fun k hk => World.ownsRow.lt h.own k hk
  have oth : ∀ {k : Nat} {x : Obj}, k ≠ w.heap.size → some k ≠ v.ownBlock → wr.heap[k]? = some x → (w8.setCell ⟨w.heap.size, 0, none⟩ v').heap[k]? = some x := fun {k x} hk hv hx =>
    (heap_setCell_other w8 _ _ v' hk).trans ((hg.block k (by have := (Array.getElem?_eq_some_iff.1 hx).1; simp; omega) hv).trans (heapO _ hx))
  have low : ∀ {k : Nat}, k < m0 + 3 → some k ≠ v.ownBlock := fun hk e => by have := (hlt _ e.symm).1; omega
  have hres8 : Boxed w8 w.heap.size 25 v := (hg.block _ (by have := h.res.lt; simp; omega) (low (by omega))).trans (heapO _ h.res)
  have hsz : wr.heap.size + 1 ≤ w8.heap.size := by have := hg.size; simpa using this
  refine ⟨⟨oth (by omega) (low (by omega)) h.map, oth (by omega) (low (by omega)) h.ground, oth (by omega) (low (by omega)) h.box, Boxed.set _ hres8, ?_, oth (by omega) (fun e => (h.apart _ e.symm).2.2 rfl) h.img, oth (by omega) (fun e => (h.apart _ e.symm).1 rfl) h.obj,
    h.keeps.trans ?_, ?_, fun k hk => ?_, h.size⟩, oth (by omega) (fun e => (h.apart _ e.symm).2.1 rfl) ht⟩
  · have hg2 : w8.grownBy (w8.setCell ⟨w.heap.size, 0, none⟩ v') (some w.heap.size) := grownBy_setCell' w8 _ v'
    refine World.ownsRow.kept (ownP_snoc hown) hg2 ?_
    by_cases hv : v'.ownBlock = none
    · exact .inl hv
    · exact .inr (fun e => by have := (hown.lt _ e).1; omega)
  · have k1 : KeepsFrom B wr (wr.alloc O) := ⟨by simp, fun k o' _ hk _ => heapO _ hk⟩
    have k2 : KeepsFrom B (wr.alloc O) w8 := keeps_grown hg (fun k hk => by
      rcases h.own.2 with ⟨hn, _⟩ | ⟨g', cap, cur, hn, _, h2, _⟩
      · rw [hn] at hk; cases hk
      · rw [hn] at hk
        simp only [Value.ownBlock, Option.some.injEq] at hk
        subst hk
        exact ⟨_, _, _, heapO _ h2⟩)
    have k3 : KeepsFrom B w8 (w8.setCell ⟨w.heap.size, 0, none⟩ v') := ⟨by simp, fun k o' _ hk ho => by
      by_cases e : k = w.heap.size
      · subst e; rw [show w8.heap[w.heap.size]? = _ from hres8] at hk; cases hk; cases ho
      · exact (heap_setCell_other w8 _ _ v' e).trans hk⟩
    exact (k1.trans k2).trans k3
  · have hw := h.below.size
    exact ((h.below.alloc hw _).grown hg (by rw [World.size_alloc]; omega) (fun k hk => by have := (hlt k hk).1; omega)).setCell (Nat.le_refl _) _
  · rcases hat with e | e
    · rw [e] at hk; exact h.apart k hk
    · rw [e, World.size_alloc] at hk
      simp only [Option.some.injEq] at hk
      have h1 := (Array.getElem?_eq_some_iff.1 h.obj).1
      have h2 := (Array.getElem?_eq_some_iff.1 ht).1
      have h3 := (Array.getElem?_eq_some_iff.1 h.img).1
      omega
theorem run_loadAt_grid {W : World} {b : Nat} {g : Grid} (h : HasG W b g) : (Instr.loadAt 76 (.pointer (some ⟨b, 0, none⟩))).run Tryz.prog W = .ok (gridV g) W := by
  have := run_loadVar_row W b 76 76 (gridA g) (0, 0) _ h Tryz.underlying76 rfl (by rw [size_gridA]; exact sizeG)
  simp only [gridV, Instr.loadAt, Instr.sureAddr, Sem.run_bind, Sem.run_pure, Result.andThen_ok, this]
def plS (w W2 : World) (B m0 tb ib b : Nat) (o : Obj) (g : List Q) (L : List Grid) (I : Grid) (u : Value) (pl : List Plc) (c0 c1 c2 c3 : Value) (W : World) : Prop :=
  PB w W2 W B m0 tb ib b o g L I u pl ∧ W.heap[tb]? = some (.cells #[c0, c1, c2, c3] 33)
theorem plS_below {w W2 : World} {B m0 tb ib b : Nat} {o : Obj} {g : List Q} {L : List Grid} {I : Grid} {u : Value} {pl : List Plc} {c0 c1 c2 c3 : Value} {W W' : World} (h : plS w W2 B m0 tb ib b o g L I u pl c0 c1 c2 c3 W) (e : Below W.heap.size W W') : plS w W2 B m0 tb ib b o g L I u pl c0 c1 c2 c3 W' :=
  ⟨h.1.keep e, (e.block _ (Array.getElem?_eq_some_iff.1 h.2).1).trans h.2⟩
def plF (tb : Nat) (g : List Q) (I : Grid) (i j : Nat) : Nat → Value → World → Prop
  | 0, u, _ => u = gridV I
  | 1, u, _ => u = .pointer (some ⟨tb, 2, none⟩)
  | 2, u, _ => u = .int .i64 i
  | 3, u, _ => u = .pointer (some ⟨tb, 3, none⟩)
  | 4, u, _ => u = .int .i64 j
  | 5, u, _ => u = gridV (atG I i j)
  | 6, u, _ => u = gridV (layG g)
  | _, u, _ => u = .bool (inG (atG I i j) (layG g))
theorem plF_any {tb : Nat} {g : List Q} {I : Grid} {i j n : Nat} {u : Value} {W W' : World} (h : plF tb g I i j n u W) : plF tb g I i j n u W' := by
  unfold plF at *
  split at h <;> exact h
set_option maxRecDepth 100000 in
set_option maxHeartbeats 4000000 in
theorem Places_any (l g : List Q) (u v : Value) (w : World) (hu : HasQ w u l) (hv : HasQ w v g) :
    Calls Tryz.prog 13 #[u, v] w fun e w' => ∃ x, e = .returned (.tuple #[x, .int .i64 (placesC l g).2]) ∧ HasP w' x (placesC l g).1 ∧ Below w.heap.size w w' := by
  obtain ⟨up, uc, rfl⟩ := hu.slice
  obtain ⟨vp, vc, rfl⟩ := hv.slice
  have HU := Lib.hid hu; clear hu
  have HV := Lib.hid hv; clear hv
  have hmm := @run_makeMap Tryz.prog
  refine calls_of_rf Tryz.func13 rfl ?_
  simp only [Tryz.ntmps13, List.size_toArray, List.length_cons, List.length_nil, Nat.reduceAdd, Nat.reduceSub, Array.replicate_succ, Array.replicate_zero, List.push_toArray, List.append_toArray, List.nil_append, List.cons_append]
  gi_wp2_with fail
  have hR0 : Boxed (w.alloc (.cells #[.slice none 0 0] 25)) w.heap.size 25 (.slice none 0 0) := World.alloc_heap_new w _
  have hal0 : Below w.heap.size w (w.alloc (.cells #[.slice none 0 0] 25)) := (Below.refl _ w).alloc (Nat.le_refl _) _
  have hck := checkAll_any [l, g] _ _ (two_shapes (HU.out.below hal0) (HV.out.below hal0))
  rw [World.size_alloc] at hck
  have HCK := Lib.hid hck; clear hck
  have hB0 : Below w.heap.size w ((w.alloc (.cells #[.slice none 0 0] 25)).alloc (.cells #[.slice up l.length uc, .slice vp g.length vc] 22)) := hal0.alloc (by simp) _
  have hR1 := heapO (.cells #[.slice up l.length uc, .slice vp g.length vc] 22) hR0
  refine callsIn_FW.2 (HCK.out.mono ?_)
  rintro e w1 ⟨rfl, hB1⟩
  have hR : Boxed w1 w.heap.size 25 (.slice none 0 0) := (hB1.block _ (Array.getElem?_eq_some_iff.1 hR1).1).trans hR1
  have hBw1 : Below w.heap.size w w1 := hB0.trans (hB1.mono hB0.size)
  have hsz1 : w.heap.size < w1.heap.size := hR.lt
  clear HCK hR0 hal0 hB0 hR1 hB1
  by_cases hc0 : checks [l, g] = 0
  case neg =>
    have hc1 : ((checks [l, g] : Int) != 0) = true := by simpa using hc0
    have HC : Hid (placesC l g = ([], checks [l, g])) := Lib.hid (by rw [placesC, if_pos hc0])
    have hRc := hR.cell
    have hRf := hR.frozen
    clear hc0
    gi_wp2_with fail
    refine ⟨[], rfl, List.nodup_nil, fun D hD => (by cases hD), fun w' ht => ?_⟩
    have hset : Boxed (w1.setCell ⟨w.heap.size, 0, none⟩ (.slice none 0 0)) w.heap.size 25 (.slice none 0 0) := Boxed.set _ hR
    refine ⟨_, results_cell_tmp rfl Tryz.isAgg25 _ _ w.heap.size (.slice none 0 0) (.int .i64 (checks [l, g] : Nat)) rfl (boxed_took hset ht (by simp)) rfl, .slice none 0 0, by rw [HC.out], by rw [HC.out]; exact .inl ⟨rfl, rfl⟩, (hBw1.setCell (Nat.le_refl _) _).trans (ht.below (by simp))⟩
  have hc1 : ((checks [l, g] : Int) != 0) = false := by simpa using hc0
  have HC0 := Lib.hid hc0; clear hc0
  have hcl := checkN_ok (checks_zero HC0.out l (by simp))
  have hcg := checkN_ok (checks_zero HC0.out g (by simp))
  have HL := Lib.hid hcl; clear hcl
  have HG := Lib.hid hcg; clear hcg
  gi_wp2_with fail
  refine callsIn_FW.2 ((lay_any g HG.out.1.1 _ w1 (HV.out.below hBw1)).mono ?_)
  rintro e w2 ⟨rfl, hB2⟩
  have hR2 : Boxed w2 w.heap.size 25 (.slice none 0 0) := (hB2.block _ hR.lt).trans hR
  have hBw2 : Below w.heap.size w w2 := hBw1.trans (hB2.mono hBw1.size)
  have hsz2 : w.heap.size < w2.heap.size := hR2.lt
  clear hR hBw1 hB2 hsz1
  have hA3 := alloc3 w2 (.map #[] 0) (.cells Tryz.zeroCells76 76) (.cells #[.map none] 78)
  have hgz : HasG (((w2.alloc (.map #[] 0)).alloc (.cells Tryz.zeroCells76 76)).alloc (.cells #[.map none] 78)) (w2.heap.size + 1) zeroG := by
    have := hA3.2.1
    rw [gridA_zero'] at this; exact this
  have hRA := heapO (.cells #[.map none] 78) (heapO (.cells Tryz.zeroCells76 76) (heapO (.map #[] 0) hR2))
  have h8 : Boxed ((((w2.alloc (.map #[] 0)).alloc (.cells Tryz.zeroCells76 76)).alloc (.cells #[.map none] 78)).setRow (w2.heap.size + 1) (gridA (layG g))) (w2.heap.size + 1 + 1) 78 (.map none) := (setRow_other _ _ _ _ (by omega)).trans hA3.2.2.1
  have c8 := h8.cell
  have f8 := h8.frozen
  unfold gridV
  gi_upto_region 5 with (refine wpListIn_store_row rfl 76 _ _ rfl (w2.heap.size + 1) rfl 76 _ (gridA (layG g)) rfl hA3.2.1 (by rw [size_gridA]; exact sizeG) (by rw [gridA_zero, size_gridA, size_gridA]) (gridA_one _) ?_)
  clear c8 f8
  have F0 : Hid (HasM gridV (((((w2.alloc (.map #[] 0)).alloc (.cells Tryz.zeroCells76 76)).alloc (.cells #[.map none] 78)).setRow (w2.heap.size + 1) (gridA (layG g))).setCell ⟨w2.heap.size + 1 + 1, 0, none⟩ (.map (some w2.heap.size))) w2.heap.size (setM []) ∧
      HasG (((((w2.alloc (.map #[] 0)).alloc (.cells Tryz.zeroCells76 76)).alloc (.cells #[.map none] 78)).setRow (w2.heap.size + 1) (gridA (layG g))).setCell ⟨w2.heap.size + 1 + 1, 0, none⟩ (.map (some w2.heap.size))) (w2.heap.size + 1) (layG g) ∧
      Boxed (((((w2.alloc (.map #[] 0)).alloc (.cells Tryz.zeroCells76 76)).alloc (.cells #[.map none] 78)).setRow (w2.heap.size + 1) (gridA (layG g))).setCell ⟨w2.heap.size + 1 + 1, 0, none⟩ (.map (some w2.heap.size))) (w2.heap.size + 1 + 1) 78 (.map (some w2.heap.size)) ∧
      Boxed (((((w2.alloc (.map #[] 0)).alloc (.cells Tryz.zeroCells76 76)).alloc (.cells #[.map none] 78)).setRow (w2.heap.size + 1) (gridA (layG g))).setCell ⟨w2.heap.size + 1 + 1, 0, none⟩ (.map (some w2.heap.size))) w.heap.size 25 (.slice none 0 0) ∧
      Below w.heap.size w (((((w2.alloc (.map #[] 0)).alloc (.cells Tryz.zeroCells76 76)).alloc (.cells #[.map none] 78)).setRow (w2.heap.size + 1) (gridA (layG g))).setCell ⟨w2.heap.size + 1 + 1, 0, none⟩ (.map (some w2.heap.size))) ∧
      (((((w2.alloc (.map #[] 0)).alloc (.cells Tryz.zeroCells76 76)).alloc (.cells #[.map none] 78)).setRow (w2.heap.size + 1) (gridA (layG g))).setCell ⟨w2.heap.size + 1 + 1, 0, none⟩ (.map (some w2.heap.size))).heap.size = w2.heap.size + 3) := by
    refine Lib.hid ⟨?_, ?_, Boxed.set _ h8, ?_, ?_, ?_⟩
    · exact (heap_setCell_other _ _ _ _ (by simp; omega)).trans ((setRow_other _ _ _ _ (by omega)).trans hA3.1)
    · exact (heap_setCell_other _ _ _ _ (by simp)).trans (setRow_heap _ _ _ _ _ _ hgz)
    · exact (heap_setCell_other _ _ _ _ (by simp; omega)).trans ((setRow_other _ _ _ _ (by omega)).trans hRA)
    · exact (setRow_below (hBw2.trans (hA3.2.2.2.1.mono (by omega))) (by omega) _).setCell (by simp; omega) _
    · simp
  clear h8 hA3 hgz hRA hR2 hBw2
  revert F0
  generalize (((((w2.alloc (.map #[] 0)).alloc (.cells Tryz.zeroCells76 76)).alloc (.cells #[.map none] 78)).setRow (w2.heap.size + 1) (gridA (layG g))).setCell ⟨w2.heap.size + 1 + 1, 0, none⟩ (.map (some w2.heap.size))) = W0
  intro F0
  revert hsz2 F0
  generalize w2.heap.size = m0
  intro hsz2 F0
  clear hmm hc1
  gi_wp2_with fail
  refine callsIn_FW.2 ((lay_any l HL.out.1.1 _ W0 (HU.out.below F0.out.2.2.2.2.1)).mono ?_)
  rintro e w3 ⟨rfl, hB3⟩
  have hw3 : m0 + 3 ≤ w3.heap.size := by have := hB3.size; have := F0.out.2.2.2.2.2; omega
  have F3 : Hid (∀ b W', w3.heap.size ≤ b → Ext w3.heap.size w3 W' → plI w m0 l g [b] 0 W') := Lib.hid (by
    intro b W' hb hE
    obtain ⟨f1, f2, f3, f4, f5, f6⟩ := F0.out
    have h0 : plI w m0 l g [b] 0 w3 := ⟨[], .slice none 0 0, f1.below hB3, ⟨List.nodup_nil, fun x => by simp⟩, f2.below hB3, (hB3.block _ f3.lt).trans f3, (hB3.block _ f4.lt).trans f4, World.ownsRow_nil _ _ _ _, ⟨Nat.zero_le _, by simp [Value.ownBlock]⟩, f5.trans (hB3.mono f5.size)⟩
    exact plI_stab hw3 hsz2 l g [b] 0 _ _ h0 hE)
  clear F0 hB3
  gi_wp2_with fail
  refine range_law_g (ro := none) (gf := 47) (mk := fun y => #[gridV (layG l), y]) (xs := wayXs (layG l)) ?hro ?hg (ways_iter (layG l) (okG_lay HL.out.1.1)) ?hps
    (fun b k W => plI w m0 l g [b] k W) (fun _ _ => False) (fun b k => plI_stab hw3 hsz2 l g [b] k) (fun _ => Stab.false _) F3.out ?round ?done ?stop
  case hro => intro l0 h; cases h
  case hg => exact ways_call (g := layG l) rfl
  case hps => intro x hx; rw [wayXs_size x hx]; rfl
  case round =>
    intro b l0 k x W o hx hI hl hlb hl2 hob hoc
    obtain ⟨hk, rfl⟩ := wayXs_some hx
    simp only [round_tmps2, List.setIfInBounds_toArray, List.set_cons_zero, List.set_cons_succ]
    have hbW : b < W.heap.size := (Array.getElem?_eq_some_iff.1 hob).1
    have HI := Lib.hid hI; clear hI hx
    have hw3W : w3.heap.size ≤ W.heap.size := by omega
    have hset : ((W.alloc (.cells #[.bool (decide (4 ≤ k)), .int .i64 ((k : Int) % 4), .int .i64 0, .int .i64 0] 33)).alloc (.cells Tryz.zeroCells76 76)).setRow (W.heap.size + 1) (gridA (imgG (layG l) (wayN k))) =
        (W.alloc (.cells #[.bool (decide (4 ≤ k)), .int .i64 ((k : Int) % 4), .int .i64 0, .int .i64 0] 33)).alloc (.cells (gridA (imgG (layG l) (wayN k))) 76) := by
      have := World.setRow_alloc_new (W.alloc (.cells #[.bool (decide (4 ≤ k)), .int .i64 ((k : Int) % 4), .int .i64 0, .int .i64 0] 33)) Tryz.zeroCells76 (gridA (imgG (layG l) (wayN k))) 76
      rwa [World.size_alloc] at this
    have HSET := Lib.hid hset; clear hset
    have hnew1 : ((W.alloc (.cells #[.bool (decide (4 ≤ k)), .int .i64 ((k : Int) % 4), .int .i64 0, .int .i64 0] 33)).alloc (.cells Tryz.zeroCells76 76)).heap[W.heap.size + 1]? = some (.cells Tryz.zeroCells76 76) := by
      have := World.alloc_heap_new (W.alloc (.cells #[.bool (decide (4 ≤ k)), .int .i64 ((k : Int) % 4), .int .i64 0, .int .i64 0] 33)) (.cells Tryz.zeroCells76 76)
      rwa [World.size_alloc] at this
    have HNEW := Lib.hid hnew1; clear hnew1
    unfold gridV
    gi_wp2_with (refine wpListIn_store_row rfl 76 _ _ rfl (W.heap.size + 1) rfl 76 _ (gridA (imgG (layG l) (wayN k))) rfl HNEW.out (by rw [size_gridA]; exact sizeG) (by rw [gridA_zero, size_gridA, size_gridA]) (gridA_one _) ?_; rw [HSET.out])
    refine ⟨fun W' => plI w m0 l g [b, W.heap.size, W.heap.size + 1] k W' ∧ W'.heap[W.heap.size]? = some (.cells #[.bool (decide (4 ≤ k)), .int .i64 ((k : Int) % 4), .int .i64 0, .int .i64 0] 33) ∧ HasG W' (W.heap.size + 1) (imgG (layG l) (wayN k)),
      Stab.and (plI_stab hw3 hsz2 l g [b, W.heap.size, W.heap.size + 1] k) (Stab.and (Stab.cells _ _ _ _ _) (Stab.hasG _ _ _)), ?_, ?_, ?_, ?_⟩
    · exact ⟨by simp only [World.size_alloc]; omega, fun k o' _ hk _ => heapO _ (heapO _ hk)⟩
    · obtain ⟨L, v, a1, a2, a3, a4, a5, a6, a7, a8⟩ := HI.out
      refine ⟨⟨L, v, (a1.alloc _).alloc _, a2, (a3.alloc _).alloc _, heapO _ (heapO _ a4), heapO _ (heapO _ a5), (World.ownsRow.alloc a6 _).alloc _, ⟨a7.1, fun c hc => ?_⟩, (a8.alloc a8.size _).alloc (by have := a8.size; rw [World.size_alloc]; omega) _⟩, heapO _ (World.alloc_heap_new W _), ?_⟩
      · simp only [List.mem_cons, List.not_mem_nil, or_false] at hc
        rcases hc with rfl | rfl | rfl
        · exact a7.2 _ (by simp)
        · intro e; have := (a6.lt _ e).2; omega
        · intro e; have := (a6.lt _ e).2; omega
      · have := HasG.new (W.alloc (.cells #[.bool (decide (4 ≤ k)), .int .i64 ((k : Int) % 4), .int .i64 0, .int .i64 0] 33)) (imgG (layG l) (wayN k))
        rwa [World.size_alloc] at this
    · exact heapO _ (heapO _ hob)
    · rintro W2 ⟨⟨L, v, hM, hLm, hGr, h8, hRes, hOwn, hCnt, hBel⟩, hPl, hIm⟩ hl3 hob2
      have hbm : m0 < b := by omega
      have hok : ∀ x ∈ L, okG x := fun x hx => by
        obtain ⟨i, _, rfl⟩ := (hLm.2 x).1 hx
        exact okG_img (okG_lay HL.out.1.1) _
      have hoks : ∀ p ∈ setM L, okG p.1 := fun p hp => by
        obtain ⟨x, hx, rfl⟩ := List.mem_map.1 hp; exact hok x hx
      have c8 := h8.cell
      have hold := old_iff HL.out.1 HL.out.2.1 k
      by_cases hin : imgG (layG l) (wayN k) ∈ L
      · have hlook := run_lookup_hit encG Tryz.underlying78 hM hoks (by rw [setM_keys]; exact hLm.1) (List.mem_map.2 ⟨_, hin, rfl⟩) false
        have HP : Hid (partW l g (k + 1) = partW l g k) := Lib.hid (partW_old (hold.2 ((hLm.2 _).1 hin)))
        have HI2 : Hid (plI w m0 l g [b] (k + 1) W2) := Lib.hid ⟨L, v, hM, ⟨hLm.1, fun x => by
            rw [hLm.2 x]
            constructor
            · rintro ⟨i, hi, e⟩; exact ⟨i, by omega, e⟩
            · rintro ⟨i, hi, e⟩
              by_cases hik : i = k
              · subst hik
                obtain ⟨j, hj, ej⟩ := (hLm.2 _).1 hin
                exact ⟨j, hj, ej.trans e⟩
              · exact ⟨i, by omega, e⟩⟩, hGr, h8, hRes, by rw [HP.out]; exact hOwn, ⟨by rw [HP.out]; have := hCnt.1; omega, fun c hc => hCnt.2 c (by simp at hc; simp [hc])⟩, hBel⟩
        unfold gridV at hlook
        simp only [Bool.false_eq_true, if_false] at hlook
        clear hok hoks hold hin hLm hM hGr h8 hRes hOwn hCnt hBel
        gi_wp2_with (refine wpListIn_load_row rfl 76 _ rfl (W.heap.size + 1) rfl 76 _ (0, 0) _ hIm Tryz.underlying76 rfl (by rw [size_gridA]; exact sizeG) ?_)
        exact ⟨KeepsFrom.refl _ _, HI2.out, hob2⟩
      · have hlook := run_lookup_miss encG Tryz.underlying78 (Tryz.zeroValue4 W2) hM hoks (okG_img (okG_lay HL.out.1.1) (wayN k)) (fun p hp e => hin (by
          obtain ⟨x, hx, rfl⟩ := List.mem_map.1 hp
          rw [← e]; exact hx)) false
        have hupd := run_update_miss encG Tryz.underlying78 hM hoks (okG_img (okG_lay HL.out.1.1) (wayN k)) (fun p hp e => hin (by
          obtain ⟨x, hx, rfl⟩ := List.mem_map.1 hp
          rw [← e]; exact hx)) (.bool true)
        have hsm : setM L ++ [(imgG (layG l) (wayN k), Value.bool true)] = setM (L ++ [imgG (layG l) (wayN k)]) := by simp [setM]
        rw [hsm] at hupd
        have HP : Hid (partW l g (k + 1) = partW l g k ++ atW l g (wayN k)) := Lib.hid (partW_new (fun h => hin ((hLm.2 _).2 (hold.1 h))))
        have HLM : Hid ((L ++ [imgG (layG l) (wayN k)]).Nodup ∧ ∀ x, x ∈ L ++ [imgG (layG l) (wayN k)] ↔ ∃ i, i < k + 1 ∧ imgG (layG l) (wayN i) = x) := Lib.hid ⟨List.nodup_append.2 ⟨hLm.1, by simp, fun a ha b hb e => hin (by rw [← List.mem_singleton.1 hb, ← e]; exact ha)⟩, fun x => by
          simp only [List.mem_append, List.mem_singleton, hLm.2 x]
          constructor
          · rintro (⟨i, hi, e⟩ | rfl)
            · exact ⟨i, by omega, e⟩
            · exact ⟨k, by omega, rfl⟩
          · rintro ⟨i, hi, e⟩
            by_cases hik : i = k
            · subst hik; exact .inr e.symm
            · exact .inl ⟨i, by omega, e⟩⟩
        have hPB : PB w W2 W2 w3.heap.size m0 W.heap.size (W.heap.size + 1) b o g L (imgG (layG l) (wayN k)) v (partW l g k) := ⟨hM, hGr, h8, hRes, hOwn, hIm, hob2, KeepsFrom.refl _ _, hBel, fun c hc => ⟨fun e => hCnt.2 b (by simp) (e ▸ hc), fun e => hCnt.2 _ (by simp) (e ▸ hc), fun e => hCnt.2 (W.heap.size + 1) (by simp) (e ▸ hc)⟩, by omega⟩
        have hPB2 := hPB.put (by omega) (L ++ [imgG (layG l) (wayN k)])
        have hPl2 := (putM_other (enc := gridV) W2 (show W.heap.size ≠ m0 by omega) (setM (L ++ [imgG (layG l) (wayN k)]))).trans hPl
        have HCNT := Lib.hid hCnt.1
        have hIm2 := hPB2.img
        unfold gridV at hlook
        revert hupd hPB2 hPl2 hIm2
        generalize putM gridV W2 m0 (setM (L ++ [imgG (layG l) (wayN k)])) = W4
        intro hupd hPB2 hPl2 hIm2
        unfold gridV at hupd
        simp only [Bool.false_eq_true, if_false] at hlook
        have HPB := Lib.hid hPB2
        have HPL := Lib.hid hPl2
        clear hok hoks hold hin hLm hM hGr h8 hRes hOwn hCnt hBel hsm hPB hPB2 hPl hPl2
        gi_wp2_with (first
          | (refine wpListIn_load_row rfl 76 _ rfl (W.heap.size + 1) rfl 76 _ (0, 0) _ hIm Tryz.underlying76 rfl (by rw [size_gridA]; exact sizeG) ?_)
          | (refine wpListIn_load_row rfl 76 _ rfl (W.heap.size + 1) rfl 76 _ (0, 0) _ hIm2 Tryz.underlying76 rfl (by rw [size_gridA]; exact sizeG) ?_))
        refine callsIn_FW.2 ((moved_any (imgG (layG l) (wayN k)) W4).mono ?_)
        rintro e W5 ⟨rfl, hB5⟩
        have HPB5 := Lib.hid (HPB.out.keep hB5)
        have HPL5 := Lib.hid ((hB5.block _ (Array.getElem?_eq_some_iff.1 HPL.out).1).trans HPL.out)
        clear hupd hlook hIm hIm2 HPB HPL hB5
        have hwd := width_le (imgG (layG l) (wayN k))
        have hht := height_le (imgG (layG l) (wayN k))
        unfold gridV
        gi_wp2_with (refine wpListIn_store_row rfl 76 _ _ rfl W5.heap.size rfl 76 _ (gridA (movedG (imgG (layG l) (wayN k)))) rfl (World.alloc_heap_new W5 _) (by rw [size_gridA]; exact sizeG) (by rw [gridA_zero, size_gridA, size_gridA]) (gridA_one _) ?_; rw [World.setRow_alloc_new])
        have hal6 : Below W5.heap.size W5 (W5.alloc (.cells (gridA (movedG (imgG (layG l) (wayN k)))) 76)) := (Below.refl _ W5).alloc (Nat.le_refl _) _
        have HPB6 := Lib.hid (HPB5.out.keep hal6)
        have HPL6 := Lib.hid ((hal6.block _ (Array.getElem?_eq_some_iff.1 HPL5.out).1).trans HPL5.out)
        clear hal6 HPB5 HPL5
        revert HPB6 HPL6
        generalize W5.alloc (.cells (gridA (movedG (imgG (layG l) (wayN k)))) 76) = W6
        intro HPB6 HPL6
        obtain ⟨Hn, hHn, hHn'⟩ : ∃ n : Nat, (16 : Int) - (heightG (imgG (layG l) (wayN k)) : Nat) + 1 = n ∧ n = 16 - heightG (imgG (layG l) (wayN k)) + 1 := ⟨_, by omega, rfl⟩
        obtain ⟨Wn, hWn, hWn'⟩ : ∃ n : Nat, (16 : Int) - (widthG (imgG (layG l) (wayN k)) : Nat) + 1 = n ∧ n = 16 - widthG (imgG (layG l) (wayN k)) + 1 := ⟨_, by omega, rfl⟩
        rw [hHn]
        have HHN := Lib.hid hHn'
        have HWN := Lib.hid hWn'
        have hH17 : Hn ≤ 17 := by omega
        have hW17 : Wn ≤ 17 := by omega
        have HWI := Lib.hid hWn
        clear hHn hHn' hWn' hwd hht hWn
        gi_loopw [43] (fun z wr => ∃ (j : Nat) (u : Value) (x0 y0 : Int), j ≤ Hn ∧ z = .int .i64 j ∧ Hid (PB w W2 wr w3.heap.size m0 W.heap.size (W.heap.size + 1) b o g (L ++ [imgG (layG l) (wayN k)]) (imgG (layG l) (wayN k)) u (partW l g k ++ rowsP l g (wayN k) Wn j) ∧
          wr.heap[W.heap.size]? = some (.cells #[.bool (decide (4 ≤ k)), .int .i64 ((k : Int) % 4), .int .i64 x0, .int .i64 y0] 33) ∧ (partW l g k ++ rowsP l g (wayN k) Wn j).length ≤ 289 * k + 17 * j)) (fun z _ => Hn - (intOf z).toNat)
        case atStart => exact ⟨0, v, 0, 0, by omega, rfl, Lib.hid ⟨by simpa [rowsP] using HPB6.out, HPL6.out, by simpa [rowsP] using HCNT.out⟩⟩
        case round =>
          obtain ⟨j, u, x0, y0, hj, rfl, HR⟩ := hrel
          by_cases hlt : j < Hn
          · have hpl := HR.out.2.1
            have d3 : wr.cell? ⟨W.heap.size, 3, none⟩ = some (.int .i64 y0) := by simp [World.cell?, hpl]
            have f3 : wr.frozen? ⟨W.heap.size, 3, none⟩ = false := by simp [World.frozen?, hpl]
            have hwd := width_le (imgG (layG l) (wayN k))
            have HPB7 := Lib.hid (HR.out.1.cell hpl 3 (.int .i64 j))
            have HPL7 := Lib.hid (plc_set3 hpl (.int .i64 j))
            have HLEN := Lib.hid HR.out.2.2
            clear hpl HR
            gi_wp2_with fail
            rw [HWI.out]
            clear d3 f3 hwd
            revert HPB7 HPL7
            generalize wr.setCell ⟨W.heap.size, 3, none⟩ (.int .i64 j) = W7
            intro HPB7 HPL7
            gi_loopw [50] (fun z wr => ∃ (i : Nat) (u : Value) (x0 : Int), i ≤ Wn ∧ z = .int .i64 i ∧ Hid (PB w W2 wr w3.heap.size m0 W.heap.size (W.heap.size + 1) b o g (L ++ [imgG (layG l) (wayN k)]) (imgG (layG l) (wayN k)) u ((partW l g k ++ rowsP l g (wayN k) Wn j) ++ rowP l g (wayN k) j i) ∧
              wr.heap[W.heap.size]? = some (.cells #[.bool (decide (4 ≤ k)), .int .i64 ((k : Int) % 4), .int .i64 x0, .int .i64 j] 33) ∧ ((partW l g k ++ rowsP l g (wayN k) Wn j) ++ rowP l g (wayN k) j i).length ≤ 289 * k + 17 * j + i)) (fun z _ => Wn - (intOf z).toNat)
            case atStart => exact ⟨0, u, x0, by omega, rfl, Lib.hid ⟨by simpa [rowP_zero] using HPB7.out, HPL7.out, by simpa [rowP_zero] using HLEN.out⟩⟩
            case round =>
              obtain ⟨i, u, x0, hi, rfl, HR⟩ := hrel
              by_cases hli : i < Wn
              · have hpl := HR.out.2.1
                have d2 : wr.cell? ⟨W.heap.size, 2, none⟩ = some (.int .i64 x0) := by simp [World.cell?, hpl]
                have f2 : wr.frozen? ⟨W.heap.size, 2, none⟩ = false := by simp [World.frozen?, hpl]
                have HPB8 := Lib.hid (HR.out.1.cell hpl 2 (.int .i64 i))
                have HPL8 := Lib.hid (plc_set2 hpl (.int .i64 i))
                have HLEN8 := Lib.hid HR.out.2.2
                clear hpl HR
                gi_wp2_with fail
                clear d2 f2
                revert HPB8 HPL8
                generalize wr.setCell ⟨W.heap.size, 2, none⟩ (.int .i64 i) = W8
                intro HPB8 HPL8
                have hsx : i + widthG (imgG (layG l) (wayN k)) ≤ 16 := by have := HWN.out; have := width_le (imgG (layG l) (wayN k)); omega
                have hsy : j + heightG (imgG (layG l) (wayN k)) ≤ 16 := by have := HHN.out; have := height_le (imgG (layG l) (wayN k)); omega
                have HROOM := Lib.hid (img_room HL.out.1 HL.out.2.1 (w := wayN k) (Nat.mod_lt _ (by decide)) hsx hsy)
                have hinp : inG (atG (imgG (layG l) (wayN k)) i j) (layG g) = subL ((imgW l (wayN k)).map (sh i j)) g := in_place HL.out.1 HL.out.2.1 HG.out.1 (Nat.mod_lt _ (by decide)) hsx hsy
                have HINP := Lib.hid hinp; clear hinp hsx hsy
                have hS8 : plS w W2 w3.heap.size m0 W.heap.size (W.heap.size + 1) b o g (L ++ [imgG (layG l) (wayN k)]) (imgG (layG l) (wayN k)) u ((partW l g k ++ rowsP l g (wayN k) Wn j) ++ rowP l g (wayN k) j i) (.bool (decide (4 ≤ k))) (.int .i64 ((k : Int) % 4)) (.int .i64 i) (.int .i64 j) W8.drew := plS_below ⟨HPB8.out, HPL8.out⟩ (below_drewN _ W8 1)
                have HS8 := Lib.hid hS8; clear hS8
                refine wpIn_region_held 8 69 [] (by kernel_rfl) (by kernel_rfl) rfl (plS w W2 w3.heap.size m0 W.heap.size (W.heap.size + 1) b o g (L ++ [imgG (layG l) (wayN k)]) (imgG (layG l) (wayN k)) u ((partW l g k ++ rowsP l g (wayN k) Wn j) ++ rowP l g (wayN k) j i) (.bool (decide (4 ≤ k))) (.int .i64 ((k : Int) % 4)) (.int .i64 i) (.int .i64 j))
                  (plF W.heap.size g (imgG (layG l) (wayN k)) i j) (fun _ _ => plS_below) (fun _ _ _ _ h _ => plF_any h) HS8.out ?_ ?_
                · simp only [List.take_succ_cons, List.take_zero, heldFrom, heldAt]
                  refine ⟨?_, ?_, ?_, ?_, ?_, ?_, ?_, ?_, trivial⟩
                  · intro bb X vals K hI
                    have e : bb.eval (.tmp 10) = .pointer (some ⟨W.heap.size + 1, 0, none⟩) := (K.was 10 (by kernel_rfl)).trans rfl
                    refine lu_v (I := Instr.loadAt 76 (bb.eval (.tmp 10))) rfl ?_ ⟨Below.refl _ _, rfl⟩
                    rw [e]; exact run_loadAt_grid hI.1.img
                  · intro bb X vals K hI
                    have e : bb.eval (.tmp 9) = .pointer (some ⟨W.heap.size, 0, none⟩) := (K.was 9 (by kernel_rfl)).trans rfl
                    refine lu_v (I := Instr.fieldAt 33 (bb.eval (.tmp 9)) 2) rfl ?_ ⟨Below.refl _ _, rfl⟩
                    rw [e]; exact field37_2 _ _
                  · intro bb X vals K hI
                    obtain ⟨e, f⟩ := K.val 1 55 (by kernel_rfl)
                    have f' : vals 1 = .pointer (some ⟨W.heap.size, 2, none⟩) := f
                    have hp := hI.2
                    refine lu_v (I := Instr.loadAt 3 (bb.eval (.tmp 55))) rfl ?_ ⟨Below.refl _ _, rfl⟩
                    rw [e, f']; exact run_loadAt_cell Tryz.isAgg3 (by simp [World.cell?, hp])
                  · intro bb X vals K hI
                    have e : bb.eval (.tmp 9) = .pointer (some ⟨W.heap.size, 0, none⟩) := (K.was 9 (by kernel_rfl)).trans rfl
                    refine lu_v (I := Instr.fieldAt 33 (bb.eval (.tmp 9)) 3) rfl ?_ ⟨Below.refl _ _, rfl⟩
                    rw [e]; exact field37_3 _ _
                  · intro bb X vals K hI
                    obtain ⟨e, f⟩ := K.val 3 57 (by kernel_rfl)
                    have f' : vals 3 = .pointer (some ⟨W.heap.size, 3, none⟩) := f
                    have hp := hI.2
                    refine lu_v (I := Instr.loadAt 3 (bb.eval (.tmp 57))) rfl ?_ ⟨Below.refl _ _, rfl⟩
                    rw [e, f']; exact run_loadAt_cell Tryz.isAgg3 (by simp [World.cell?, hp])
                  · intro bb X vals K hI
                    obtain ⟨e1, f1⟩ := K.val 0 54 (by kernel_rfl)
                    obtain ⟨e2, f2⟩ := K.val 2 56 (by kernel_rfl)
                    obtain ⟨e3, f3⟩ := K.val 4 58 (by kernel_rfl)
                    have g1 : vals 0 = gridV (imgG (layG l) (wayN k)) := f1
                    have g2 : vals 2 = .int .i64 i := f2
                    have g3 : vals 4 = .int .i64 j := f3
                    refine lu_call (args := #[gridV (imgG (layG l) (wayN k)), .int .i64 i, .int .i64 j]) rfl (by simp only [List.map_toArray, List.map_cons, List.map_nil, e1, e2, e3, g1, g2, g3]) (enters_of Tryz.func49 (by kernel_rfl) rfl) ((at_any _ i j HROOM.out X).mono ?_)
                    rintro e w' ⟨rfl, hb⟩
                    exact ⟨_, rfl, hb, rfl⟩
                  · intro bb X vals K hI
                    have e : bb.eval (.tmp 7) = .pointer (some ⟨m0 + 1, 0, none⟩) := (K.was 7 (by kernel_rfl)).trans rfl
                    refine lu_v (I := Instr.loadAt 76 (bb.eval (.tmp 7))) rfl ?_ ⟨Below.refl _ _, rfl⟩
                    rw [e]; exact run_loadAt_grid hI.1.ground
                  · intro bb X vals K hI
                    obtain ⟨e1, f1⟩ := K.val 5 59 (by kernel_rfl)
                    obtain ⟨e2, f2⟩ := K.val 6 60 (by kernel_rfl)
                    have g1 : vals 5 = gridV (atG (imgG (layG l) (wayN k)) i j) := f1
                    have g2 : vals 6 = gridV (layG g) := f2
                    refine lu_call (args := #[gridV (atG (imgG (layG l) (wayN k)) i j), gridV (layG g)]) rfl (by simp only [List.map_toArray, List.map_cons, List.map_nil, e1, e2, g1, g2]) (enters_of Tryz.func50 (by kernel_rfl) rfl) ((in_any _ _ X).mono ?_)
                    rintro e w' ⟨rfl, hb⟩
                    exact ⟨_, rfl, hb, rfl⟩
                · intro X vals hI hf
                  have g0 : vals 7 = .bool (inG (atG (imgG (layG l) (wayN k)) i j) (layG g)) := hf 7 (by decide)
                  simp only [List.take_succ_cons, List.take_zero, List.range_succ, List.range_zero, List.nil_append, List.cons_append, List.map_cons, List.map_nil, putAll, Act.put, List.setIfInBounds_toArray, List.set_cons_zero, List.set_cons_succ, g0]
                  show wpActs _ _ _ _ 0 [] _ _
                  refine acts_nil ?_
                  have HI9 := Lib.hid hI; clear hI hf g0
                  rw [HINP.out]
                  cases hsub : subL ((imgW l (wayN k)).map (sh (i : Int) (j : Int))) g with
                  | false =>
                    have HST : Hid (rowP l g (wayN k) j (i + 1) = rowP l g (wayN k) j i) := Lib.hid (by rw [rowP_step, hsub]; simp)
                    clear hsub
                    gi_wp2_with fail
                    go_roundw
                    case rel => exact ⟨i + 1, u, i, by omega, by go_num, Lib.hid ⟨by rw [HST.out]; exact HI9.out.1, HI9.out.2, by rw [HST.out]; have := HLEN8.out; omega⟩⟩
                    case measure => simp [intOf]; omega
                  | true =>
                    have HST : Hid (rowP l g (wayN k) j (i + 1) = rowP l g (wayN k) j i ++ [⟨(wayN k).1, (wayN k).2, i, j⟩]) := Lib.hid (by rw [rowP_step, hsub]; simp)
                    clear hsub
                    have hI9 := HI9.out
                    have hlen8 := HLEN8.out
                    have HPE : ∃ PL, Hid (((partW l g k ++ rowsP l g (wayN k) Wn j) ++ rowP l g (wayN k) j i) = PL) := ⟨_, Lib.hid rfl⟩
                    obtain ⟨PL, HPE⟩ := HPE
                    rw [HPE.out] at hI9 hlen8
                    clear HI9 HLEN8
                    have HI9 := Lib.hid hI9; clear hI9
                    have HLEN8 := Lib.hid hlen8; clear hlen8
                    obtain ⟨up', uc', rfl⟩ := own_slice HI9.out.1.own
                    have hp := HI9.out.2
                    have hk4 : ((k : Int) % 4) = ((k % 4 : Nat) : Int) := by omega
                    have HK4 := Lib.hid hk4; clear hk4
                    have e0 : X.cell? ⟨W.heap.size, 0, none⟩ = some (.bool (decide (4 ≤ k))) := by simp [World.cell?, hp]
                    have e1 : X.cell? ⟨W.heap.size, 1, none⟩ = some (.int .i64 ((k : Int) % 4)) := by simp [World.cell?, hp]
                    have e2 : X.cell? ⟨W.heap.size, 2, none⟩ = some (.int .i64 i) := by simp [World.cell?, hp]
                    have e3 : X.cell? ⟨W.heap.size, 3, none⟩ = some (.int .i64 j) := by simp [World.cell?, hp]
                    have c4 := HI9.out.1.res.cell
                    have hM1 : PL.length + 1 ≤ 2500 := by have := HLEN8.out; omega
                    have HM1 : Hid (PL.length + 1 ≤ maxLen) := Lib.hid (by simp only [maxLen]; omega)
                    have HM2 : Hid ((PL.length + 1) * 32 ≤ 140737488355328) := Lib.hid (by omega)
                    clear hM1 hp
                    have hXs : m0 + 3 ≤ X.heap.size := by
                      have := (Array.getElem?_eq_some_iff.1 HI9.out.1.obj).1
                      have := HI9.out.1.size.2.2.1
                      omega
                    have HXS := Lib.hid hXs; clear hXs
                    have hO : ∀ (O : Obj) (w8 : World), (X.alloc O).grownBy w8 (Value.slice up' PL.length uc').ownBlock → Boxed w8 w.heap.size 25 (Value.slice up' PL.length uc') := fun O w8 hg =>
                      (hg.block _ (by have := HI9.out.1.res.lt; simp; omega) (fun e => by have := (World.ownsRow.lt HI9.out.1.own _ e.symm).1; have := HI9.out.1.size.2.2.2.2.2.2; omega)).trans (heapO _ HI9.out.1.res)
                    have HO := Lib.hid hO; clear hO
                    obtain ⟨iP, hiP, hzP, hsP, hbP⟩ := info_parts infoP
                    have hat : ∀ (j' : Nat) (u' : Value), (pVals ⟨decide (4 ≤ k), k % 4, i, j⟩)[j']? = some u' → (X.alloc (.cells #[.bool (decide (4 ≤ k)), .int .i64 ((k : Int) % 4), .int .i64 i, .int .i64 j] 33)).cell? ((⟨X.heap.size, 0, none⟩ : Addr).add j') = some u' := by
                      rw [HK4.out]; exact pVals_at ⟨decide (4 ≤ k), k % 4, i, j⟩
                    have HAT := Lib.hid hat; clear hat
                    gi_wp2_with (first
                      | (gi_at_builtin; refine wpListIn_append_own_at _ rfl _ _ 25 rfl (m0 + 3) 33 iP _ 4 32 Tryz.underlying25 hiP hzP hsP hbP rfl (by decide) (Value.slice up' PL.length uc') PL.length (pCells PL) rfl (World.ownsRow.alloc HI9.out.1.own _) ⟨X.heap.size, 0, none⟩ 1 1 (pVals ⟨decide (4 ≤ k), k % 4, i, j⟩) rfl rfl HAT.out (pVals_one _) HM1.out HM2.out (by have := HXS.out; rw [World.size_alloc]; omega) ?_; intro v' w8 hown' hgrow _ hat'; obtain ⟨p'', c'', rfl⟩ := own_slice hown'; have q1 := (HO.out _ _ hgrow).cell; have q2 := (HO.out _ _ hgrow).frozen))
                    have hNew := HI9.out.1.append HI9.out.2 hown' hgrow hat'
                    go_roundw
                    case rel => exact ⟨i + 1, _, i, by omega, by go_num, Lib.hid ⟨by rw [HST.out, ← List.append_assoc, HPE.out]; exact hNew.1, hNew.2, by rw [HST.out, ← List.append_assoc, HPE.out, List.length_append]; have := HLEN8.out; simp only [List.length_singleton]; omega⟩⟩
                    case measure => simp [intOf]; omega
              · obtain rfl : i = Wn := by omega
                have HF := Lib.hid HR.out
                gi_wp2_with fail
                go_roundw
                case rel => exact ⟨j + 1, u, x0, j, by omega, by go_num, Lib.hid ⟨by rw [rowsP_step, ← List.append_assoc]; exact HF.out.1, HF.out.2.1, by rw [rowsP_step, ← List.append_assoc]; have := HF.out.2.2; omega⟩⟩
                case measure => simp [intOf]; omega
          · obtain rfl : j = Hn := by omega
            have HF := Lib.hid HR.out
            clear HR
            gi_wp2_with fail
            have hsz := img_size HL.out.1 HL.out.2.1 (w := wayN k) (Nat.mod_lt _ (by decide))
            have hall : rowsP l g (wayN k) Wn j = atW l g (wayN k) := by
              rw [← rowsP_all, HWN.out, HHN.out, ← hsz.1, ← hsz.2, Int.toNat_natCast, Int.toNat_natCast]
            have hp := HF.out.1
            have hlen := HF.out.2.2
            rw [hall, ← HP.out] at hp hlen
            exact ⟨hp.keeps, ⟨_, u, hp.map, HLM.out, hp.ground, hp.box, hp.res, hp.own, ⟨by omega, fun c hc e => by simp at hc; subst hc; exact (hp.apart _ e).1 rfl⟩, hp.below⟩, hp.obj⟩
  case done =>
    intro b ds W hM ⟨L, v, a1, a2, a3, a4, hRes, hOwn, a7, hBel⟩
    obtain ⟨D, hD, rfl, hK⟩ := hM
    obtain ⟨vp', vc', rfl⟩ := own_slice hOwn
    have c4 := hRes.cell
    have f4 := hRes.frozen
    have HPA : Hid (placesC l g = (partW l g (wayXs (layG l)).length, 0)) := Lib.hid (by rw [placesC, if_neg (fun h => h HC0.out), wayXs_length, partW_all])
    clear a1 a2 a3 a4 a7
    have hW3 : w3.heap.size ≤ D := hD
    gi_wp2_with fail
    have hset := Boxed.set (Value.slice vp' (partW l g (wayXs (layG l)).length).length vc') hRes
    have hnD : w.heap.size ≠ D := by omega
    refine ⟨[D], rfl, by simp, ?_, fun w' tk => ?_⟩
    · simp only [List.mem_singleton, forall_eq]
      rw [heap_setCell_other _ _ _ _ (by simpa using hnD.symm)]; exact hK
    · refine ⟨_, results_cell_tmp rfl Tryz.isAgg25 _ _ w.heap.size _ (.int .i64 0) rfl (boxed_took hset tk (by simpa using hnD)) rfl, _, by rw [HPA.out]; rfl, ?_, (hBel.setCell (Nat.le_refl _) _).trans (tk.below (by simp; omega))⟩
      rw [HPA.out]
      refine HasP.move (OwnP.has hOwn) (fun c hc => ?_)
      have h1 := (hOwn.lt c hc).1
      have hcD : c ≠ D := by
        rintro rfl
        rcases hOwn.2 with ⟨hn, _⟩ | ⟨g', cap, cur, hn, _, h2, _⟩
        · rw [hn] at hc; cases hc
        · rw [hn] at hc
          simp only [Value.ownBlock, Option.some.injEq] at hc
          subst hc
          rw [hK] at h2; cases h2
      exact (tk.block c (by simpa using hcD)).trans (heap_setCell_other _ _ _ _ (by simp; omega))
  case stop =>
    rintro ds c W _ h
    exact h.elim
end Go.Proofs.YtimnmfjbfbkooaaGreatDoor
