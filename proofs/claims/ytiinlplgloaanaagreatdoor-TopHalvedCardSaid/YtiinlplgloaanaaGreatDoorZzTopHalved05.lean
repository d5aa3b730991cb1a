/- Chapter 7 in the heap: put. -/
import Derived.Test.YtiinlplgloaanaaGreatDoorZzTopHalved04
import Derived.Test.YtiinlplgloaanaaGreatDoorZzTopHalved03

/- Chapter 7 in the heap: put. -/
namespace Go.Proofs.YtiinlplgloaanaaGreatDoor
set_option linter.all false
set_option linter.unusedSimpArgs false
set_option linter.unusedVariables false
open Go.RowKit

set_option maxRecDepth 100000 in
theorem clip_any (p : Option Addr) (n c : Nat) (hn : n ≤ c) (hc : c ≤ maxLen) (hp : p = none → c = 0) (w : World) :
    Calls Tryz.prog 138 #[.slice p n c] w fun e w' => e = .returned (.slice p n n) ∧ w' = w := by
  have hc' : c ≤ 9223372036854775807 := by simpa [maxLen] using hc
  go_enter Tryz.func138, Tryz.ntmps138
  cases p with
  | none =>
    obtain rfl := hp rfl
    obtain rfl : n = 0 := by omega
    go_wp2_with fail
    go_ret
    exact ⟨rfl, rfl⟩
  | some a =>
    go_wp2_with fail
    go_ret
    exact ⟨rfl, rfl⟩

theorem both_q {w : World} (x y : W3) (hx : okW x) (hy : okW y) (d : SubW w) : Calls Tryz.prog 75 #[w3V x, w3V y] d.1 fun e w' => e = .returned (w3V (andW x y)) ∧ ∃ d' : SubW w, w' = d'.1 := by
  refine (both_any x y hx hy d.1).mono ?_
  rintro e w' ⟨rfl, hg⟩
  exact ⟨rfl, ⟨⟨w', d.2.trans (hg.below.mono d.2.size)⟩, rfl⟩⟩
theorem or_q {w : World} (x y : W3) (hx : okW x) (hy : okW y) (d : SubW w) : Calls Tryz.prog 110 #[w3V x, w3V y] d.1 fun e w' => e = .returned (w3V (orW x y)) ∧ ∃ d' : SubW w, w' = d'.1 := by
  refine (or_any3 x y hx hy d.1).mono ?_
  rintro e w' ⟨rfl, hg⟩
  exact ⟨rfl, ⟨⟨w', d.2.trans (hg.below.mono d.2.size)⟩, rfl⟩⟩

def putPost (w : World) (s : HS) (ls : List HP) (p : HP) (k : Nat) (c : Int) (bel : W3) (e : Ending) (w' : World) : Prop :=
  ∃ (s' : HS) (ok : Bool), e = .returned (.tuple #[RS.val s', .bool ok]) ∧ (ok = true ↔ canPut s p c bel) ∧ (ok = false → s' = s) ∧
      (ok = true → s'.set = s.set ||| p.set ∧ s'.bord = orW s.bord p.bord ∧ s'.joint = orW s.joint (andW s.bord p.bord) ∧ s'.many = (fun j => if j = k then s.many k + 1 else s.many j) ∧ RP.Own w' w.heap.size s'.laid (ls ++ [p])) ∧
      Below w.heap.size w w'
theorem rs_val (lp : Option Addr) (ln lc st b0 b1 b2 j0 j1 j2 : Nat) (mn : Nat → Nat) : RS.val ⟨lp, ln, lc, st, (b0, b1, b2), (j0, j1, j2), mn⟩ = .agg #[.slice lp ln lc, .int .u64 st, .int .u64 b0, .int .u64 b1, .int .u64 b2, .int .u64 j0, .int .u64 j1, .int .u64 j2,
    .int .i64 (mn 0), .int .i64 (mn 1), .int .i64 (mn 2), .int .i64 (mn 3), .int .i64 (mn 4), .int .i64 (mn 5), .int .i64 (mn 6), .int .i64 (mn 7)] := rfl
theorem rp_val (k : Int) (m : Bool) (t x y : Int) (st b0 b1 b2 : Nat) : RP.val ⟨⟨k, m, t, x, y⟩, st, (b0, b1, b2)⟩ = .agg #[.int .i64 k, .bool m, .int .i64 t, .int .i64 x, .int .i64 y, .int .u64 st, .int .u64 b0, .int .u64 b1, .int .u64 b2] := rfl

theorem infoPc : (Tryz.prog.info? 152).map (fun i => (i.zero, i.size, i.bytes)) = some (some (.agg #[.int .i64 0, .bool false, .int .i64 0, .int .i64 0, .int .i64 0, .int .u64 0, .int .u64 0, .int .u64 0, .int .u64 0]), 9, 72) := by kernel_rfl
theorem fill_piece (p : HP) : Instr.fill (fun i => some (i * 9, 9)) ((Array.range (1 * 9)).map ((.agg #[.int .i64 0, .bool false, .int .i64 0, .int .i64 0, .int .i64 0, .int .u64 0, .int .u64 0, .int .u64 0, .int .u64 0] : Value).cells[· % (.agg #[.int .i64 0, .bool false, .int .i64 0, .int .i64 0, .int .i64 0, .int .u64 0, .int .u64 0, .int .u64 0, .int .u64 0] : Value).cells.size]!)) [(0, RP.val p)] = some (hpVals p).toArray :=
  Great.fill_whole (s := 9) (by decide) [RP.val p] _ (fun v hv => by simp only [List.mem_singleton] at hv; subst hv; rfl) (by simp)
theorem owns_weak {W : World} {b b' : Nat} {e : TypeId} {size : Nat} {v : Value} {n : Nat} {xs : List Value} (h : W.ownsRow b e size v n xs) (hb : b' ≤ b) : W.ownsRow b' e size v n xs :=
  ⟨h.1, h.2.elim .inl fun ⟨g, cap, cur, h1, h2, h3⟩ => .inr ⟨g, cap, cur, h1, Nat.le_trans hb h2, h3⟩⟩
theorem block_cells {W : World} {g : Nat} {cs : List Value} {T : TypeId} {fr : Nat × Nat} (h : W.heap[g]? = some (.cells cs.toArray T fr)) : ∀ j u, cs[j]? = some u → W.cell? ((⟨g, 0, none⟩ : Addr).add j) = some u := by
  intro j u hu
  rw [add_at]
  simp [World.cell?, h, hu]
set_option maxRecDepth 100000 in
theorem append_piece {W : World} {base : Nat} {lp : Option Addr} {ln lc : Nat} {ls : List HP} (own : RP.Own W base (.slice lp ln lc) ls) {g : Nat} {p : HP} (hg : W.heap[g]? = some (.cells (hpVals p).toArray 152 (0, 0))) (hlen : ls.length ≤ 1000) :
    ∃ v W', (Builtin.append_ #[102, 102] 102 #[.slice lp ln ln, .slice (some ⟨g, 0, none⟩) 1 1]).run Tryz.prog W = .ok v W' ∧ RP.Own W' W.heap.size v (ls ++ [p]) ∧ Below W.heap.size W W' := by
  obtain ⟨iQ, hiQ, hzQ, hsQ, hbQ⟩ := info_parts infoPc
  have hone : ∀ u ∈ hpVals p, u.oneCell' = true := RP.one p
  rcases own.2 with ⟨h1, h2⟩ | ⟨g0, cap, cur, h1, h2, h3, h4, h5, h6, h7⟩
  · simp only [Value.slice.injEq] at h1
    obtain ⟨rfl, rfl, rfl⟩ := h1
    obtain rfl := List.length_eq_zero_iff.1 h2
    obtain ⟨v, W', hr, ho, hgr, _⟩ := run_append_own (P := Tryz.prog) (w := W) W.heap.size 102 102 152 iQ _ 9 72 Tryz.underlying102 hiQ hzQ hsQ hbQ rfl (by decide) (.slice none 0 0) 0 [] (World.ownsRow_nil _ _ _ _) ⟨g, 0, none⟩ 1 1 (hpVals p) rfl (block_cells hg) hone (by simp only [maxLen]; omega) (by omega) (Nat.le_refl _)
    exact ⟨v, W', hr, RP.own_snoc (l := []) ho, (Below.refl _ W).grown hgr (Nat.le_refl _) (fun k hk => by cases hk)⟩
  · simp only [Value.slice.injEq] at h1
    obtain ⟨rfl, rfl, rfl⟩ := h1
    have hc := World.ownsRow.cells own (g := g0) rfl
    obtain ⟨v, W', hr, ho, hgr⟩ := run_append_arg_grows (P := Tryz.prog) (w := W) 102 102 152 iQ _ 9 72 Tryz.underlying102 hiQ hzQ hsQ hbQ rfl (by decide) ⟨g0, 0, none⟩ ls.length ls.length (RP.cells ls) (RP.cells_length ls) hc ⟨g, 0, none⟩ 1 1 (hpVals p) rfl (block_cells hg) (by omega) (by simp only [maxLen]; omega) (by omega)
    exact ⟨v, W', hr, RP.own_snoc ho, (Below.refl _ W).grown hgr (Nat.le_refl _) (fun k hk => by cases hk)⟩
theorem three_grew {w W1 : World} {o1 o2 o3 : Obj} (hg : Grew (((w.alloc o1).alloc o2).alloc o3) W1) :
    W1.heap[w.heap.size]? = some o1 ∧ W1.heap[w.heap.size + 1]? = some o2 ∧ W1.heap[w.heap.size + 1 + 1]? = some o3 ∧ Below w.heap.size w W1 ∧ w.heap.size + 3 ≤ W1.heap.size := by
  have hb := hg.below
  have hs : (((w.alloc o1).alloc o2).alloc o3).heap.size = w.heap.size + 3 := by simp
  have h1 : (((w.alloc o1).alloc o2).alloc o3).heap[w.heap.size]? = some o1 := (Below.heap_alloc _ _ _ (by simp; omega)).trans ((Below.heap_alloc _ _ _ (by simp)).trans (World.alloc_heap_new w _))
  have h2 : (((w.alloc o1).alloc o2).alloc o3).heap[w.heap.size + 1]? = some o2 := (Below.heap_alloc _ _ _ (by simp)).trans (second_new w _ _)
  have h3 := third_new w o1 o2 o3
  have h4 : Below w.heap.size w (((w.alloc o1).alloc o2).alloc o3) := (((Below.refl _ w).alloc (Nat.le_refl _) _).alloc (by simp) _).alloc (by simp; omega) _
  have hz := hb.size
  exact ⟨(hb.block _ (by omega)).trans h1, (hb.block _ (by omega)).trans h2, (hb.block _ (by omega)).trans h3, h4.trans (hb.mono (by omega)), by omega⟩
theorem part103 (xs : Array Value) (i : Nat) (v : Value) (h : xs[i]? = some v) (W : World) : (part 103 xs i).run Tryz.prog W = .ok v W := by
  simp [part, go_sem, h]
theorem eqW_run (x y : W3) (W : World) : (Op.equalIn 10000 105 (.agg #[.int .u64 x.1, .int .u64 x.2.1, .int .u64 x.2.2]) (.agg #[.int .u64 y.1, .int .u64 y.2.1, .int .u64 y.2.2])).run Tryz.prog W = .ok (decide (x = y)) W := by
  obtain ⟨x0, x1, x2⟩ := x
  obtain ⟨y0, y1, y2⟩ := y
  have e : decide (((x0, x1, x2) : W3) = (y0, y1, y2)) = (((x0 : Int) == (y0 : Int)) && (((x1 : Int) == (y1 : Int)) && ((x2 : Int) == (y2 : Int)))) := by
    rw [Bool.eq_iff_iff, decide_eq_true_eq, Bool.and_eq_true, Bool.and_eq_true, beq_iff_eq, beq_iff_eq, beq_iff_eq, Prod.mk.injEq, Prod.mk.injEq]
    omega
  obtain ⟨iu, hiu⟩ : ∃ i, Tryz.prog.info? 103 = some i := Option.isSome_iff_exists.1 (by kernel_rfl)
  rw [e, run_equalIn_array W 9999 _ _ Tryz.underlying105 hiu]
  simp only
  have hc : Tryz.prog.cellsOf 103 = 1 := by kernel_rfl
  rw [hc, show List.range 3 = [0, 1, 2] from rfl]
  generalize (x0 : Int) = a0
  generalize (x1 : Int) = a1
  generalize (x2 : Int) = a2
  generalize (y0 : Int) = c0
  generalize (y1 : Int) = c1
  generalize (y2 : Int) = c2
  have hx0 := part103 #[.int .u64 a0, .int .u64 a1, .int .u64 a2] (0 * 1) (.int .u64 a0) rfl
  have hx1 := part103 #[.int .u64 a0, .int .u64 a1, .int .u64 a2] (1 * 1) (.int .u64 a1) rfl
  have hx2 := part103 #[.int .u64 a0, .int .u64 a1, .int .u64 a2] (2 * 1) (.int .u64 a2) rfl
  have hy0 := part103 #[.int .u64 c0, .int .u64 c1, .int .u64 c2] (0 * 1) (.int .u64 c0) rfl
  have hy1 := part103 #[.int .u64 c0, .int .u64 c1, .int .u64 c2] (1 * 1) (.int .u64 c1) rfl
  have hy2 := part103 #[.int .u64 c0, .int .u64 c1, .int .u64 c2] (2 * 1) (.int .u64 c2) rfl
  have heq : ∀ a c : Int, (Op.equalIn 9999 103 (.int .u64 a) (.int .u64 c)).run Tryz.prog W = .ok (a == c) W := fun a c => run_equalIn_int (P := Tryz.prog) W 9998 103 .u64 .u64 a c Tryz.underlying103
  simp only [Op.eqItems, Sem.run_bind, hx0, hy0, heq, Result.andThen_ok]
  cases a0 == c0 <;> cases h1 : a1 == c1 <;> cases h2 : a2 == c2 <;> simp only [Bool.not_true, Bool.not_false, if_true, Bool.false_eq_true, if_false, Sem.run_pure, Result.andThen_ok, Sem.run_bind, hx1, hx2, hy1, hy2, heq, Bool.and_true, Bool.and_false, Bool.true_and, Bool.false_and, h1, h2]
theorem run_storeAt_one {P : Program} {T : TypeId} (hT : ∀ w, (isAgg T).run P w = .ok false w) {W : World} {g i : Nat} {cs : Array Value} {t : TypeId} (hg : W.heap[g]? = some (.cells cs t (0, 0))) {u : Value} (hi : cs[i]? = some u) (hz : ∀ w, (sizeOf T).run P w = .ok 1 w) {v : Value} (hv : v.oneCell' = true) :
    (Instr.storeAt T (.pointer (some ⟨g, i, none⟩)) v).run P W = .ok () (W.setCell ⟨g, i, none⟩ v) := by
  have hf := frozen_of_row W g i cs t hg
  have hc : W.cell? ⟨g, i, none⟩ = some u := by simp [World.cell?, hg, hi]
  simp only [Instr.storeAt, Instr.sureAddr, Sem.run_bind, Sem.run_pure, Result.andThen_ok]
  have hv' : v.cells = #[v] := by cases v <;> first | rfl | (simp [Value.oneCell'] at hv)
  simp only [storeVar, Sem.run_bind, hz, Result.andThen_ok, hv', List.size_toArray, List.length_cons, List.length_nil, Nat.zero_add, if_true]
  have ha : (⟨g, i, none⟩ : Addr).add 0 = ⟨g, i, none⟩ := rfl
  simp only [storeCells, store, ha]
  cases v <;> first | (simp [Value.oneCell'] at hv; done) | simp [Sem.run, hc, hf, Sem.run_bind, Result.andThen]
theorem fieldS0 (n : Nat) (W : World) : (Instr.fieldAt 108 (.pointer (some ⟨n, 0, none⟩)) 0).run Tryz.prog W = .ok (.pointer (some ⟨n, 0, none⟩)) W := by kernel_rfl
theorem owns_setCell {W : World} {base : Nat} {e : TypeId} {size : Nat} {v : Value} {n : Nat} {xs : List Value} (h : W.ownsRow base e size v n xs) {a : Addr} (ha : a.block < base) (u : Value) : (W.setCell a u).ownsRow base e size v n xs :=
  ⟨h.1, h.2.elim .inl fun ⟨g, cap, cur, h1, h2, h3, h4⟩ => .inr ⟨g, cap, cur, h1, h2, (heap_setCell_other _ _ _ _ (by omega)).trans h3, h4⟩⟩
theorem six_same {W : World} {A : Nat} {cs : Array Value} {T : TypeId} (h : W.heap[A]? = some (.cells cs T (0, 0))) (v2 v3 v4 v5 v6 v7 : Value) :
    ((((((W.setCell ⟨A, 2, none⟩ v2).setCell ⟨A, 3, none⟩ v3).setCell ⟨A, 4, none⟩ v4).setCell ⟨A, 5, none⟩ v5).setCell ⟨A, 6, none⟩ v6).setCell ⟨A, 7, none⟩ v7).heap[A]? = some (.cells ((((((cs.setIfInBounds 2 v2).setIfInBounds 3 v3).setIfInBounds 4 v4).setIfInBounds 5 v5).setIfInBounds 6 v6).setIfInBounds 7 v7) T (0, 0)) :=
  heap_setCell_same _ _ _ _ _ _ (heap_setCell_same _ _ _ _ _ _ (heap_setCell_same _ _ _ _ _ _ (heap_setCell_same _ _ _ _ _ _ (heap_setCell_same _ _ _ _ _ _ (heap_setCell_same _ _ _ _ _ _ h)))))
theorem six_other (W : World) {A k : Nat} (h : k ≠ A) (v2 v3 v4 v5 v6 v7 : Value) : ((((((W.setCell ⟨A, 2, none⟩ v2).setCell ⟨A, 3, none⟩ v3).setCell ⟨A, 4, none⟩ v4).setCell ⟨A, 5, none⟩ v5).setCell ⟨A, 6, none⟩ v6).setCell ⟨A, 7, none⟩ v7).heap[k]? = W.heap[k]? :=
  (heap_setCell_other _ _ _ _ h).trans ((heap_setCell_other _ _ _ _ h).trans ((heap_setCell_other _ _ _ _ h).trans ((heap_setCell_other _ _ _ _ h).trans ((heap_setCell_other _ _ _ _ h).trans (heap_setCell_other _ _ _ _ h)))))
theorem six_below {w W : World} {B A : Nat} (h : Below B w W) (hA : B ≤ A) (v2 v3 v4 v5 v6 v7 : Value) : Below B w ((((((W.setCell ⟨A, 2, none⟩ v2).setCell ⟨A, 3, none⟩ v3).setCell ⟨A, 4, none⟩ v4).setCell ⟨A, 5, none⟩ v5).setCell ⟨A, 6, none⟩ v6).setCell ⟨A, 7, none⟩ v7) :=
  (((((h.setCell (p := ⟨A, 2, none⟩) hA v2).setCell (p := ⟨A, 3, none⟩) hA v3).setCell (p := ⟨A, 4, none⟩) hA v4).setCell (p := ⟨A, 5, none⟩) hA v5).setCell (p := ⟨A, 6, none⟩) hA v6).setCell (p := ⟨A, 7, none⟩) hA v7
theorem six_owns {W : World} {base : Nat} {e : TypeId} {size : Nat} {v : Value} {n : Nat} {xs : List Value} (h : W.ownsRow base e size v n xs) {A : Nat} (hA : A < base) (v2 v3 v4 v5 v6 v7 : Value) : ((((((W.setCell ⟨A, 2, none⟩ v2).setCell ⟨A, 3, none⟩ v3).setCell ⟨A, 4, none⟩ v4).setCell ⟨A, 5, none⟩ v5).setCell ⟨A, 6, none⟩ v6).setCell ⟨A, 7, none⟩ v7).ownsRow base e size v n xs :=
  owns_setCell (owns_setCell (owns_setCell (owns_setCell (owns_setCell (owns_setCell h (a := ⟨A, 2, none⟩) hA v2) (a := ⟨A, 3, none⟩) hA v3) (a := ⟨A, 4, none⟩) hA v4) (a := ⟨A, 5, none⟩) hA v5) (a := ⟨A, 6, none⟩) hA v6) (a := ⟨A, 7, none⟩) hA v7
/-- What region 4 of put knows of its values. -/
def putF4 (A : Nat) (W3 : World) (lp : Option Addr) (ln lc : Nat) (ls : List HP) (p : HP) : Nat → Value → World → Prop
  | 0, u, _ => u = .pointer (some ⟨A, 0, none⟩)
  | 1, u, _ => u = .slice lp ln lc
  | 2, u, _ => u = .slice lp ln ln
  | 3, u, _ => u = RP.val p
  | 4, u, W => ∃ g, u = .slice (some ⟨g, 0, none⟩) 1 1 ∧ W.heap[g]? = some (.cells (hpVals p).toArray 152 (0, 0))
  | 5, u, W => RP.Own W W3.heap.size u (ls ++ [p])
  | _, u, _ => u = .pointer (some ⟨A, 0, none⟩)
theorem putF4_below {A : Nat} {W3 : World} {lp : Option Addr} {ln lc : Nat} {ls : List HP} {p : HP} (i : Nat) (u : Value) (W W' : World) (h : putF4 A W3 lp ln lc ls p i u W) (e : Below W.heap.size W W') : putF4 A W3 lp ln lc ls p i u W' := by
  unfold putF4 at *
  split at h <;> first | exact h | skip
  · obtain ⟨g, h1, h2⟩ := h
    exact ⟨g, h1, (e.block _ (Array.getElem?_eq_some_iff.1 h2).1).trans h2⟩
  · exact owns_below h e
set_option maxRecDepth 100000 in
set_option maxHeartbeats 4000000 in
theorem put_any7 (w : World) (bb : Nat) (bv : BV) (t : Tk) (L : List E) (ps : List (List HP)) (bel : W3) (hb : BdAt w bb bv t L ps bel) (hbel : okW bel)
    (s : HS) (ls : List HP) (base : Nat) (hs : RP.Own w base s.laid ls) (hs1 : s.set < 2 ^ 64) (hs2 : okW s.bord) (hs3 : okW s.joint) (hs4 : ∀ k, s.many k ≤ 64) (hls : ls.length ≤ 64)
    (p : HP) (hp1 : p.set < 2 ^ 64) (hp2 : okW p.bord) (k : Nat) (hk : p.ld.kind = k) (c : Int) (hc : t.counts[k]? = some c) (hc0 : 0 ≤ c ∧ c ≤ 16) (hk8 : k < 8) :
    Calls Tryz.prog 112 #[.pointer (some ⟨bb, 0, none⟩), RS.val s, RP.val p] w (putPost w s ls p k c bel) := by
  obtain ⟨lp, ln, lc, st, ⟨b0, b1, b2⟩, ⟨j0, j1, j2⟩, mn⟩ := s
  obtain ⟨⟨kk, m, tt, x, y⟩, pst, ⟨q0, q1, q2⟩⟩ := p
  simp only at hk hs1 hp1
  subst hk
  have HB := Lib.hid hb; clear hb
  have HBEL := Lib.hid hbel; clear hbel
  have HS' := Lib.hid hs; clear hs
  have H2 := Lib.hid hs2; clear hs2
  have H3 := Lib.hid hs3; clear hs3
  have H4 := Lib.hid hs4; clear hs4
  have HP2 := Lib.hid hp2; clear hp2
  have HC := Lib.hid hc; clear hc
  rw [rs_val, rp_val]
  generalize hPo : putPost w _ ls _ k c bel = Po
  have HPO := Lib.hid hPo; clear hPo
  go_enter Tryz.func112, Tryz.ntmps112
  go_wp2_with fail
  refine (both_any (b0, b1, b2) (q0, q1, q2) H2.out HP2.out _).mono ?_
  rintro e w1 ⟨rfl, hg⟩
  obtain ⟨hA, hP, hR, hB, hsz⟩ := three_grew hg
  clear hg
  unfold w3V andW
  simp only
  go_wp2_with fail
  have hJ := World.alloc_heap_new w1 (.cells #[.int .u64 (b0 &&& q0 : Nat), .int .u64 (b1 &&& q1 : Nat), .int .u64 (b2 &&& q2 : Nat)] 105)
  have hA' := heapO (.cells #[.int .u64 (b0 &&& q0 : Nat), .int .u64 (b1 &&& q1 : Nat), .int .u64 (b2 &&& q2 : Nat)] 105) hA
  have hP' := heapO (.cells #[.int .u64 (b0 &&& q0 : Nat), .int .u64 (b1 &&& q1 : Nat), .int .u64 (b2 &&& q2 : Nat)] 105) hP
  have hR' := heapO (.cells #[.int .u64 (b0 &&& q0 : Nat), .int .u64 (b1 &&& q1 : Nat), .int .u64 (b2 &&& q2 : Nat)] 105) hR
  have hB' := hB.alloc hB.size (.cells #[.int .u64 (b0 &&& q0 : Nat), .int .u64 (b1 &&& q1 : Nat), .int .u64 (b2 &&& q2 : Nat)] 105)
  have hsW : (w1.alloc (.cells #[.int .u64 (b0 &&& q0 : Nat), .int .u64 (b1 &&& q1 : Nat), .int .u64 (b2 &&& q2 : Nat)] 105)).heap.size = w1.heap.size + 1 := World.size_alloc _ _
  clear hA hP hR hB
  revert hJ hA' hP' hR' hB' hsW
  generalize w1.alloc (.cells #[.int .u64 (b0 &&& q0 : Nat), .int .u64 (b1 &&& q1 : Nat), .int .u64 (b2 &&& q2 : Nat)] 105) = W
  revert hsz
  generalize w1.heap.size = J
  intro hsz hJ hA hP hR hB hsW
  have hbd := HB.out.keep hB
  have hlt : k < t.counts.length := (List.getElem?_eq_some_iff.1 HC.out).1
  obtain ⟨ca, cc0, hca, hcc⟩ : ∃ (ca : Addr) (cc0 : Nat), bv.c = .slice (some ca) t.counts.length cc0 ∧ ∀ d : SubW W, d.1.cell? (ca.add k) = some (.int .i64 c) := by
    rcases hbd.counts with ⟨_, h0⟩ | ⟨ca, cc0, h1, h2, h3, h4⟩
    · rw [h0] at hlt; simp at hlt
    · refine ⟨ca, cc0, h1, fun d => ?_⟩
      have := (h4.below d.2).at_ k c HC.out 0 (.int .i64 c) rfl
      simpa [RI] using this
  have hblk := hbd.blk
  rw [hca] at hblk
  have a1 : ∀ d : SubW W, d.1.cell? ⟨w.heap.size, 1, none⟩ = some (.int .u64 st) := fun d => by simp [World.cell?, d.block hA]
  have ak : ∀ d : SubW W, d.1.cell? ⟨w.heap.size, 8 + k, none⟩ = some (.int .i64 (mn k)) := fun d => by
    rcases (by omega : k = 0 ∨ k = 1 ∨ k = 2 ∨ k = 3 ∨ k = 4 ∨ k = 5 ∨ k = 6 ∨ k = 7) with rfl | rfl | rfl | rfl | rfl | rfl | rfl | rfl <;> simp [World.cell?, d.block hA]
  have p0 : ∀ d : SubW W, d.1.cell? ⟨w.heap.size + 1, 0, none⟩ = some (.int .i64 k) := fun d => by simp [World.cell?, d.block hP]
  have p5 : ∀ d : SubW W, d.1.cell? ⟨w.heap.size + 1, 5, none⟩ = some (.int .u64 pst) := fun d => by simp [World.cell?, d.block hP]
  have b2c : ∀ d : SubW W, d.1.cell? ⟨bb, 2, none⟩ = some (.slice (some ca) t.counts.length cc0) := fun d => by simp [World.cell?, d.block hblk]
  have be8 : ∀ d : SubW W, d.1.cell? ⟨bb, 8, none⟩ = some (.int .u64 bel.1) := fun d => by simp [World.cell?, d.block hblk]
  have be9 : ∀ d : SubW W, d.1.cell? ⟨bb, 9, none⟩ = some (.int .u64 bel.2.1) := fun d => by simp [World.cell?, d.block hblk]
  have be10 : ∀ d : SubW W, d.1.cell? ⟨bb, 10, none⟩ = some (.int .u64 bel.2.2) := fun d => by simp [World.cell?, d.block hblk]
  have J0 : ∀ d : SubW W, d.1.cell? ⟨J, 0, none⟩ = some (.int .u64 (b0 &&& q0 : Nat)) := fun d => by simp [World.cell?, d.block hJ]
  have J1 : ∀ d : SubW W, d.1.cell? ⟨J, 1, none⟩ = some (.int .u64 (b1 &&& q1 : Nat)) := fun d => by simp [World.cell?, d.block hJ]
  have J2 : ∀ d : SubW W, d.1.cell? ⟨J, 2, none⟩ = some (.int .u64 (b2 &&& q2 : Nat)) := fun d => by simp [World.cell?, d.block hJ]
  clear hblk
  have cc := hcc
  clear hcc
  have u1 := and64 hs1 hp1
  by_cases h1 : st &&& pst = 0
  case neg =>
    have v1 : (((st &&& pst : Nat) : Int) != 0) = true := by simpa using h1
    have HN : Hid ¬ canPut ⟨lp, ln, lc, st, (b0, b1, b2), (j0, j1, j2), mn⟩ ⟨⟨k, m, tt, x, y⟩, pst, (q0, q1, q2)⟩ c bel := Lib.hid fun h => h1 h.1
    clear h1
    refine wp_region_qb 35 (by kernel_rfl) (by kernel_rfl) ?_
    simp only [List.take_succ_cons, List.take_zero, List.drop_succ_cons, List.drop_zero]
    repeat (go_big_quiet_step (fail))
    refine wpQuiet_nil ?_
    intro dq
    have hA3 := dq.block hA
    have hR3 := dq.block hR
    have hB3 := hB.trans (dq.2.mono hB.size)
    revert hA3 hR3 hB3
    generalize dq.1 = W3
    intro hA3 hR3 hB3
    clear hJ hA hP hR hB hsW hbd a1 p0 p5 ak cc b2c be8 be9 be10 J0 J1 J2
    go_wp2_with (first
      | (refine wpList_load_row rfl 108 _ rfl w.heap.size rfl 108 _ (0, 0) _ hA3 Tryz.underlying108 rfl sizeS ?_)
      | (refine wpList_store_row rfl 108 _ _ rfl (w.heap.size + 1 + 1) rfl 108 _ #[.slice lp ln lc, .int .u64 st, .int .u64 b0, .int .u64 b1, .int .u64 b2, .int .u64 j0, .int .u64 j1, .int .u64 j2, .int .i64 (mn 0), .int .i64 (mn 1), .int .i64 (mn 2), .int .i64 (mn 3), .int .i64 (mn 4), .int .i64 (mn 5), .int .i64 (mn 6), .int .i64 (mn 7)] rfl hR3 sizeS rfl (by simp [Value.oneCell']) ?_))
    refine bodyPost_ret (results_row_tmp rfl Tryz.underlying108 rfl _ _ (w.heap.size + 1 + 1) #[.slice lp ln lc, .int .u64 st, .int .u64 b0, .int .u64 b1, .int .u64 b2, .int .u64 j0, .int .u64 j1, .int .u64 j2, .int .i64 (mn 0), .int .i64 (mn 1), .int .i64 (mn 2), .int .i64 (mn 3), .int .i64 (mn 4), .int .i64 (mn 5), .int .i64 (mn 6), .int .i64 (mn 7)] (0, 0) (.bool false) (setRow_heap _ _ _ _ _ _ hR3) sizeS rfl rfl) rfl ?_
    rw [← HPO.out]
    exact ⟨⟨lp, ln, lc, st, (b0, b1, b2), (j0, j1, j2), mn⟩, false, rfl, ⟨fun h => (by cases h), fun h => (HN.out h).elim⟩, fun _ => rfl, fun h => (by cases h), setRow_below hB3 (by omega) _⟩
  have v1 : (((st &&& pst : Nat) : Int) != 0) = false := by simpa using h1
  have HS1 := Lib.hid h1; clear h1
  by_cases h2 : (mn k : Int) < c
  case neg =>
    have v2 : decide (c ≤ (mn k : Int)) = true := by simp; omega
    have HN : Hid ¬ canPut ⟨lp, ln, lc, st, (b0, b1, b2), (j0, j1, j2), mn⟩ ⟨⟨k, m, tt, x, y⟩, pst, (q0, q1, q2)⟩ c bel := Lib.hid fun h => h2 (by simpa using h.2.1)
    clear h2
    refine wp_region_qb 35 (by kernel_rfl) (by kernel_rfl) ?_
    simp only [List.take_succ_cons, List.take_zero, List.drop_succ_cons, List.drop_zero]
    repeat (go_big_quiet_step (fail))
    refine wpQuiet_nil ?_
    intro dq
    have hA3 := dq.block hA
    have hR3 := dq.block hR
    have hB3 := hB.trans (dq.2.mono hB.size)
    revert hA3 hR3 hB3
    generalize dq.1 = W3
    intro hA3 hR3 hB3
    clear hJ hA hP hR hB hsW hbd a1 p0 p5 ak cc b2c be8 be9 be10 J0 J1 J2
    go_wp2_with (first
      | (refine wpList_load_row rfl 108 _ rfl w.heap.size rfl 108 _ (0, 0) _ hA3 Tryz.underlying108 rfl sizeS ?_)
      | (refine wpList_store_row rfl 108 _ _ rfl (w.heap.size + 1 + 1) rfl 108 _ #[.slice lp ln lc, .int .u64 st, .int .u64 b0, .int .u64 b1, .int .u64 b2, .int .u64 j0, .int .u64 j1, .int .u64 j2, .int .i64 (mn 0), .int .i64 (mn 1), .int .i64 (mn 2), .int .i64 (mn 3), .int .i64 (mn 4), .int .i64 (mn 5), .int .i64 (mn 6), .int .i64 (mn 7)] rfl hR3 sizeS rfl (by simp [Value.oneCell']) ?_))
    refine bodyPost_ret (results_row_tmp rfl Tryz.underlying108 rfl _ _ (w.heap.size + 1 + 1) #[.slice lp ln lc, .int .u64 st, .int .u64 b0, .int .u64 b1, .int .u64 b2, .int .u64 j0, .int .u64 j1, .int .u64 j2, .int .i64 (mn 0), .int .i64 (mn 1), .int .i64 (mn 2), .int .i64 (mn 3), .int .i64 (mn 4), .int .i64 (mn 5), .int .i64 (mn 6), .int .i64 (mn 7)] (0, 0) (.bool false) (setRow_heap _ _ _ _ _ _ hR3) sizeS rfl rfl) rfl ?_
    rw [← HPO.out]
    exact ⟨⟨lp, ln, lc, st, (b0, b1, b2), (j0, j1, j2), mn⟩, false, rfl, ⟨fun h => (by cases h), fun h => (HN.out h).elim⟩, fun _ => rfl, fun h => (by cases h), setRow_below hB3 (by omega) _⟩
  have v2 : decide (c ≤ (mn k : Int)) = false := by simp; omega
  have HS2 := Lib.hid h2; clear h2
  obtain ⟨z0, z1, z2, hz⟩ : ∃ z0 z1 z2, andW (andW (b0, b1, b2) (q0, q1, q2)) bel = (z0, z1, z2) := ⟨_, _, _, rfl⟩
  have hcall : ∀ d : SubW W, Calls Tryz.prog 75 #[.agg #[.int .u64 (b0 &&& q0 : Nat), .int .u64 (b1 &&& q1 : Nat), .int .u64 (b2 &&& q2 : Nat)], .agg #[.int .u64 bel.1, .int .u64 bel.2.1, .int .u64 bel.2.2]] d.1
      fun e w' => e = .returned (.agg #[.int .u64 z0, .int .u64 z1, .int .u64 z2]) ∧ ∃ d' : SubW W, w' = d'.1 := fun d => by
    have := both_q (andW (b0, b1, b2) (q0, q1, q2)) bel (okW_and HP2.out) HBEL.out d
    rw [hz] at this
    exact this
  have HZ := Lib.hid hz; clear hz
  have HCALL := Lib.hid hcall; clear hcall
  have heq : ∀ d : SubW W, (Op.equalIn 10000 105 (.agg #[.int .u64 z0, .int .u64 z1, .int .u64 z2]) (.agg #[.int .u64 0, .int .u64 0, .int .u64 0])).run Tryz.prog d.1 = .ok (decide (((z0, z1, z2) : W3) = (0, 0, 0))) d.1 := fun d => eqW_run (z0, z1, z2) (0, 0, 0) d.1
  by_cases h3 : ((z0, z1, z2) : W3) = (0, 0, 0)
  case neg =>
    have heq2 : ∀ d : SubW W, (Op.equalIn 10000 105 (.agg #[.int .u64 z0, .int .u64 z1, .int .u64 z2]) (.agg #[.int .u64 0, .int .u64 0, .int .u64 0])).run Tryz.prog d.1 = .ok false d.1 := fun d => by rw [heq d, decide_eq_false h3]
    clear heq
    have HN : Hid ¬ canPut ⟨lp, ln, lc, st, (b0, b1, b2), (j0, j1, j2), mn⟩ ⟨⟨k, m, tt, x, y⟩, pst, (q0, q1, q2)⟩ c bel := Lib.hid fun h => h3 (HZ.out ▸ h.2.2)
    clear h3
    refine wp_region_qb 35 (by kernel_rfl) (by kernel_rfl) ?_
    simp only [List.take_succ_cons, List.take_zero, List.drop_succ_cons, List.drop_zero]
    repeat (go_big_quiet_step ((exact HCALL.out _)))
    refine wpQuiet_nil ?_
    intro dq
    have hA3 := dq.block hA
    have hR3 := dq.block hR
    have hB3 := hB.trans (dq.2.mono hB.size)
    revert hA3 hR3 hB3
    generalize dq.1 = W3
    intro hA3 hR3 hB3
    clear hJ hA hP hR hB hsW hbd a1 p0 p5 ak cc b2c be8 be9 be10 J0 J1 J2
    go_wp2_with (first
      | (refine wpList_load_row rfl 108 _ rfl w.heap.size rfl 108 _ (0, 0) _ hA3 Tryz.underlying108 rfl sizeS ?_)
      | (refine wpList_store_row rfl 108 _ _ rfl (w.heap.size + 1 + 1) rfl 108 _ #[.slice lp ln lc, .int .u64 st, .int .u64 b0, .int .u64 b1, .int .u64 b2, .int .u64 j0, .int .u64 j1, .int .u64 j2, .int .i64 (mn 0), .int .i64 (mn 1), .int .i64 (mn 2), .int .i64 (mn 3), .int .i64 (mn 4), .int .i64 (mn 5), .int .i64 (mn 6), .int .i64 (mn 7)] rfl hR3 sizeS rfl (by simp [Value.oneCell']) ?_))
    refine bodyPost_ret (results_row_tmp rfl Tryz.underlying108 rfl _ _ (w.heap.size + 1 + 1) #[.slice lp ln lc, .int .u64 st, .int .u64 b0, .int .u64 b1, .int .u64 b2, .int .u64 j0, .int .u64 j1, .int .u64 j2, .int .i64 (mn 0), .int .i64 (mn 1), .int .i64 (mn 2), .int .i64 (mn 3), .int .i64 (mn 4), .int .i64 (mn 5), .int .i64 (mn 6), .int .i64 (mn 7)] (0, 0) (.bool false) (setRow_heap _ _ _ _ _ _ hR3) sizeS rfl rfl) rfl ?_
    rw [← HPO.out]
    exact ⟨⟨lp, ln, lc, st, (b0, b1, b2), (j0, j1, j2), mn⟩, false, rfl, ⟨fun h => (by cases h), fun h => (HN.out h).elim⟩, fun _ => rfl, fun h => (by cases h), setRow_below hB3 (by omega) _⟩
  have heq2 : ∀ d : SubW W, (Op.equalIn 10000 105 (.agg #[.int .u64 z0, .int .u64 z1, .int .u64 z2]) (.agg #[.int .u64 0, .int .u64 0, .int .u64 0])).run Tryz.prog d.1 = .ok true d.1 := fun d => by rw [heq d, decide_eq_true h3]
  clear heq
  have HS3 := Lib.hid h3; clear h3
  refine wp_region_qb 35 (by kernel_rfl) (by kernel_rfl) ?_
  simp only [List.take_succ_cons, List.take_zero, List.drop_succ_cons, List.drop_zero]
  repeat (go_big_quiet_step ((exact HCALL.out _)))
  refine wpQuiet_nil ?_
  intro dq
  have hA3 := dq.block hA
  have hP3 := dq.block hP
  have hR3 := dq.block hR
  have hJ3 := dq.block hJ
  have hB3 := hB.trans (dq.2.mono hB.size)
  have hs3 := dq.2.size
  revert hA3 hP3 hR3 hJ3 hB3 hs3
  generalize dq.1 = W3
  intro hA3 hP3 hR3 hJ3 hB3 hs3
  clear hJ hA hP hR hB hbd a1 p0 p5 ak cc b2c be8 be9 be10 J0 J1 J2 heq2 HCALL u1 v1 v2
  go_wp2_with fail
  have hPc : W3.heap[w.heap.size + 1]? = some (.cells (hpVals ⟨⟨k, m, tt, x, y⟩, pst, (q0, q1, q2)⟩).toArray 152 (0, 0)) := hP3
  have hown3 : RP.Own W3 base (.slice lp ln lc) ls := owns_below HS'.out hB3
  have HOWN := Lib.hid hown3; clear hown3
  refine wp_region_held 7 84 [] (by kernel_rfl) (by kernel_rfl) rfl (fun W => Below W3.heap.size W3 W) (putF4 w.heap.size W3 lp ln lc ls ⟨⟨k, m, tt, x, y⟩, pst, (q0, q1, q2)⟩) (fun W W' h e => h.trans (e.mono h.size)) putF4_below (Joins.below_draws _ W3 1) ?_ ?_
  · simp only [List.take_succ_cons, List.take_zero, heldFrom, heldAt]
    refine ⟨?_, ?_, ?_, ?_, ?_, ?_, ?_, trivial⟩
    · intro b W vals K hI
      have e : b.eval (.tmp 4) = .pointer (some ⟨w.heap.size, 0, none⟩) := (K.was 4 (by kernel_rfl)).trans rfl
      refine lu_v (I := Instr.fieldAt 108 (b.eval (.tmp 4)) 0) rfl ?_ ⟨Below.refl _ _, rfl⟩
      rw [e]; exact fieldS0 _ _
    · intro b W vals K hI
      obtain ⟨e, f⟩ := K.val 0 50 (by kernel_rfl)
      have f' : vals 0 = .pointer (some ⟨w.heap.size, 0, none⟩) := f
      refine lu_v (I := Instr.loadAt 102 (b.eval (.tmp 50))) rfl ?_ ⟨Below.refl _ _, rfl⟩
      rw [e, f']; exact run_loadAt_cell Tryz.isAgg102 (by simp [World.cell?, (hI.block _ (Array.getElem?_eq_some_iff.1 hA3).1).trans hA3])
    · intro b W vals K hI
      obtain ⟨e, f⟩ := K.val 1 51 (by kernel_rfl)
      have f' : vals 1 = .slice lp ln lc := f
      refine lu_call (args := #[.slice lp ln lc]) rfl (by simp only [List.map_toArray, List.map_cons, List.map_nil, e, f']) (enters_of Tryz.func138 (by kernel_rfl) rfl) ?_
      have hcl : ln ≤ lc ∧ lc ≤ maxLen ∧ (lp = none → lc = 0) := by
        rcases HOWN.out.2 with ⟨h1, h2⟩ | ⟨g0, cap, cur, h1, h2, h3, h4, h5, h6⟩
        · simp only [Value.slice.injEq] at h1
          obtain ⟨rfl, rfl, rfl⟩ := h1
          exact ⟨Nat.le_refl _, by decide, fun _ => rfl⟩
        · simp only [Value.slice.injEq] at h1
          obtain ⟨rfl, rfl, rfl⟩ := h1
          exact ⟨h4, h5, fun h => by cases h⟩
      refine (clip_any lp ln lc hcl.1 hcl.2.1 hcl.2.2 W).mono ?_
      rintro e w' ⟨rfl, rfl⟩
      exact ⟨_, rfl, Below.refl _ _, rfl⟩
    · intro b W vals K hI
      have e : b.eval (.tmp 5) = .pointer (some ⟨w.heap.size + 1, 0, none⟩) := (K.was 5 (by kernel_rfl)).trans rfl
      refine lu_v (I := Instr.loadAt 152 (b.eval (.tmp 5))) rfl ?_ ⟨Below.refl _ _, rfl⟩
      rw [e]
      have := run_loadVar_row (P := Tryz.prog) W (w.heap.size + 1) 152 152 _ (0, 0) _ ((hI.block _ (Array.getElem?_eq_some_iff.1 hPc).1).trans hPc) Tryz.underlying152 rfl sizeP
      simp only [Instr.loadAt, Instr.sureAddr, Sem.run_bind, Sem.run_pure, Result.andThen_ok, this, REnc.val]
      rfl
    · intro b W vals K hI
      obtain ⟨e, f⟩ := K.val 3 53 (by kernel_rfl)
      have f' : vals 3 = RP.val ⟨⟨k, m, tt, x, y⟩, pst, (q0, q1, q2)⟩ := f
      obtain ⟨iI, hiI, hzI, hsI, hbI⟩ := info_parts infoPc
      refine run_build1_exec rfl (e.trans f') Tryz.underlying102 hiI hzI (by rw [hsI]; decide) (by rw [hsI]; decide) (cells := (hpVals ⟨⟨k, m, tt, x, y⟩, pst, (q0, q1, q2)⟩).toArray) (by rw [hsI]; exact fill_piece _) ?_
      exact ⟨(Below.refl _ W).alloc (Nat.le_refl _) _, W.heap.size, rfl, World.alloc_heap_new W _⟩
    · intro b W vals K hI
      obtain ⟨e1, f1⟩ := K.val 2 52 (by kernel_rfl)
      obtain ⟨e2, f2⟩ := K.val 4 54 (by kernel_rfl)
      have g1 : vals 2 = .slice lp ln ln := f1
      obtain ⟨g, g2, hg⟩ : ∃ g, vals 4 = .slice (some ⟨g, 0, none⟩) 1 1 ∧ W.heap[g]? = some (.cells (hpVals ⟨⟨k, m, tt, x, y⟩, pst, (q0, q1, q2)⟩).toArray 152 (0, 0)) := f2
      obtain ⟨v, W', hr, ho, hbW⟩ := append_piece (owns_below HOWN.out hI) hg (by omega)
      refine run_append_exec rfl (e1.trans g1) (e2.trans g2) hr ⟨hbW, ?_⟩
      exact owns_weak ho hI.size
    · intro b W vals K hI
      have e : b.eval (.tmp 4) = .pointer (some ⟨w.heap.size, 0, none⟩) := (K.was 4 (by kernel_rfl)).trans rfl
      refine lu_v (I := Instr.fieldAt 108 (b.eval (.tmp 4)) 0) rfl ?_ ⟨Below.refl _ _, rfl⟩
      rw [e]; exact fieldS0 _ _
  · intro W vals hI hf
    have g0 : vals 0 = .pointer (some ⟨w.heap.size, 0, none⟩) := hf 0 (by decide)
    have g1 : vals 1 = .slice lp ln lc := hf 1 (by decide)
    have g2 : vals 2 = .slice lp ln ln := hf 2 (by decide)
    have g3 : vals 3 = RP.val ⟨⟨k, m, tt, x, y⟩, pst, (q0, q1, q2)⟩ := hf 3 (by decide)
    obtain ⟨g, g4, _⟩ : ∃ g, vals 4 = .slice (some ⟨g, 0, none⟩) 1 1 ∧ W.heap[g]? = some (.cells (hpVals ⟨⟨k, m, tt, x, y⟩, pst, (q0, q1, q2)⟩).toArray 152 (0, 0)) := hf 4 (by decide)
    have g5 : RP.Own W W3.heap.size (vals 5) (ls ++ [⟨⟨k, m, tt, x, y⟩, pst, (q0, q1, q2)⟩]) := hf 5 (by decide)
    have g6 : vals 6 = .pointer (some ⟨w.heap.size, 0, none⟩) := hf 6 (by decide)
    obtain ⟨np, nc, hn⟩ := g5.has.slice
    rw [hn] at g5
    rw [rp_val] at g3
    have hA4 := (hI.block _ (Array.getElem?_eq_some_iff.1 hA3).1).trans hA3
    have hP4 := (hI.block _ (Array.getElem?_eq_some_iff.1 hP3).1).trans hP3
    have hR4 := (hI.block _ (Array.getElem?_eq_some_iff.1 hR3).1).trans hR3
    have hJ4 := (hI.block _ (Array.getElem?_eq_some_iff.1 hJ3).1).trans hJ3
    have hB4 := hB3.trans (hI.mono hB3.size)
    simp only [List.take_succ_cons, List.take_zero, List.range_succ, List.range_zero, List.nil_append, List.cons_append, List.map_cons, List.map_nil, putAll, Act.put, List.setIfInBounds_toArray, List.set_cons_zero, List.set_cons_succ, g0, g1, g2, g3, g4, hn, g6]
    show wpActs _ _ _ _ 0 [7] _ _
    refine acts_store (i := 7) (T := 102) (x := .tmp 56) (y := .tmp 55) (q := ⟨w.heap.size, 0, none⟩) (v := .slice np (ls ++ [⟨⟨k, m, tt, x, y⟩, pst, (q0, q1, q2)⟩] : List HP).length nc) (w' := W.setCell ⟨w.heap.size, 0, none⟩ (.slice np (ls ++ [⟨⟨k, m, tt, x, y⟩, pst, (q0, q1, q2)⟩] : List HP).length nc)) rfl rfl rfl ?_ ?_ ?_ trivial ?_
    · rfl
    · rfl
    · exact run_storeAt_one Tryz.isAgg102 hA4 rfl Tryz.sizeOf102 rfl
    refine acts_nil ?_
    have hA5 : (W.setCell ⟨w.heap.size, 0, none⟩ (.slice np (ls ++ [⟨⟨k, m, tt, x, y⟩, pst, (q0, q1, q2)⟩] : List HP).length nc)).heap[w.heap.size]? = some (.cells #[.slice np (ls ++ [⟨⟨k, m, tt, x, y⟩, pst, (q0, q1, q2)⟩] : List HP).length nc, .int .u64 st, .int .u64 b0, .int .u64 b1, .int .u64 b2, .int .u64 j0, .int .u64 j1, .int .u64 j2, .int .i64 (mn 0), .int .i64 (mn 1), .int .i64 (mn 2), .int .i64 (mn 3), .int .i64 (mn 4), .int .i64 (mn 5), .int .i64 (mn 6), .int .i64 (mn 7)] 108 (0, 0)) := heap_setCell_same _ _ _ _ _ _ hA4
    have hP5 := (heap_setCell_other W ⟨w.heap.size, 0, none⟩ (w.heap.size + 1) (.slice np (ls ++ [⟨⟨k, m, tt, x, y⟩, pst, (q0, q1, q2)⟩] : List HP).length nc) (by simp)).trans hP4
    have hR5 := (heap_setCell_other W ⟨w.heap.size, 0, none⟩ (w.heap.size + 1 + 1) (.slice np (ls ++ [⟨⟨k, m, tt, x, y⟩, pst, (q0, q1, q2)⟩] : List HP).length nc) (by simp; omega)).trans hR4
    have hJ5 := (heap_setCell_other W ⟨w.heap.size, 0, none⟩ J (.slice np (ls ++ [⟨⟨k, m, tt, x, y⟩, pst, (q0, q1, q2)⟩] : List HP).length nc) (by simp; omega)).trans hJ4
    have hB5 : Below w.heap.size w (W.setCell ⟨w.heap.size, 0, none⟩ (.slice np (ls ++ [⟨⟨k, m, tt, x, y⟩, pst, (q0, q1, q2)⟩] : List HP).length nc)) := hB4.setCell (Nat.le_refl _) _
    have hO5 := owns_setCell g5 (a := ⟨w.heap.size, 0, none⟩) (by simp; omega) (.slice np (ls ++ [⟨⟨k, m, tt, x, y⟩, pst, (q0, q1, q2)⟩] : List HP).length nc)
    clear hA4 hP4 hR4 hJ4 hB4 hA3 hP3 hR3 hJ3 hB3 hPc hf hI g0 g1 g2 g3 g4 g5 g6 hn
    revert hA5 hP5 hR5 hJ5 hB5 hO5
    generalize W.setCell ⟨w.heap.size, 0, none⟩ (.slice np (ls ++ [⟨⟨k, m, tt, x, y⟩, pst, (q0, q1, q2)⟩] : List HP).length nc) = W5
    intro hA5 hP5 hR5 hJ5 hB5 hO5
    have HO5 := Lib.hid hO5; clear hO5
    revert HO5 hA5
    generalize hn5 : (ls ++ [⟨⟨k, m, tt, x, y⟩, pst, (q0, q1, q2)⟩] : List HP).length = n5
    have HN5 := Lib.hid hn5; clear hn5
    intro hA5 HO5
    have a1 : W5.cell? ⟨w.heap.size, 1, none⟩ = some (.int .u64 st) := by simp [World.cell?, hA5]
    have af : W5.frozen? ⟨w.heap.size, 1, none⟩ = false := frozen_of_row W5 _ 1 _ _ hA5
    have p5 : W5.cell? ⟨w.heap.size + 1, 5, none⟩ = some (.int .u64 pst) := by simp [World.cell?, hP5]
    have o1 := or64 hs1 hp1
    go_wp2_with fail
    have hA6 : (W5.setCell ⟨w.heap.size, 1, none⟩ (.int .u64 (st ||| pst : Nat))).heap[w.heap.size]? = some (.cells #[.slice np n5 nc, .int .u64 (st ||| pst : Nat), .int .u64 b0, .int .u64 b1, .int .u64 b2, .int .u64 j0, .int .u64 j1, .int .u64 j2, .int .i64 (mn 0), .int .i64 (mn 1), .int .i64 (mn 2), .int .i64 (mn 3), .int .i64 (mn 4), .int .i64 (mn 5), .int .i64 (mn 6), .int .i64 (mn 7)] 108 (0, 0)) := heap_setCell_same _ _ _ _ _ _ hA5
    have hP6 := (heap_setCell_other W5 ⟨w.heap.size, 1, none⟩ (w.heap.size + 1) (.int .u64 (st ||| pst : Nat)) (by simp)).trans hP5
    have hR6 := (heap_setCell_other W5 ⟨w.heap.size, 1, none⟩ (w.heap.size + 1 + 1) (.int .u64 (st ||| pst : Nat)) (by simp; omega)).trans hR5
    have hJ6 := (heap_setCell_other W5 ⟨w.heap.size, 1, none⟩ J (.int .u64 (st ||| pst : Nat)) (by simp; omega)).trans hJ5
    have hB6 : Below w.heap.size w (W5.setCell ⟨w.heap.size, 1, none⟩ (.int .u64 (st ||| pst : Nat))) := hB5.setCell (Nat.le_refl _) _
    have hO6 := owns_setCell HO5.out (a := ⟨w.heap.size, 1, none⟩) (by simp; omega) (.int .u64 (st ||| pst : Nat))
    have HO6 := Lib.hid hO6; clear hO6
    clear hA5 hP5 hR5 hJ5 hB5 HO5 a1 af p5 o1
    revert hA6 hP6 hR6 hJ6 hB6 HO6
    generalize W5.setCell ⟨w.heap.size, 1, none⟩ (.int .u64 (st ||| pst : Nat)) = W6
    intro hA6 hP6 hR6 hJ6 hB6 HO6
    have a2 : ∀ d : SubW W6, d.1.cell? ⟨w.heap.size, 2, none⟩ = some (.int .u64 b0) := fun d => by simp [World.cell?, d.block hA6]
    have a3 : ∀ d : SubW W6, d.1.cell? ⟨w.heap.size, 3, none⟩ = some (.int .u64 b1) := fun d => by simp [World.cell?, d.block hA6]
    have a4 : ∀ d : SubW W6, d.1.cell? ⟨w.heap.size, 4, none⟩ = some (.int .u64 b2) := fun d => by simp [World.cell?, d.block hA6]
    have a5 : ∀ d : SubW W6, d.1.cell? ⟨w.heap.size, 5, none⟩ = some (.int .u64 j0) := fun d => by simp [World.cell?, d.block hA6]
    have a6 : ∀ d : SubW W6, d.1.cell? ⟨w.heap.size, 6, none⟩ = some (.int .u64 j1) := fun d => by simp [World.cell?, d.block hA6]
    have a7 : ∀ d : SubW W6, d.1.cell? ⟨w.heap.size, 7, none⟩ = some (.int .u64 j2) := fun d => by simp [World.cell?, d.block hA6]
    have p6 : ∀ d : SubW W6, d.1.cell? ⟨w.heap.size + 1, 6, none⟩ = some (.int .u64 q0) := fun d => by simp [World.cell?, d.block hP6]
    have p7 : ∀ d : SubW W6, d.1.cell? ⟨w.heap.size + 1, 7, none⟩ = some (.int .u64 q1) := fun d => by simp [World.cell?, d.block hP6]
    have p8 : ∀ d : SubW W6, d.1.cell? ⟨w.heap.size + 1, 8, none⟩ = some (.int .u64 q2) := fun d => by simp [World.cell?, d.block hP6]
    have J0 : ∀ d : SubW W6, d.1.cell? ⟨J, 0, none⟩ = some (.int .u64 (b0 &&& q0 : Nat)) := fun d => by simp [World.cell?, d.block hJ6]
    have J1 : ∀ d : SubW W6, d.1.cell? ⟨J, 1, none⟩ = some (.int .u64 (b1 &&& q1 : Nat)) := fun d => by simp [World.cell?, d.block hJ6]
    have J2 : ∀ d : SubW W6, d.1.cell? ⟨J, 2, none⟩ = some (.int .u64 (b2 &&& q2 : Nat)) := fun d => by simp [World.cell?, d.block hJ6]
    have HOR1 : Hid (∀ d : SubW W6, Calls Tryz.prog 110 #[.agg #[.int .u64 b0, .int .u64 b1, .int .u64 b2], .agg #[.int .u64 q0, .int .u64 q1, .int .u64 q2]] d.1
      fun e w' => e = .returned (.agg #[.int .u64 (b0 ||| q0 : Nat), .int .u64 (b1 ||| q1 : Nat), .int .u64 (b2 ||| q2 : Nat)]) ∧ ∃ d' : SubW W6, w' = d'.1) := Lib.hid fun d => or_q (b0, b1, b2) (q0, q1, q2) H2.out HP2.out d
    have HOR2 : Hid (∀ d : SubW W6, Calls Tryz.prog 110 #[.agg #[.int .u64 j0, .int .u64 j1, .int .u64 j2], .agg #[.int .u64 (b0 &&& q0 : Nat), .int .u64 (b1 &&& q1 : Nat), .int .u64 (b2 &&& q2 : Nat)]] d.1
      fun e w' => e = .returned (.agg #[.int .u64 (j0 ||| (b0 &&& q0) : Nat), .int .u64 (j1 ||| (b1 &&& q1) : Nat), .int .u64 (j2 ||| (b2 &&& q2) : Nat)]) ∧ ∃ d' : SubW W6, w' = d'.1) := Lib.hid fun d => or_q (j0, j1, j2) (andW (b0, b1, b2) (q0, q1, q2)) H3.out (okW_and HP2.out) d
    refine wp_region_qb 10 (by kernel_rfl) (by kernel_rfl) ?_
    simp only [List.take_succ_cons, List.take_zero, List.drop_succ_cons, List.drop_zero]
    repeat (go_big_quiet_step (fail))
    go_big_quiet_step (exact HOR1.out _)
    repeat (go_big_quiet_step (fail))
    go_big_quiet_step (exact HOR2.out _)
    repeat (go_big_quiet_step (fail))
    refine wpQuiet_nil ?_
    intro dq6
    have hA7 := dq6.block hA6
    have hP7 := dq6.block hP6
    have hR7 := dq6.block hR6
    have hB7 := hB6.trans (dq6.2.mono hB6.size)
    have hO7 := owns_below HO6.out dq6.2
    have HO7 := Lib.hid hO7; clear hO7
    revert hA7 hP7 hR7 hB7 HO7
    generalize dq6.1 = W7
    intro hA7 hP7 hR7 hB7 HO7
    clear hJ6 hA6 hP6 hR6 hB6 HO6 a2 a3 a4 a5 a6 a7 p6 p7 p8 J0 J1 J2
    have af : ∀ j, W7.frozen? ⟨w.heap.size, j, none⟩ = false := fun j => frozen_of_row W7 _ j _ _ hA7
    have a2 : W7.cell? ⟨w.heap.size, 2, none⟩ = some (.int .u64 b0) := by simp [World.cell?, hA7]
    have a3 : W7.cell? ⟨w.heap.size, 3, none⟩ = some (.int .u64 b1) := by simp [World.cell?, hA7]
    have a4 : W7.cell? ⟨w.heap.size, 4, none⟩ = some (.int .u64 b2) := by simp [World.cell?, hA7]
    have a5 : W7.cell? ⟨w.heap.size, 5, none⟩ = some (.int .u64 j0) := by simp [World.cell?, hA7]
    have a6 : W7.cell? ⟨w.heap.size, 6, none⟩ = some (.int .u64 j1) := by simp [World.cell?, hA7]
    have a7 : W7.cell? ⟨w.heap.size, 7, none⟩ = some (.int .u64 j2) := by simp [World.cell?, hA7]
    go_upto_region 7 with fail
    have hA8 : ((((((W7.setCell ⟨w.heap.size, 2, none⟩ (.int .u64 (b0 ||| q0 : Nat))).setCell ⟨w.heap.size, 3, none⟩ (.int .u64 (b1 ||| q1 : Nat))).setCell ⟨w.heap.size, 4, none⟩ (.int .u64 (b2 ||| q2 : Nat))).setCell ⟨w.heap.size, 5, none⟩ (.int .u64 (j0 ||| (b0 &&& q0) : Nat))).setCell ⟨w.heap.size, 6, none⟩ (.int .u64 (j1 ||| (b1 &&& q1) : Nat))).setCell ⟨w.heap.size, 7, none⟩ (.int .u64 (j2 ||| (b2 &&& q2) : Nat))).heap[w.heap.size]? = some (.cells #[.slice np n5 nc, .int .u64 (st ||| pst : Nat), .int .u64 (b0 ||| q0 : Nat), .int .u64 (b1 ||| q1 : Nat), .int .u64 (b2 ||| q2 : Nat), .int .u64 (j0 ||| (b0 &&& q0) : Nat), .int .u64 (j1 ||| (b1 &&& q1) : Nat), .int .u64 (j2 ||| (b2 &&& q2) : Nat), .int .i64 (mn 0), .int .i64 (mn 1), .int .i64 (mn 2), .int .i64 (mn 3), .int .i64 (mn 4), .int .i64 (mn 5), .int .i64 (mn 6), .int .i64 (mn 7)] 108 (0, 0)) := six_same hA7 (.int .u64 (b0 ||| q0 : Nat)) (.int .u64 (b1 ||| q1 : Nat)) (.int .u64 (b2 ||| q2 : Nat)) (.int .u64 (j0 ||| (b0 &&& q0) : Nat)) (.int .u64 (j1 ||| (b1 &&& q1) : Nat)) (.int .u64 (j2 ||| (b2 &&& q2) : Nat))
    have hP8 := (six_other W7 (A := w.heap.size) (k := w.heap.size + 1) (by omega) (.int .u64 (b0 ||| q0 : Nat)) (.int .u64 (b1 ||| q1 : Nat)) (.int .u64 (b2 ||| q2 : Nat)) (.int .u64 (j0 ||| (b0 &&& q0) : Nat)) (.int .u64 (j1 ||| (b1 &&& q1) : Nat)) (.int .u64 (j2 ||| (b2 &&& q2) : Nat))).trans hP7
    have hR8 := (six_other W7 (A := w.heap.size) (k := w.heap.size + 1 + 1) (by omega) (.int .u64 (b0 ||| q0 : Nat)) (.int .u64 (b1 ||| q1 : Nat)) (.int .u64 (b2 ||| q2 : Nat)) (.int .u64 (j0 ||| (b0 &&& q0) : Nat)) (.int .u64 (j1 ||| (b1 &&& q1) : Nat)) (.int .u64 (j2 ||| (b2 &&& q2) : Nat))).trans hR7
    have hB8 := six_below hB7 (Nat.le_refl _) (.int .u64 (b0 ||| q0 : Nat)) (.int .u64 (b1 ||| q1 : Nat)) (.int .u64 (b2 ||| q2 : Nat)) (.int .u64 (j0 ||| (b0 &&& q0) : Nat)) (.int .u64 (j1 ||| (b1 &&& q1) : Nat)) (.int .u64 (j2 ||| (b2 &&& q2) : Nat))
    have hO8 := six_owns HO7.out (A := w.heap.size) (by omega) (.int .u64 (b0 ||| q0 : Nat)) (.int .u64 (b1 ||| q1 : Nat)) (.int .u64 (b2 ||| q2 : Nat)) (.int .u64 (j0 ||| (b0 &&& q0) : Nat)) (.int .u64 (j1 ||| (b1 &&& q1) : Nat)) (.int .u64 (j2 ||| (b2 &&& q2) : Nat))
    have HO8 := Lib.hid hO8; clear hO8
    clear hA7 hP7 hR7 hB7 HO7 a2 a3 a4 a5 a6 a7 af
    revert hA8 hP8 hR8 hB8 HO8
    generalize ((((((W7.setCell ⟨w.heap.size, 2, none⟩ (.int .u64 (b0 ||| q0 : Nat))).setCell ⟨w.heap.size, 3, none⟩ (.int .u64 (b1 ||| q1 : Nat))).setCell ⟨w.heap.size, 4, none⟩ (.int .u64 (b2 ||| q2 : Nat))).setCell ⟨w.heap.size, 5, none⟩ (.int .u64 (j0 ||| (b0 &&& q0) : Nat))).setCell ⟨w.heap.size, 6, none⟩ (.int .u64 (j1 ||| (b1 &&& q1) : Nat))).setCell ⟨w.heap.size, 7, none⟩ (.int .u64 (j2 ||| (b2 &&& q2) : Nat))) = W8
    intro hA8 hP8 hR8 hB8 HO8
    have af : ∀ j, W8.frozen? ⟨w.heap.size, j, none⟩ = false := fun j => frozen_of_row W8 _ j _ _ hA8
    have ak : W8.cell? ⟨w.heap.size, 8 + k, none⟩ = some (.int .i64 (mn k)) := by
      rcases (by omega : k = 0 ∨ k = 1 ∨ k = 2 ∨ k = 3 ∨ k = 4 ∨ k = 5 ∨ k = 6 ∨ k = 7) with rfl | rfl | rfl | rfl | rfl | rfl | rfl | rfl <;> simp [World.cell?, hA8]
    have p0 : W8.cell? ⟨w.heap.size + 1, 0, none⟩ = some (.int .i64 k) := by simp [World.cell?, hP8]
    have hmk := H4.out k
    go_upto_region 8 with fail
    have hA9 : ∃ cs9 : List Value, cs9 = hsVals ⟨np, n5, nc, st ||| pst, (b0 ||| q0, b1 ||| q1, b2 ||| q2), (j0 ||| (b0 &&& q0), j1 ||| (b1 &&& q1), j2 ||| (b2 &&& q2)), fun j => if j = k then mn k + 1 else mn j⟩ ∧ (W8.setCell ⟨w.heap.size, 8 + k, none⟩ (.int .i64 ((mn k : Int) + 1))).heap[w.heap.size]? = some (.cells cs9.toArray 108 (0, 0)) := by
      refine ⟨_, rfl, ?_⟩
      rw [heap_setCell_same _ _ _ _ _ _ hA8]
      rcases (by omega : k = 0 ∨ k = 1 ∨ k = 2 ∨ k = 3 ∨ k = 4 ∨ k = 5 ∨ k = 6 ∨ k = 7) with rfl | rfl | rfl | rfl | rfl | rfl | rfl | rfl <;> simp [hsVals]
    obtain ⟨cs9, hcs, hA9⟩ := hA9
    have hz : cs9.length = 16 := by rw [hcs]; rfl
    have hone : cs9.toArray.all (·.oneCell') = true := by rw [hcs]; simp [hsVals, Value.oneCell']
    have hR9 := (heap_setCell_other W8 ⟨w.heap.size, 8 + k, none⟩ (w.heap.size + 1 + 1) (.int .i64 ((mn k : Int) + 1)) (by simp; omega)).trans hR8
    have hB9 := hB8.setCell (p := ⟨w.heap.size, 8 + k, none⟩) (Nat.le_refl _) (.int .i64 ((mn k : Int) + 1))
    have hO9 := owns_setCell HO8.out (a := ⟨w.heap.size, 8 + k, none⟩) (by simp; omega) (.int .i64 ((mn k : Int) + 1))
    have HO9 := Lib.hid hO9; clear hO9
    have HCS := Lib.hid hcs; clear hcs
    have HZ9 := Lib.hid hz; clear hz
    clear hA8 hR8 hP8 hB8 HO8 af ak p0 hmk
    revert hA9 hR9 hB9 HO9
    generalize W8.setCell ⟨w.heap.size, 8 + k, none⟩ (.int .i64 ((mn k : Int) + 1)) = W9
    intro hA9 hR9 hB9 HO9
    have hi9 : (Tryz.prog.info? 108).map (·.size) = some cs9.toArray.size := by rw [List.size_toArray, HZ9.out]; exact sizeS
    go_wp2_with (first
      | (refine wpList_load_row rfl 108 _ rfl w.heap.size rfl 108 cs9.toArray (0, 0) _ hA9 Tryz.underlying108 rfl hi9 ?_)
      | (refine wpList_store_row rfl 108 _ _ rfl (w.heap.size + 1 + 1) rfl 108 _ cs9.toArray rfl hR9 hi9 (by show 16 = cs9.toArray.size; rw [List.size_toArray, HZ9.out]) hone ?_))
    refine bodyPost_ret (results_row_tmp rfl Tryz.underlying108 rfl _ _ (w.heap.size + 1 + 1) cs9.toArray (0, 0) (.bool true) (setRow_heap _ _ _ _ _ _ hR9) hi9 rfl rfl) rfl ?_
    rw [← HPO.out]
    have hW : RP.Own W9 W3.heap.size (.slice np n5 nc) (ls ++ [⟨⟨k, m, tt, x, y⟩, pst, (q0, q1, q2)⟩]) := by
      show W9.ownsRow _ RP.ty RP.n _ (ls ++ [(⟨⟨k, m, tt, x, y⟩, pst, (q0, q1, q2)⟩ : HP)]).length _
      rw [HN5.out]; exact HO9.out
    refine ⟨⟨np, n5, nc, st ||| pst, (b0 ||| q0, b1 ||| q1, b2 ||| q2), (j0 ||| (b0 &&& q0), j1 ||| (b1 &&& q1), j2 ||| (b2 &&& q2)), fun j => if j = k then mn k + 1 else mn j⟩, true, ?_, ⟨fun _ => ⟨HS1.out, by simpa using HS2.out, ?_⟩, fun _ => rfl⟩, fun h => (by cases h), fun _ => ⟨rfl, rfl, rfl, rfl, ?_⟩, setRow_below hB9 (by omega) _⟩
    · rw [HCS.out]; rfl
    · show andW (andW (b0, b1, b2) (q0, q1, q2)) bel = (0, 0, 0)
      rw [HZ.out]; exact HS3.out
    · refine owns_weak (owns_move hW fun kk e => setRow_other _ _ _ _ ?_) (by omega)
      have := (owns_lt hW e).1
      omega
end Go.Proofs.YtiinlplgloaanaaGreatDoor
