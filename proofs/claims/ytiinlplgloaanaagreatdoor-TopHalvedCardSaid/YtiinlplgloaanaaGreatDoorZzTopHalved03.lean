/- What the rows' lists of the Layer seat say of the tables. -/
import Derived.Laws.Bits64b
import Derived.Lib.SmallJoins
import Derived.Test.YtiinlplgloaanaaGreatDoorZzTopHalved01
import Derived.Test.YtiinlplgloaanaaGreatDoorZzTopHalved02
import Derived.Test.YtiinlplgloaanaaGreatDoorZzTopHalved00
import Derived.Lib.LaidTab
import Derived.SizedLaws

/- Chapter 7 in the heap: the smallest functions. -/
namespace Go.Proofs.YtiinlplgloaanaaGreatDoor
set_option linter.all false
set_option linter.unusedSimpArgs false
set_option linter.unusedVariables false
open Go.RowKit

theorem layerWithin_any (n a b : Int) (w : World) :
    Calls Tryz.prog 43 #[.int .i64 n, .int .i64 a, .int .i64 b] w fun e w' => e = .returned (.bool (decide (a ≤ n ∧ n ≤ b))) ∧ w = w' := by
  go_enter Tryz.func43, Tryz.ntmps43
  by_cases h1 : a ≤ n
  case neg =>
    have hd : decide (a ≤ n) = false := by simp [h1]
    go_wp2
    go_ret
    exact ⟨ret_bool (by simp [h1]), rfl⟩
  have hd : decide (a ≤ n) = true := by simp [h1]
  by_cases h2 : n ≤ b
  · have hd2 : decide (n ≤ b) = true := by simp [h2]
    go_wp2
    go_ret
    exact ⟨ret_bool (by simp [h1, h2]), rfl⟩
  · have hd2 : decide (n ≤ b) = false := by simp [h2]
    go_wp2
    go_ret
    exact ⟨ret_bool (by simp [h1, h2]), rfl⟩

theorem and64 {a b : Nat} (ha : a < 2 ^ 64) (hb : b < 2 ^ 64) : bits .and .u64 (a : Int) (b : Int) = ((a &&& b : Nat) : Int) := bits_and_u64_nat a b (by omega) (by omega)
theorem or64 {a b : Nat} (ha : a < 2 ^ 64) (hb : b < 2 ^ 64) : bits .or .u64 (a : Int) (b : Int) = ((a ||| b : Nat) : Int) := bits_or_u64_nat a b (by omega) (by omega)
theorem okW_and {x y : W3} (hy : okW y) : okW (andW x y) := ⟨Nat.and_lt_two_pow _ hy.1, Nat.and_lt_two_pow _ hy.2.1, Nat.and_lt_two_pow _ hy.2.2⟩

/-! ### Results that lie in a block -/
theorem results_row {fn : Func} {p : Tmp} {T : TypeId} (h : fn.results = #[.cell p T]) {d : TypeDesc} (hu : Tryz.prog.underlying T = some d) (hd : d.isRow = true) (tmps : Array Value) (w : World) (b : Nat) (cs : Array Value) (fr : Nat × Nat)
    (hg : w.heap[b]? = some (.cells cs T fr)) (hi : (Tryz.prog.info? T).map (·.size) = some cs.size) (hp : tmps.getD p undef = .pointer (some ⟨b, 0, none⟩)) : (results fn tmps).run Tryz.prog w = .ok (.agg cs) w := by
  have hp' : tmps[p]?.getD undef = .pointer (some ⟨b, 0, none⟩) := by simpa using hp
  have e2 := run_loadVar_row (P := Tryz.prog) w b T T cs fr d hg hu (by cases d <;> simp_all) hi
  simp [results, h, hp', asAddr, e2]
theorem results_row_tmp {fn : Func} {p q : Tmp} {T : TypeId} (h : fn.results = #[.cell p T, .tmp q]) {d : TypeDesc} (hu : Tryz.prog.underlying T = some d) (hd : d.isRow = true) (tmps : Array Value) (w : World) (b : Nat) (cs : Array Value) (fr : Nat × Nat) (z : Value)
    (hg : w.heap[b]? = some (.cells cs T fr)) (hi : (Tryz.prog.info? T).map (·.size) = some cs.size) (hp : tmps.getD p undef = .pointer (some ⟨b, 0, none⟩)) (hq : tmps.getD q undef = z) : (results fn tmps).run Tryz.prog w = .ok (.tuple #[.agg cs, z]) w := by
  have hp' : tmps[p]?.getD undef = .pointer (some ⟨b, 0, none⟩) := by simpa using hp
  have hq' : tmps[q]?.getD undef = z := by simpa using hq
  have e2 := run_loadVar_row (P := Tryz.prog) w b T T cs fr d hg hu (by cases d <;> simp_all) hi
  simp [results, h, hp', hq', asAddr, e2]
theorem sizeW3 : (Tryz.prog.info? 105).map (·.size) = some 3 := by kernel_rfl
theorem second_new (w : World) (o1 o2 : Obj) : ((w.alloc o1).alloc o2).heap[w.heap.size + 1]? = some o2 := by
  have := World.alloc_heap_new (w.alloc o1) o2
  rwa [World.size_alloc] at this
theorem third_new (w : World) (o1 o2 o3 : Obj) : (((w.alloc o1).alloc o2).alloc o3).heap[w.heap.size + 1 + 1]? = some o3 := by
  have := World.alloc_heap_new ((w.alloc o1).alloc o2) o3
  rwa [World.size_alloc, World.size_alloc] at this

set_option maxRecDepth 100000 in
set_option maxHeartbeats 1000000 in
theorem both_any (x y : W3) (hx : okW x) (hy : okW y) (w : World) :
    Calls Tryz.prog 75 #[w3V x, w3V y] w fun e w' => e = .returned (w3V (andW x y)) ∧ Grew w w' := by
  obtain ⟨x0, x1, x2⟩ := x
  obtain ⟨y0, y1, y2⟩ := y
  have e0 := and64 hx.1 hy.1
  have e1 := and64 hx.2.1 hy.2.1
  have e2 := and64 hx.2.2 hy.2.2
  simp only at e0 e1 e2
  unfold w3V andW
  clear hx hy
  go_enter Tryz.func75, Tryz.ntmps75
  go_wp2_with fail
  refine bodyPost_ret (results_row rfl Tryz.underlying105 rfl _ _ (w.heap.size + 1 + 1) _ (0, 0) (third_new _ _ _ _) sizeW3 rfl) rfl ?_
  exact ⟨rfl, (((Grew.refl w).alloc _).alloc _).alloc _⟩
set_option maxRecDepth 100000 in
set_option maxHeartbeats 1000000 in
theorem or_any3 (x y : W3) (hx : okW x) (hy : okW y) (w : World) :
    Calls Tryz.prog 110 #[w3V x, w3V y] w fun e w' => e = .returned (w3V (orW x y)) ∧ Grew w w' := by
  obtain ⟨x0, x1, x2⟩ := x
  obtain ⟨y0, y1, y2⟩ := y
  have e0 := or64 hx.1 hy.1
  have e1 := or64 hx.2.1 hy.2.1
  have e2 := or64 hx.2.2 hy.2.2
  simp only at e0 e1 e2
  unfold w3V orW
  clear hx hy
  go_enter Tryz.func110, Tryz.ntmps110
  go_wp2_with fail
  refine bodyPost_ret (results_row rfl Tryz.underlying105 rfl _ _ (w.heap.size + 1 + 1) _ (0, 0) (third_new _ _ _ _) sizeW3 rfl) rfl ?_
  exact ⟨rfl, (((Grew.refl w).alloc _).alloc _).alloc _⟩
/-- A set with an edge more. -/
def withW (x : W3) (n : Nat) : W3 := if n < 64 then (x.1 ||| (1 <<< n), x.2.1, x.2.2) else if n < 128 then (x.1, x.2.1 ||| (1 <<< (n - 64)), x.2.2) else (x.1, x.2.1, x.2.2 ||| (1 <<< (n - 128)))
theorem shl64 {n : Nat} (h : n < 64) : 1 <<< n < 2 ^ 64 := by
  rw [Nat.one_shiftLeft]
  exact Nat.pow_lt_pow_right (by decide) h
theorem wrap_shl {n : Nat} (h : n < 64) : IntKind.u64.wrap (1 * 2 ^ n) = ((1 <<< n : Nat) : Int) := by
  rw [Nat.one_shiftLeft, Int.one_mul]
  have h1 : (2 : Nat) ^ n < 2 ^ 64 := Nat.pow_lt_pow_right (by decide) h
  have e : (2 : Int) ^ n = ((2 ^ n : Nat) : Int) := by norm_cast
  rw [e]
  exact wraps_u64 _ (Int.natCast_nonneg _) (by exact_mod_cast h1)
set_option maxRecDepth 100000 in
set_option maxHeartbeats 1000000 in
theorem with_any (x : W3) (n : Nat) (hx : okW x) (hn : n < 192) (w : World) :
    Calls Tryz.prog 106 #[w3V x, .int .i64 n] w fun e w' => e = .returned (w3V (withW x n)) ∧ Below w.heap.size w w' := by
  obtain ⟨x0, x1, x2⟩ := x
  unfold w3V
  obtain ⟨q, r, hr, hdn, hdi, hmi, hq, hW⟩ : ∃ q r : Nat, r < 64 ∧ n / 64 = q ∧ (n : Int) / 64 = q ∧ (n : Int) % 64 = r ∧ q < 3 ∧
      Hid ((q = 0 → withW (x0, x1, x2) n = (x0 ||| (1 <<< r), x1, x2)) ∧ (q = 1 → withW (x0, x1, x2) n = (x0, x1 ||| (1 <<< r), x2)) ∧ (q = 2 → withW (x0, x1, x2) n = (x0, x1, x2 ||| (1 <<< r)))) := by
    refine ⟨n / 64, n % 64, by omega, rfl, by omega, by omega, by omega, Lib.hid ?_⟩
    unfold withW
    refine ⟨fun h => ?_, fun h => ?_, fun h => ?_⟩
    · rw [if_pos (by omega), show n % 64 = n by omega]
    · rw [if_neg (by omega), if_pos (by omega), show n % 64 = n - 64 by omega]
    · rw [if_neg (by omega), if_neg (by omega), show n % 64 = n - 128 by omega]
  have hs := wrap_shl hr
  rw [Int.one_mul] at hs
  have o0 := or64 hx.1 (shl64 hr)
  have o1 := or64 hx.2.1 (shl64 hr)
  have o2 := or64 hx.2.2 (shl64 hr)
  simp only at o0 o1 o2
  revert hW hs o0 o1 o2
  generalize 1 <<< r = c
  intro hW hs o0 o1 o2
  have hr0 : (0 : Int) ≤ r := by omega
  have hr1 : (r : Int) ≤ 64 := by omega
  have hwr : IntKind.i64.wrap (r : Int) = r := by rw [IntKind.wrap_i64]; omega
  revert hW
  generalize withW (x0, x1, x2) n = X
  intro hW
  clear hx
  rcases (by omega : q = 0 ∨ q = 1 ∨ q = 2) with rfl | rfl | rfl
  · go_enter Tryz.func106, Tryz.ntmps106
    go_wp2_with fail
    refine wp_region_qd 9 (by kernel_rfl) (by kernel_rfl) ?_
    simp only [List.take_succ_cons, List.take_zero, List.drop_succ_cons, List.drop_zero]
    repeat (go_big_quiet_step (fail))
    refine wpQuiet_nil ?_
    intro nq
    go_wp2_with fail
    refine bodyPost_ret (results_row rfl Tryz.underlying105 rfl _ _ (w.heap.size + 1) _ (0, 0) (heap_setCell_same _ _ _ _ _ _ (heap_setCell_same _ _ _ _ _ _ (heap_setCell_same _ _ _ _ _ _ ((heap_setCell_other _ _ _ _ (by simp)).trans (second_new w _ _))))) sizeW3 rfl) rfl ?_
    refine ⟨by rw [hW.out.1 (by simp)]; rfl, ?_⟩
    have hb : Below w.heap.size w ((w.alloc (.cells #[.int .u64 x0, .int .u64 x1, .int .u64 x2] 105)).alloc (.cells #[.int .u64 0, .int .u64 0, .int .u64 0] 105)) := ((Below.refl _ w).alloc (Nat.le_refl _) _).alloc (by simp) _
    exact ((((hb.trans (Joins.below_draws _ _ nq)).setCell (Nat.le_refl _) _).setCell (Nat.le_succ _) _).setCell (Nat.le_succ _) _).setCell (Nat.le_succ _) _
  · go_enter Tryz.func106, Tryz.ntmps106
    go_wp2_with fail
    refine wp_region_qd 9 (by kernel_rfl) (by kernel_rfl) ?_
    simp only [List.take_succ_cons, List.take_zero, List.drop_succ_cons, List.drop_zero]
    repeat (go_big_quiet_step (fail))
    refine wpQuiet_nil ?_
    intro nq
    go_wp2_with fail
    refine bodyPost_ret (results_row rfl Tryz.underlying105 rfl _ _ (w.heap.size + 1) _ (0, 0) (heap_setCell_same _ _ _ _ _ _ (heap_setCell_same _ _ _ _ _ _ (heap_setCell_same _ _ _ _ _ _ ((heap_setCell_other _ _ _ _ (by simp)).trans (second_new w _ _))))) sizeW3 rfl) rfl ?_
    refine ⟨by rw [hW.out.2.1 (by simp)]; rfl, ?_⟩
    have hb : Below w.heap.size w ((w.alloc (.cells #[.int .u64 x0, .int .u64 x1, .int .u64 x2] 105)).alloc (.cells #[.int .u64 0, .int .u64 0, .int .u64 0] 105)) := ((Below.refl _ w).alloc (Nat.le_refl _) _).alloc (by simp) _
    exact ((((hb.trans (Joins.below_draws _ _ nq)).setCell (Nat.le_refl _) _).setCell (Nat.le_succ _) _).setCell (Nat.le_succ _) _).setCell (Nat.le_succ _) _
  · go_enter Tryz.func106, Tryz.ntmps106
    go_wp2_with fail
    refine wp_region_qd 9 (by kernel_rfl) (by kernel_rfl) ?_
    simp only [List.take_succ_cons, List.take_zero, List.drop_succ_cons, List.drop_zero]
    repeat (go_big_quiet_step (fail))
    refine wpQuiet_nil ?_
    intro nq
    go_wp2_with fail
    refine bodyPost_ret (results_row rfl Tryz.underlying105 rfl _ _ (w.heap.size + 1) _ (0, 0) (heap_setCell_same _ _ _ _ _ _ (heap_setCell_same _ _ _ _ _ _ (heap_setCell_same _ _ _ _ _ _ ((heap_setCell_other _ _ _ _ (by simp)).trans (second_new w _ _))))) sizeW3 rfl) rfl ?_
    refine ⟨by rw [hW.out.2.2 (by simp)]; rfl, ?_⟩
    have hb : Below w.heap.size w ((w.alloc (.cells #[.int .u64 x0, .int .u64 x1, .int .u64 x2] 105)).alloc (.cells #[.int .u64 0, .int .u64 0, .int .u64 0] 105)) := ((Below.refl _ w).alloc (Nat.le_refl _) _).alloc (by simp) _
    exact ((((hb.trans (Joins.below_draws _ _ nq)).setCell (Nat.le_refl _) _).setCell (Nat.le_succ _) _).setCell (Nat.le_succ _) _).setCell (Nat.le_succ _) _
end Go.Proofs.YtiinlplgloaanaaGreatDoor

/- Chapter 7 in the heap: pieces, states, boards; put. -/
namespace Go.Proofs.YtiinlplgloaanaaGreatDoor
set_option linter.all false
set_option linter.unusedSimpArgs false
set_option linter.unusedVariables false
open Go.RowKit

/-! ### A region that draws its order, whose callees make memory -/
def SubW (w : World) : Type := { W : World // Below w.heap.size w W }
instance (w : World) : Nonempty (SubW w) := ⟨⟨w, Below.refl _ _⟩⟩
section
variable {P : Program}
theorem wp_region_qb {id : Nat} {Q : Exit → Act → World → Prop} {a : Act} {w : World} {l : List Oper} (n : Nat) (hm : P.follows .mixedOrders = true) (hB : qtB l.toArray n = true)
    (h : wpQuiet P l.toArray (fun w' => ∃ d : SubW w, w' = d.1) (fun a' => ∀ d : SubW w, wpList P l.toArray Q (l.drop n) a' d.1) (l.take n) a) : (Code.region id l.toArray true).wp P Q a w := by
  refine wp_region_qt n hm hB (fun w' => ∃ d : SubW w, w' = d.1) ⟨⟨w.drew, Joins.below_draws _ w 1⟩, rfl⟩ ?_
  have e : (fun a' => ∀ d : SubW w, wpList P l.toArray Q (l.drop n) a' d.1) = (fun a' => ∀ w', (∃ d : SubW w, w' = d.1) → wpList P l.toArray Q (l.drop n) a' w') := by
    funext a'; apply propext
    exact ⟨fun h w' ⟨n, e⟩ => e ▸ h n, fun h nq => h _ ⟨nq, rfl⟩⟩
  rwa [e] at h
theorem wpIn_region_qb {ro : Option Nat} {id : Nat} {Q : Exit → Act → World → Prop} {a : Act} {w : World} {l : List Oper} (n : Nat) (hm : P.follows .mixedOrders = true) (hB : qtB l.toArray n = true) (hD : noDefer l.toArray = true)
    (h : wpQuiet P l.toArray (fun w' => ∃ d : SubW w, w' = d.1) (fun a' => ∀ d : SubW w, wpListIn (FW ro) 0 P l.toArray Q (l.drop n) a' d.1) (l.take n) a) : (Code.region id l.toArray true).wpIn (FW ro) 0 P Q a w := by
  refine wpIn_region_qt n hm hB hD (fun w' => ∃ d : SubW w, w' = d.1) ⟨⟨w.drew, Joins.below_draws _ w 1⟩, rfl⟩ ?_
  have e : (fun a' => ∀ d : SubW w, wpListIn (FW ro) 0 P l.toArray Q (l.drop n) a' d.1) = (fun a' => ∀ w', (∃ d : SubW w, w' = d.1) → wpListIn (FW ro) 0 P l.toArray Q (l.drop n) a' w') := by
    funext a'; apply propext
    exact ⟨fun h w' ⟨n, e⟩ => e ▸ h n, fun h nq => h _ ⟨nq, rfl⟩⟩
  rwa [e] at h
end
theorem SubW.block {w : World} (d : SubW w) {b : Nat} {o : Obj} (h : w.heap[b]? = some o) : d.1.heap[b]? = some o := (d.2.block b (Array.getElem?_eq_some_iff.1 h).1).trans h

/-! ### Pieces and states -/
structure HP where
  ld : Ld
  set : Nat
  bord : W3
def ldVals (l : Ld) : List Value := [.int .i64 l.kind, .bool l.m, .int .i64 l.t, .int .i64 l.x, .int .i64 l.y]
def hpVals (p : HP) : List Value := [.int .i64 p.ld.kind, .bool p.ld.m, .int .i64 p.ld.t, .int .i64 p.ld.x, .int .i64 p.ld.y, .int .u64 p.set, .int .u64 p.bord.1, .int .u64 p.bord.2.1, .int .u64 p.bord.2.2]
def RI : REnc Int := ⟨3, 1, fun n => [.int .i64 n], fun _ => rfl, fun n u h => by simp at h; subst h; rfl⟩
def RL : REnc Ld := ⟨50, 5, ldVals, fun _ => rfl, fun l u h => by simp [ldVals] at h; rcases h with rfl | rfl | rfl | rfl | rfl <;> rfl⟩
def RP : REnc HP := ⟨152, 9, hpVals, fun _ => rfl, fun l u h => by simp [hpVals] at h; rcases h with rfl | rfl | rfl | rfl | rfl | rfl | rfl | rfl | rfl <;> rfl⟩
def RE : REnc E := ⟨61, 3, eVals, fun _ => rfl, eVals_one⟩
/-- A state: its slice of pieces, the sets, how many of each kind. -/
structure HS where
  lp : Option Addr
  ln : Nat
  lc : Nat
  set : Nat
  bord : W3
  joint : W3
  many : Nat → Nat
def HS.laid (s : HS) : Value := .slice s.lp s.ln s.lc
def hsVals (s : HS) : List Value := [.slice s.lp s.ln s.lc, .int .u64 s.set, .int .u64 s.bord.1, .int .u64 s.bord.2.1, .int .u64 s.bord.2.2, .int .u64 s.joint.1, .int .u64 s.joint.2.1, .int .u64 s.joint.2.2,
  .int .i64 (s.many 0), .int .i64 (s.many 1), .int .i64 (s.many 2), .int .i64 (s.many 3), .int .i64 (s.many 4), .int .i64 (s.many 5), .int .i64 (s.many 6), .int .i64 (s.many 7)]
def RS : REnc HS := ⟨108, 16, hsVals, fun _ => rfl, fun l u h => by simp [hsVals] at h; rcases h with rfl | rfl | rfl | rfl | rfl | rfl | rfl | rfl | rfl | rfl | rfl | rfl | rfl | rfl | rfl | rfl <;> rfl⟩
theorem sizeS : (Tryz.prog.info? 108).map (·.size) = some 16 := by kernel_rfl
theorem sizeP : (Tryz.prog.info? 152).map (·.size) = some 9 := by kernel_rfl
/-- Slices of slices of pieces; vs are the slices. -/
structure PPAt (W : World) (a : Addr) (vs : List Value) (ps : List (List HP)) : Prop where
  lt : ps ≠ [] → a.block < W.heap.size
  len : vs.length = ps.length
  at_ : ∀ (i : Nat) (l : List HP) (v : Value), ps[i]? = some l → vs[i]? = some v → W.cell? (a.add i) = some v ∧ RP.Has W v l
def HasPP (W : World) (v : Value) (vs : List Value) (ps : List (List HP)) : Prop :=
  (v = .slice none 0 0 ∧ ps = []) ∨ ∃ (a : Addr) (cap : Nat), v = .slice (some a) ps.length cap ∧ ps.length ≤ cap ∧ cap ≤ maxLen ∧ PPAt W a vs ps
theorem HasPP.below {W W' : World} {v : Value} {vs : List Value} {ps : List (List HP)} (h : HasPP W v vs ps) (e : Below W.heap.size W W') : HasPP W' v vs ps := by
  rcases h with h | ⟨a, cap, h1, h2, h3, h4⟩
  · exact .inl h
  · refine .inr ⟨a, cap, h1, h2, h3, fun hp => Nat.lt_of_lt_of_le (h4.lt hp) e.size, h4.len, fun i l u hi hv => ?_⟩
    obtain ⟨hu, hl⟩ := h4.at_ i l u hi hv
    refine ⟨?_, hl.below e⟩
    rw [cell_of_block (W := W) (W' := W') (by rw [block_add]; exact e.block _ (h4.lt (by rintro rfl; simp at hi)))]; exact hu
theorem HasPP.slice {W : World} {v : Value} {vs : List Value} {ps : List (List HP)} (h : HasPP W v vs ps) : ∃ p c, v = .slice p ps.length c := by
  rcases h with ⟨rfl, rfl⟩ | ⟨a, c, rfl, _⟩
  · exact ⟨_, _, rfl⟩
  · exact ⟨_, _, rfl⟩
/-- The i-th slice. -/
theorem HasPP.get {W : World} {p : Option Addr} {n c : Nat} {vs : List Value} {ps : List (List HP)} (h : HasPP W (.slice p n c) vs ps) {i : Nat} {l : List HP} (hi : ps[i]? = some l) : ∃ a v, p = some a ∧ n = ps.length ∧ vs[i]? = some v ∧ W.cell? (a.add i) = some v ∧ RP.Has W v l := by
  rcases h with ⟨_, h⟩ | ⟨a, cap, h1, _, _, h4⟩
  · subst h; simp at hi
  · simp only [Value.slice.injEq] at h1
    have hl := (List.getElem?_eq_some_iff.1 hi).1
    have hl' : i < vs.length := by rw [h4.len]; exact hl
    have hv : vs[i]? = some vs[i] := List.getElem?_eq_getElem hl'
    exact ⟨a, _, h1.1, h1.2.1, hv, h4.at_ i l _ hi hv⟩

/-! ### Boards -/
structure BV where
  g : Value
  k : Value
  c : Value
  f : Value
  b : Value
  qm : Nat
  em : Nat
  pv : Value
  pvs : List Value
def numQ (g : List Q) : List (Q × Value) := g.zipIdx.map fun x => (x.1, .int .i64 x.2)
def numE (L : List E) : List (E × Value) := L.zipIdx.map fun x => (x.1, .int .i64 x.2)
/-- A slice that lies in plain cells. -/
def flatV : Value → Prop
  | .slice (some a) _ _ => a.spot = none
  | _ => True
structure BdAt (W : World) (bb : Nat) (v : BV) (t : Tk) (L : List E) (ps : List (List HP)) (bel : W3) : Prop where
  blk : W.heap[bb]? = some (.cells #[v.g, v.k, v.c, v.f, v.b, .map (some v.qm), .map (some v.em), v.pv, .int .u64 bel.1, .int .u64 bel.2.1, .int .u64 bel.2.2, .int .u64 (2 ^ t.ground.length - 1 : Nat)] 150 (0, 0))
  ground : HasQ W v.g t.ground
  kinds : HasQQ W v.k t.kinds
  counts : RI.Has W v.c t.counts
  fixed : RL.Has W v.f t.fixed
  below : RE.Has W v.b t.below
  quarter : HasM Q.val W v.qm (numQ t.ground)
  edge : HasM E.val W v.em (numE L)
  pieces : HasPP W v.pv v.pvs ps
  cflat : flatV v.c
theorem BdAt.keep {W W' : World} {bb : Nat} {v : BV} {t : Tk} {L : List E} {ps : List (List HP)} {bel : W3} (h : BdAt W bb v t L ps bel) (e : Below W.heap.size W W') : BdAt W' bb v t L ps bel :=
  ⟨(e.block _ (Array.getElem?_eq_some_iff.1 h.blk).1).trans h.blk, h.ground.below e, h.kinds.below e, h.counts.below e, h.fixed.below e, h.below.below e, h.quarter.below e, h.edge.below e, h.pieces.below e, h.cflat⟩
end Go.Proofs.YtiinlplgloaanaaGreatDoor

/- Chapter 7: what the words of pieces and states say of the bricks that are laid. -/
namespace Go.Proofs.YtiinlplgloaanaaGreatDoor
set_option linter.all false
set_option linter.unusedSimpArgs false
set_option linter.unusedVariables false
open Go.RowKit

/-- Whether a piece can be put. -/
def canPut (s : HS) (p : HP) (c : Int) (bel : W3) : Prop := s.set &&& p.set = 0 ∧ (s.many p.ld.kind.toNat : Int) < c ∧ andW (andW s.bord p.bord) bel = (0, 0, 0)
/-- The piece of a brick. -/
def hpT (g : List Q) (L : List E) (p : Pc) : HP := ⟨p.ld, setG (fun q => decide (q ∈ p.qs)) g, wordsE (fun e => decide (e ∈ borderE p.qs)) L⟩
def jointT (s : List Pc) (e : E) : Bool := decide (2 ≤ (s.filter fun p => decide (e ∈ borderE p.qs)).length)
/-- The state of bricks. -/
structure StT (g : List Q) (L : List E) (s : List Pc) (S : HS) : Prop where
  set : S.set = setG (covT s) g
  bord : S.bord = wordsE (bordT s) L
  joint : S.joint = wordsE (jointT s) L
  many : ∀ k : Nat, S.many k = manyT s (k : Int)
theorem orW_words (P R : E → Bool) (L : List E) : orW (wordsE P L) (wordsE R L) = wordsE (fun e => P e || R e) L := by
  unfold orW wordsE; simp only [setG_or]
theorem andW_words (P R : E → Bool) (L : List E) : andW (wordsE P L) (wordsE R L) = wordsE (fun e => P e && R e) L := by
  unfold andW wordsE; simp only [setG_and]
theorem covT_snoc (s : List Pc) (p : Pc) (q : Q) : covT (s ++ [p]) q = (covT s q || decide (q ∈ p.qs)) := by simp [covT]
theorem bordT_snoc (s : List Pc) (p : Pc) (e : E) : bordT (s ++ [p]) e = (bordT s e || decide (e ∈ borderE p.qs)) := by simp [bordT]
theorem manyT_snoc (s : List Pc) (p : Pc) (k : Int) : manyT (s ++ [p]) k = manyT s k + (if p.ld.kind = k then 1 else 0) := by
  unfold manyT
  rw [List.filter_append, List.length_append]
  congr 1
  by_cases h : p.ld.kind = k <;> simp [h]
theorem bordT_pos {s : List Pc} {e : E} : bordT s e = true ↔ 1 ≤ (s.filter fun p => decide (e ∈ borderE p.qs)).length := by
  unfold bordT
  rw [List.any_eq_true]
  constructor
  · rintro ⟨p, h1, h2⟩
    exact List.length_pos_of_mem (List.mem_filter.2 ⟨h1, h2⟩)
  · intro h
    obtain ⟨p, hp⟩ := List.exists_mem_of_length_pos h
    exact ⟨p, (List.mem_filter.1 hp).1, (List.mem_filter.1 hp).2⟩
theorem jointT_snoc (s : List Pc) (p : Pc) (e : E) : jointT (s ++ [p]) e = (jointT s e || (bordT s e && decide (e ∈ borderE p.qs))) := by
  have hb := bordT_pos (s := s) (e := e)
  unfold jointT
  rw [List.filter_append, List.length_append]
  by_cases h : e ∈ borderE p.qs
  · simp only [List.filter_cons, h, decide_true, if_true, List.filter_nil, List.length_cons, List.length_nil, Bool.and_true]
    rw [Bool.eq_iff_iff, Bool.or_eq_true, decide_eq_true_eq, decide_eq_true_eq, hb]
    omega
  · simp only [List.filter_cons, h, decide_false, List.filter_nil, List.length_nil, Bool.and_false, Bool.or_false, Nat.add_zero]
    simp
theorem can_iff {t : Tk} {L : List E} {s : List Pc} {S : HS} {p : Pc} {k : Nat} {c : Int} (h : StT t.ground L s S) (hp : ∀ q ∈ p.qs, q ∈ t.ground) (hL : ∀ e ∈ borderE p.qs, e ∈ L) (h192 : L.length ≤ 192)
    (hk : p.ld.kind = k) (hc : t.counts[k]? = some c) : canPut S (hpT t.ground L p) c (wordsE (fun e => decide (e ∈ t.below)) L) ↔ putT t s p = some (s ++ [p]) := by
  have h1 : S.set &&& (hpT t.ground L p).set = 0 ↔ ∀ q ∈ p.qs, covT s q = false := by
    rw [h.set, hpT]
    simp only
    rw [setG_and, setG_none]
    constructor
    · intro hh q hq
      have := hh q (hp q hq)
      simpa [hq] using this
    · intro hh q _
      by_cases hq : q ∈ p.qs
      · simp [hh q hq]
      · simp [hq]
  have h2 : t.counts.getD p.ld.kind.toNat 0 = c := by rw [hk]; simp [List.getD_eq_getElem?_getD, hc]
  have h3 : andW (andW S.bord (hpT t.ground L p).bord) (wordsE (fun e => decide (e ∈ t.below)) L) = (0, 0, 0) ↔ clashT t.below s p = false := by
    rw [h.bord, hpT]
    simp only
    rw [andW_words, andW_words, wordsE_none h192]
    unfold clashT
    rw [List.any_eq_false]
    constructor
    · intro hh e he hb
      have := hh e (hL e he)
      simp only [Bool.and_eq_true, decide_eq_true_eq] at hb
      simp [he, hb.1, hb.2] at this
    · intro hh e _
      by_cases he : e ∈ borderE p.qs
      · have := hh e he
        simpa [he] using this
      · simp [he]
  have h4 : (S.many (hpT t.ground L p).ld.kind.toNat : Int) = manyT s p.ld.kind := by rw [h.many]; simp [hpT, hk]
  unfold canPut
  rw [h1, h3, h4]
  constructor
  · rintro ⟨a, b, d⟩
    exact putT_mk a (by rw [h2]; exact b) d
  · intro hh
    obtain ⟨_, a, b, d⟩ := putT_some hh
    exact ⟨a, by rw [h2] at b; exact b, d⟩
theorem putT_none_of {t : Tk} {s : List Pc} {p : Pc} (h : ¬ putT t s p = some (s ++ [p])) : putT t s p = none := by
  unfold putT at *
  split
  · rfl
  · rename_i hn; rw [if_neg hn] at h; exact absurd rfl h
theorem st_snoc {g : List Q} {L : List E} {s : List Pc} {S S' : HS} {p : Pc} {k : Nat} (h : StT g L s S) (hk : p.ld.kind = k) (h1 : S'.set = S.set ||| (hpT g L p).set) (h2 : S'.bord = orW S.bord (hpT g L p).bord)
    (h3 : S'.joint = orW S.joint (andW S.bord (hpT g L p).bord)) (h4 : S'.many = (fun j => if j = k then S.many k + 1 else S.many j)) : StT g L (s ++ [p]) S' := by
  refine ⟨?_, ?_, ?_, fun j => ?_⟩
  · rw [h1, h.set, hpT]; simp only; rw [setG_or]; exact setG_eq fun q _ => (covT_snoc s p q).symm
  · rw [h2, h.bord, hpT]; simp only; rw [orW_words]; exact wordsE_eq fun e _ => (bordT_snoc s p e).symm
  · rw [h3, h.joint, h.bord, hpT]; simp only; rw [andW_words, orW_words]; exact wordsE_eq fun e _ => (jointT_snoc s p e).symm
  · rw [h4, manyT_snoc, hk]
    simp only
    by_cases hj : j = k
    · subst hj; rw [if_pos rfl, if_pos rfl, h.many]
    · rw [if_neg hj, if_neg (by omega), h.many, Nat.add_zero]
theorem owns_move {W W' : World} {base : Nat} {e : TypeId} {size : Nat} {v : Value} {n : Nat} {xs : List Value} (h : W.ownsRow base e size v n xs) (hk : ∀ k, v.ownBlock = some k → W'.heap[k]? = W.heap[k]?) : W'.ownsRow base e size v n xs :=
  ⟨h.1, h.2.elim .inl fun ⟨g, cap, cur, h1, h2, h3, h4⟩ => .inr ⟨g, cap, cur, h1, h2, (hk g (by rw [h1]; rfl)).trans h3, h4⟩⟩
theorem owns_lt {W : World} {base : Nat} {e : TypeId} {size : Nat} {v : Value} {n : Nat} {xs : List Value} (h : W.ownsRow base e size v n xs) {k : Nat} (hk : v.ownBlock = some k) : base ≤ k ∧ k < W.heap.size ∧ ∃ cur, W.heap[k]? = some (.cells cur e (0, 0)) := by
  rcases h.2 with ⟨rfl, _⟩ | ⟨g, cap, cur, rfl, h2, h3, _⟩
  · cases hk
  · cases hk
    exact ⟨h2, (Array.getElem?_eq_some_iff.1 h3).1, cur, h3⟩
end Go.Proofs.YtiinlplgloaanaaGreatDoor

/- Pieces: the least quarter, and slices.SortFunc over pieces by it: a slice of the call's own is sorted in place. -/
namespace Go.Proofs.YtiinlplgloaanaaGreatDoor
set_option linter.all false
set_option linter.unusedSimpArgs false
set_option linter.unusedVariables false
open Go.RowKit
attribute [local go_sem] Oper.semAt_some

instance : Inhabited HP := ⟨⟨⟨0, false, 0, 0, 0⟩, 0, (0, 0, 0)⟩⟩
def leastH (p : HP) : Nat := Lib.ctz 64 p.set
def cmpP (p q : HP) : Int := cmpI (leastH p) (leastH q)
theorem cmpP_lt {p q : HP} : cmpP p q < 0 ↔ leastH p < leastH q := by
  unfold cmpP cmpI
  split
  · rename_i h; constructor <;> intro _ <;> omega
  · split <;> constructor <;> intro _ <;> omega
theorem piece_swo : Sort.SWO (ltOf cmpP) where
  irrefl x := decide_eq_false (fun h => Nat.lt_irrefl _ (cmpP_lt.1 h))
  trans x y z h1 h2 := decide_eq_true (cmpP_lt.2 (Nat.lt_trans (cmpP_lt.1 (of_decide_eq_true h1)) (cmpP_lt.1 (of_decide_eq_true h2))))
  ntrans x y z h1 h2 := by
    have h1 := of_decide_eq_false h1
    have h2 := of_decide_eq_false h2
    refine decide_eq_false (fun h => ?_)
    have h := cmpP_lt.1 h
    rw [cmpP_lt] at h1 h2
    omega
theorem flatR_get {α : Type} [Inhabited α] (R : REnc α) (d : Array α) (j : Nat) (hn : 0 < R.n) (hj : j < d.size * R.n) : ∃ e, d.toList[j / R.n]? = some e ∧ (Sort.flatK R.vals R.n d)[j]! = ((R.vals e)[j % R.n]?).getD default := by
  have h1 : j / R.n < d.size := by rw [Nat.div_lt_iff_lt_mul hn]; exact hj
  refine ⟨d[j / R.n], by simp [h1], ?_⟩
  rw [Sort.get_flatK _ _ _ _ hj, getElem!_pos d (j / R.n) h1]
  exact List.getElem!_eq_getElem?_getD ..
theorem cellsR_mod {α : Type} (R : REnc α) {l : List α} {j : Nat} {e : α} (hn : 0 < R.n) (h : l[j / R.n]? = some e) : (R.cells l)[j]? = some (((R.vals e)[j % R.n]?).getD default) := by
  have hm := Nat.mod_lt j hn
  have := R.cells_get h (j % R.n) hm
  rw [Nat.mul_comm, Nat.div_add_mod] at this
  rw [this]
  have hl : j % R.n < (R.vals e).length := by rw [R.len]; exact hm
  simp [hl]

/-! ### A region that draws its order, whose callees only draw and make blocks -/
def SubG (w : World) : Type := { W : World // Grew w W }
instance (w : World) : Nonempty (SubG w) := ⟨⟨w, Grew.refl w⟩⟩
theorem wp_region_qg {P : Program} {id : Nat} {Q : Exit → Act → World → Prop} {a : Act} {w : World} {l : List Oper} (n : Nat) (hm : P.follows .mixedOrders = true) (hB : qtB l.toArray n = true)
    (h : wpQuiet P l.toArray (fun w' => ∃ d : SubG w, w' = d.1) (fun a' => ∀ d : SubG w, wpList P l.toArray Q (l.drop n) a' d.1) (l.take n) a) : (Code.region id l.toArray true).wp P Q a w := by
  refine wp_region_qt n hm hB (fun w' => ∃ d : SubG w, w' = d.1) ⟨⟨w.drew, (Grew.refl w).drew⟩, rfl⟩ ?_
  have e : (fun a' => ∀ d : SubG w, wpList P l.toArray Q (l.drop n) a' d.1) = (fun a' => ∀ w', (∃ d : SubG w, w' = d.1) → wpList P l.toArray Q (l.drop n) a' w') := by
    funext a'; apply propext
    exact ⟨fun h w' ⟨n, e⟩ => e ▸ h n, fun h nq => h _ ⟨nq, rfl⟩⟩
  rwa [e] at h
theorem SubG.block {w : World} (d : SubG w) {b : Nat} {o : Obj} (h : w.heap[b]? = some o) : d.1.heap[b]? = some o := (d.2.below.block b (Array.getElem?_eq_some_iff.1 h).1).trans h

/-! ### The least quarter -/
/-- The library's table for the lowest bit. -/
def TbAt (w : World) : Prop := TabAt 1 Lib.deBruijn64tab w
theorem TbAt.lt {w : World} (h : TbAt w) : 1 < w.heap.size := by
  have := h 0 (by decide)
  unfold World.cell? at this
  cases hh : w.heap[1]? with
  | none => simp [hh] at this
  | some o => exact (Array.getElem?_eq_some_iff.1 hh).1
theorem TbAt.move {w w' : World} (h : TbAt w) (e : w'.heap[1]? = w.heap[1]?) : TbAt w' := fun j hj => (cell_of_block (x := ⟨1, j, none⟩) e).trans (h j hj)
theorem TbAt.below {w w' : World} (h : TbAt w) (e : Below w.heap.size w w') : TbAt w' := h.move (e.block _ h.lt)
theorem tz64_any (x : Nat) (hx : x < 2 ^ 64) (w : World) (hT : TbAt w) :
    Calls Tryz.prog 126 #[.int .u64 x] w fun e w' => e = .returned (.int .i64 (Lib.ctz 64 x)) ∧ w' = w := by
  have h := Any7.bits_TrailingZeros64 Tryz.laysTz x (by omega) w (fun _ => hT)
  exact h
set_option maxRecDepth 100000 in
theorem least_any (p : HP) (hp : p.set < 2 ^ 64) (w : World) (hT : TbAt w) :
    Calls Tryz.prog 94 #[RP.val p] w fun e w' => e = .returned (.int .i64 (leastH p)) ∧ Grew w w' := by
  obtain ⟨⟨k, m, tt, x, y⟩, st, q0, q1, q2⟩ := p
  have hc : ∀ W, Grew w W → Calls Tryz.prog 126 #[.int .u64 st] W fun e w' => e = .returned (.int .i64 (Lib.ctz 64 st)) ∧ w' = W := fun W hg => tz64_any st hp W (hT.below hg.below)
  show Calls _ _ #[.agg #[.int .i64 k, .bool m, .int .i64 tt, .int .i64 x, .int .i64 y, .int .u64 st, .int .u64 q0, .int .u64 q1, .int .u64 q2]] _ _
  unfold leastH
  simp only
  generalize Lib.ctz 64 st = n at hc
  go_enter Tryz.func94, Tryz.ntmps94
  go_wp2_with (refine (hc _ (Grew.alloc (Grew.refl w) _)).mono ?_; rintro e w' ⟨rfl, rfl⟩)
  go_ret
  exact ⟨rfl, Grew.alloc (Grew.refl w) _⟩
theorem least_q {w : World} (p : HP) (hp : p.set < 2 ^ 64) (hT : TbAt w) (d : SubG w) :
    Calls Tryz.prog 94 #[RP.val p] d.1 fun e w' => e = .returned (.int .i64 (leastH p)) ∧ ∃ d' : SubG w, w' = d'.1 := by
  refine (least_any p hp d.1 (hT.below d.2.below)).mono ?_
  rintro e w' ⟨rfl, hg⟩
  exact ⟨rfl, ⟨⟨w', d.2.trans hg⟩, rfl⟩⟩
theorem compare_qg {w : World} (a b : Int) (d : SubG w) : Calls Tryz.prog 93 #[.int .i64 a, .int .i64 b] d.1 fun e w' => e = .returned (.int .i64 (cmpI a b)) ∧ ∃ d' : SubG w, w' = d'.1 := by
  refine (compare_any a b d.1).mono ?_
  rintro e w' ⟨rfl, rfl⟩
  exact ⟨rfl, d, rfl⟩
set_option maxRecDepth 100000 in
theorem leastCmp_any (p q : HP) (hp : p.set < 2 ^ 64) (hq : q.set < 2 ^ 64) (w : World) (hT : TbAt w) :
    Calls Tryz.prog 92 #[RP.val p, RP.val q] w fun e w' => e = .returned (.int .i64 (cmpP p q)) ∧ Grew w w' := by
  obtain ⟨⟨k1, m1, t1, x1, y1⟩, s1, a1, b1, c1⟩ := p
  obtain ⟨⟨k2, m2, t2, x2, y2⟩, s2, a2, b2, c2⟩ := q
  have hT2 : TbAt ((w.alloc (.cells #[.int .i64 k1, .bool m1, .int .i64 t1, .int .i64 x1, .int .i64 y1, .int .u64 s1, .int .u64 a1, .int .u64 b1, .int .u64 c1] 152)).alloc (.cells #[.int .i64 k2, .bool m2, .int .i64 t2, .int .i64 x2, .int .i64 y2, .int .u64 s2, .int .u64 a2, .int .u64 b2, .int .u64 c2] 152)) := hT.below (((Below.refl _ w).alloc (Nat.le_refl _) _).alloc (by simp) _)
  have HL1 : Hid (∀ d : SubG ((w.alloc (.cells #[.int .i64 k1, .bool m1, .int .i64 t1, .int .i64 x1, .int .i64 y1, .int .u64 s1, .int .u64 a1, .int .u64 b1, .int .u64 c1] 152)).alloc (.cells #[.int .i64 k2, .bool m2, .int .i64 t2, .int .i64 x2, .int .i64 y2, .int .u64 s2, .int .u64 a2, .int .u64 b2, .int .u64 c2] 152)), Calls Tryz.prog 94 #[.agg #[.int .i64 k1, .bool m1, .int .i64 t1, .int .i64 x1, .int .i64 y1, .int .u64 s1, .int .u64 a1, .int .u64 b1, .int .u64 c1]] d.1 fun e w' => e = .returned (.int .i64 (leastH ⟨⟨k1, m1, t1, x1, y1⟩, s1, (a1, b1, c1)⟩)) ∧ ∃ d' : SubG _, w' = d'.1) := Lib.hid fun d => least_q ⟨⟨k1, m1, t1, x1, y1⟩, s1, (a1, b1, c1)⟩ hp hT2 d
  have HL2 : Hid (∀ d : SubG ((w.alloc (.cells #[.int .i64 k1, .bool m1, .int .i64 t1, .int .i64 x1, .int .i64 y1, .int .u64 s1, .int .u64 a1, .int .u64 b1, .int .u64 c1] 152)).alloc (.cells #[.int .i64 k2, .bool m2, .int .i64 t2, .int .i64 x2, .int .i64 y2, .int .u64 s2, .int .u64 a2, .int .u64 b2, .int .u64 c2] 152)), Calls Tryz.prog 94 #[.agg #[.int .i64 k2, .bool m2, .int .i64 t2, .int .i64 x2, .int .i64 y2, .int .u64 s2, .int .u64 a2, .int .u64 b2, .int .u64 c2]] d.1 fun e w' => e = .returned (.int .i64 (leastH ⟨⟨k2, m2, t2, x2, y2⟩, s2, (a2, b2, c2)⟩)) ∧ ∃ d' : SubG _, w' = d'.1) := Lib.hid fun d => least_q ⟨⟨k2, m2, t2, x2, y2⟩, s2, (a2, b2, c2)⟩ hq hT2 d
  have hA := (Below.heap_alloc (w.alloc (.cells #[.int .i64 k1, .bool m1, .int .i64 t1, .int .i64 x1, .int .i64 y1, .int .u64 s1, .int .u64 a1, .int .u64 b1, .int .u64 c1] 152)) (.cells #[.int .i64 k2, .bool m2, .int .i64 t2, .int .i64 x2, .int .i64 y2, .int .u64 s2, .int .u64 a2, .int .u64 b2, .int .u64 c2] 152) _ (by simp)).trans (World.alloc_heap_new w (.cells #[.int .i64 k1, .bool m1, .int .i64 t1, .int .i64 x1, .int .i64 y1, .int .u64 s1, .int .u64 a1, .int .u64 b1, .int .u64 c1] 152))
  have hB := second_new w (.cells #[.int .i64 k1, .bool m1, .int .i64 t1, .int .i64 x1, .int .i64 y1, .int .u64 s1, .int .u64 a1, .int .u64 b1, .int .u64 c1] 152) (.cells #[.int .i64 k2, .bool m2, .int .i64 t2, .int .i64 x2, .int .i64 y2, .int .u64 s2, .int .u64 a2, .int .u64 b2, .int .u64 c2] 152)
  have hG : Grew w ((w.alloc (.cells #[.int .i64 k1, .bool m1, .int .i64 t1, .int .i64 x1, .int .i64 y1, .int .u64 s1, .int .u64 a1, .int .u64 b1, .int .u64 c1] 152)).alloc (.cells #[.int .i64 k2, .bool m2, .int .i64 t2, .int .i64 x2, .int .i64 y2, .int .u64 s2, .int .u64 a2, .int .u64 b2, .int .u64 c2] 152)) := ((Grew.refl w).alloc _).alloc _
  unfold cmpP
  show Calls _ _ #[.agg #[.int .i64 k1, .bool m1, .int .i64 t1, .int .i64 x1, .int .i64 y1, .int .u64 s1, .int .u64 a1, .int .u64 b1, .int .u64 c1], .agg #[.int .i64 k2, .bool m2, .int .i64 t2, .int .i64 x2, .int .i64 y2, .int .u64 s2, .int .u64 a2, .int .u64 b2, .int .u64 c2]] _ _
  generalize leastH ⟨⟨k1, m1, t1, x1, y1⟩, s1, (a1, b1, c1)⟩ = n1 at HL1 ⊢
  generalize leastH ⟨⟨k2, m2, t2, x2, y2⟩, s2, (a2, b2, c2)⟩ = n2 at HL2 ⊢
  clear hp hq hT hT2
  go_enter Tryz.func92, Tryz.ntmps92
  go_wp2_with fail
  revert HL1 HL2 hA hB hG
  generalize ((w.alloc (.cells #[.int .i64 k1, .bool m1, .int .i64 t1, .int .i64 x1, .int .i64 y1, .int .u64 s1, .int .u64 a1, .int .u64 b1, .int .u64 c1] 152)).alloc (.cells #[.int .i64 k2, .bool m2, .int .i64 t2, .int .i64 x2, .int .i64 y2, .int .u64 s2, .int .u64 a2, .int .u64 b2, .int .u64 c2] 152)) = W
  intro hA hB hG HL1 HL2
  have f10 : ∀ d : SubG W, d.1.cell? ⟨w.heap.size, 0, none⟩ = some (.int .i64 k1) := fun d => by simp [World.cell?, d.block hA]
  have f11 : ∀ d : SubG W, d.1.cell? ⟨w.heap.size, 1, none⟩ = some (.bool m1) := fun d => by simp [World.cell?, d.block hA]
  have f12 : ∀ d : SubG W, d.1.cell? ⟨w.heap.size, 2, none⟩ = some (.int .i64 t1) := fun d => by simp [World.cell?, d.block hA]
  have f13 : ∀ d : SubG W, d.1.cell? ⟨w.heap.size, 3, none⟩ = some (.int .i64 x1) := fun d => by simp [World.cell?, d.block hA]
  have f14 : ∀ d : SubG W, d.1.cell? ⟨w.heap.size, 4, none⟩ = some (.int .i64 y1) := fun d => by simp [World.cell?, d.block hA]
  have f15 : ∀ d : SubG W, d.1.cell? ⟨w.heap.size, 5, none⟩ = some (.int .u64 s1) := fun d => by simp [World.cell?, d.block hA]
  have f16 : ∀ d : SubG W, d.1.cell? ⟨w.heap.size, 6, none⟩ = some (.int .u64 a1) := fun d => by simp [World.cell?, d.block hA]
  have f17 : ∀ d : SubG W, d.1.cell? ⟨w.heap.size, 7, none⟩ = some (.int .u64 b1) := fun d => by simp [World.cell?, d.block hA]
  have f18 : ∀ d : SubG W, d.1.cell? ⟨w.heap.size, 8, none⟩ = some (.int .u64 c1) := fun d => by simp [World.cell?, d.block hA]
  have f20 : ∀ d : SubG W, d.1.cell? ⟨w.heap.size + 1, 0, none⟩ = some (.int .i64 k2) := fun d => by simp [World.cell?, d.block hB]
  have f21 : ∀ d : SubG W, d.1.cell? ⟨w.heap.size + 1, 1, none⟩ = some (.bool m2) := fun d => by simp [World.cell?, d.block hB]
  have f22 : ∀ d : SubG W, d.1.cell? ⟨w.heap.size + 1, 2, none⟩ = some (.int .i64 t2) := fun d => by simp [World.cell?, d.block hB]
  have f23 : ∀ d : SubG W, d.1.cell? ⟨w.heap.size + 1, 3, none⟩ = some (.int .i64 x2) := fun d => by simp [World.cell?, d.block hB]
  have f24 : ∀ d : SubG W, d.1.cell? ⟨w.heap.size + 1, 4, none⟩ = some (.int .i64 y2) := fun d => by simp [World.cell?, d.block hB]
  have f25 : ∀ d : SubG W, d.1.cell? ⟨w.heap.size + 1, 5, none⟩ = some (.int .u64 s2) := fun d => by simp [World.cell?, d.block hB]
  have f26 : ∀ d : SubG W, d.1.cell? ⟨w.heap.size + 1, 6, none⟩ = some (.int .u64 a2) := fun d => by simp [World.cell?, d.block hB]
  have f27 : ∀ d : SubG W, d.1.cell? ⟨w.heap.size + 1, 7, none⟩ = some (.int .u64 b2) := fun d => by simp [World.cell?, d.block hB]
  have f28 : ∀ d : SubG W, d.1.cell? ⟨w.heap.size + 1, 8, none⟩ = some (.int .u64 c2) := fun d => by simp [World.cell?, d.block hB]
  refine wp_region_qg 5 (by kernel_rfl) (by kernel_rfl) ?_
  simp only [List.take_succ_cons, List.take_zero, List.drop_succ_cons, List.drop_zero]
  repeat (go_big_quiet_step (fail))
  go_big_quiet_step (exact HL1.out _)
  repeat (go_big_quiet_step (fail))
  go_big_quiet_step (exact HL2.out _)
  repeat (go_big_quiet_step (fail))
  go_big_quiet_step (exact compare_qg _ _ _)
  repeat (go_big_quiet_step (fail))
  refine wpQuiet_nil ?_
  intro dq
  go_wp2_with fail
  go_ret
  exact ⟨rfl, hG.trans dq.2⟩

/-! ### Sorting -/
structure HPo where
  p : HP
  lt : p.set < 2 ^ 64
instance : Inhabited HPo := ⟨⟨⟨⟨0, false, 0, 0, 0⟩, 0, (0, 0, 0)⟩, by decide⟩⟩
def RPo : REnc HPo := ⟨152, 9, fun p => hpVals p.1, fun _ => rfl, fun p u h => RP.one p.1 u h⟩
theorem RPo_cells : ∀ l : List HPo, RPo.cells l = RP.cells (l.map (·.1))
  | [] => rfl
  | p :: l => by
    have := RPo_cells l
    simp only [REnc.cells, List.flatMap_cons, List.map_cons] at this ⊢
    rw [this]; rfl
def cmpO (p q : HPo) : Int := cmpP p.1 q.1
theorem pieceO_swo : Sort.SWO (ltOf cmpO) where
  irrefl x := piece_swo.irrefl x.1
  trans x y z h1 h2 := piece_swo.trans x.1 y.1 z.1 h1 h2
  ntrans x y z h1 h2 := piece_swo.ntrans x.1 y.1 z.1 h1 h2
set_option maxRecDepth 100000 in
theorem sortO_any (base g cap : Nat) (l : List HPo) (W : World) (hT : TbAt W) (hTg : 1 ≠ g) (hq : RPo.Own W base (.slice (some ⟨g, 0, none⟩) l.length cap) l) (hn : l.length ≤ 1000000) :
    Calls Tryz.prog 91 #[.slice (some ⟨g, 0, none⟩) l.length cap, .func (.func 92) #[] #[]] W fun e W' =>
      e = .returned (.tuple #[]) ∧ ∃ l' : List HPo, l'.Perm l ∧ l'.Pairwise (fun a b => ¬ leastH b.1 < leastH a.1) ∧ RPo.Own W' base (.slice (some ⟨g, 0, none⟩) l'.length cap) l' ∧ l'.length = l.length ∧ BelowBut W.heap.size g W W' := by
  obtain ⟨hg, hgW⟩ := hq.lt g rfl
  have hfz : ∀ j, W.frozen? ⟨g, j, none⟩ = false := fun j => by
    rcases hq.2 with ⟨h, _⟩ | ⟨g', cap', cur, hv, _, h2, _⟩
    · cases h
    · simp only [Value.slice.injEq, Option.some.injEq, Addr.mk.injEq, and_true] at hv
      obtain ⟨rfl, _⟩ := hv
      exact frozen_of_row W _ j _ _ h2
  have hH : Sort.HoldsK RPo.vals 9 W g 0 l.toArray := fun j hj => by
    rw [Sort.size_flatK] at hj
    obtain ⟨e, he, hf⟩ := flatR_get RPo l.toArray j (by decide) hj
    have hf' : (Sort.flatK RPo.vals 9 l.toArray)[j]! = ((RPo.vals e)[j % 9]?).getD default := hf
    rw [hf', Nat.zero_add]
    refine ⟨?_, hfz j⟩
    have := hq.cells (g := g) rfl j _ (cellsR_mod RPo (by decide) (by simpa using he))
    rwa [add_at] at this
  have hcmp : CmpLays Tryz.prog 92 #[] RPo.vals 9 cmpO g 0 l.toArray.size W := fun m os dk _ x y =>
    leastCmp_any x.1 y.1 x.2 y.2 _ (hT.move (sortWorldK_other RPo.vals 9 W g 0 m dk os hT.lt hTg))
  have hcon := AnyQ.slices_SortFunc Tryz.sortPc 9 Tryz.isAgg152 Tryz.sizeOf152 RPo.vals RPo.len RPo.one cmpO pieceO_swo 92 #[] g 0 cap l.toArray W (enters_of Tryz.func92 (by kernel_rfl) rfl) hcmp hH hgW (by simp; omega)
  rw [show l.toArray.size = l.length by simp] at hcon
  change Calls Tryz.prog 91 _ _ _ at hcon
  refine hcon.mono ?_
  rintro e W' ⟨rfl, d', nn, os, hp, hs, rfl⟩
  have hd's : d'.size = l.length := by simpa using hp.1
  have hperm : d'.toList.Perm l := by
    have := hp.2.2
    rw [show d'.extract 0 l.length = d' by rw [← hd's]; simp, show l.toArray.extract 0 l.length = l.toArray by simp] at this
    simpa using this
  have hH' := holdsK_sortWorldK_c (α := HPo) RPo.vals 9 W g 0 l.toArray d' nn os hH hgW (by simpa using hd's)
  refine ⟨rfl, d'.toList, hperm, ?_, ?_, by simpa using hd's, ⟨rfl, rfl, rfl, size_sortWorldK_c RPo.vals 9 W g 0 nn d' os, fun k hk hne => sortWorldK_other RPo.vals 9 W g 0 nn d' os hk hne⟩⟩
  · rw [List.pairwise_iff_getElem]
    intro i j hi hj hij
    have hi' : i < d'.size := by simpa using hi
    have hj' : j < d'.size := by simpa using hj
    have := hs i j (Nat.zero_le _) hij (by rw [← hd's]; exact hj')
    rw [getElem!_pos d' i hi', getElem!_pos d' j hj'] at this
    have := of_decide_eq_false this
    intro hlt
    exact this (cmpP_lt.2 (by simpa using hlt))
  · rcases hq.2 with ⟨h, _⟩ | ⟨g', cap', cur, hv, hb, h2, h3, h4, h5, _⟩
    · cases h
    simp only [Value.slice.injEq, Option.some.injEq, Addr.mk.injEq, and_true] at hv
    obtain ⟨rfl, _, rfl⟩ := hv
    obtain ⟨cur', hc1, hc2⟩ := sortK_block RPo.vals 9 W g 0 nn d' os h2
    have hdl : d'.toList.length = l.length := by simpa using hd's
    refine ⟨by rw [REnc.cells_length], .inr ⟨g, cap, cur', rfl, hb, hc1, by rw [hdl]; exact h3, h4, by rw [hc2]; exact h5, ?_⟩⟩
    have hn9 : RPo.n = 9 := rfl
    show cur'.toList.take (d'.toList.length * 9) = RPo.cells d'.toList
    refine List.ext_getElem? fun j => ?_
    by_cases hj : j < d'.toList.length * 9
    · have hjs : j < (Sort.flatK RPo.vals 9 d').size := by rw [Sort.size_flatK]; simpa using hj
      have h := (hH' j hjs).1
      rw [Nat.zero_add] at h
      have hcell : (sortWorldK RPo.vals 9 W g 0 nn d' os).cell? ⟨g, j, none⟩ = cur'[j]? := by simp [World.cell?, hc1]
      rw [hcell] at h
      obtain ⟨e, he, hf⟩ := flatR_get RPo d' j (by decide) (by rw [hn9]; simpa using hj)
      have hf' : (Sort.flatK RPo.vals 9 d')[j]! = ((RPo.vals e)[j % 9]?).getD default := hf
      rw [List.getElem?_take_of_lt hj, cellsR_mod RPo (by decide) he]
      rw [hf'] at h
      rw [Array.getElem?_toList]
      exact h
    · rw [List.getElem?_eq_none (by rw [List.length_take]; omega), List.getElem?_eq_none (by rw [REnc.cells_length, hn9]; omega)]
theorem perm_le_eq {α : Type} (f : α → Nat) : ∀ {l m : List α}, l.Perm m → l.Pairwise (fun a b => ¬ f b < f a) → m.Pairwise (fun a b => f a < f b) → l = m
  | [], m, h, _, _ => (List.nil_perm.1 h).symm
  | a :: l, [], h, _, _ => by have := h.length_eq; simp at this
  | a :: l, b :: m, h, h1, h2 => by
    have ha : a = b := by
      rcases List.mem_cons.1 (h.mem_iff.1 List.mem_cons_self) with e | e
      · exact e
      rcases List.mem_cons.1 (h.mem_iff.2 List.mem_cons_self) with e' | e'
      · exact e'.symm
      have x1 := (List.pairwise_cons.1 h1).1 b e'
      have x2 := (List.pairwise_cons.1 h2).1 a e
      omega
    subst ha
    rw [perm_le_eq f (List.Perm.cons_inv h) (List.pairwise_cons.1 h1).2 (List.pairwise_cons.1 h2).2]
/-- The same for pieces: where the least quarters are different, the order is told. -/
theorem sortPc_any (base : Nat) (v : Value) (l m : List HP) (W : World) (hT : TbAt W) (hTg : 1 < base) (hq : RP.Own W base v l) (hne : l ≠ []) (hn : l.length ≤ 1000000) (hl : ∀ p ∈ l, p.set < 2 ^ 64)
    (hm : m.Perm l) (hs : m.Pairwise fun a b => leastH a < leastH b) :
    Calls Tryz.prog 91 #[v, .func (.func 92) #[] #[]] W fun e W' =>
      e = .returned (.tuple #[]) ∧ RP.Own W' base v m ∧ W.heap.size ≤ W'.heap.size ∧ W'.os = W.os ∧ W'.tape = W.tape ∧ W'.output = W.output ∧ ∀ k, k < W.heap.size → v.ownBlock ≠ some k → W'.heap[k]? = W.heap[k]? := by
  obtain ⟨lo, rfl⟩ : ∃ lo : List HPo, l = lo.map (·.1) := ⟨l.attach.map fun x => ⟨x.1, hl x.1 x.2⟩, by rw [List.map_map]; exact (List.attach_map_subtype_val l).symm⟩
  obtain ⟨g, cap, hv, hg⟩ : ∃ g cap, v = .slice (some ⟨g, 0, none⟩) lo.length cap ∧ base ≤ g := by
    rcases hq.2 with ⟨_, h0⟩ | ⟨g, cap, cur, hv, hb, _⟩
    · exact absurd (List.length_eq_zero_iff.1 h0) hne
    · exact ⟨g, cap, by rw [hv, List.length_map], hb⟩
  subst hv
  have hq' : RPo.Own W base (.slice (some ⟨g, 0, none⟩) lo.length cap) lo := by
    show W.ownsRow base _ 9 _ lo.length (RPo.cells lo)
    rw [RPo_cells]
    have : W.ownsRow base RP.ty RP.n (.slice (some ⟨g, 0, none⟩) lo.length cap) (lo.map (·.1)).length (RP.cells (lo.map (·.1))) := hq
    rw [List.length_map] at this
    exact this
  refine (sortO_any base g cap lo W hT (by omega) hq' (by simpa using hn)).mono ?_
  rintro e W' ⟨rfl, l', hp, hpw, ho, hlen, hb⟩
  have e : l'.map (·.1) = m := perm_le_eq leastH ((hp.map _).trans hm.symm) (List.pairwise_map.2 hpw) hs
  refine ⟨rfl, ?_, hb.size, hb.os, hb.tape, hb.output, fun k hk hne => hb.block k hk fun e => hne (by rw [e]; rfl)⟩
  subst e
  show W'.ownsRow base _ 9 _ (l'.map (·.1)).length (RP.cells (l'.map (·.1)))
  rw [← RPo_cells, List.length_map, ← hlen]
  exact ho
end Go.Proofs.YtiinlplgloaanaaGreatDoor

/- What the rows' lists of the Layer seat say of the tables. -/
namespace Go.Proofs.YtiinlplgloaanaaGreatDoor
set_option linter.all false
set_option linter.unusedSimpArgs false
set_option linter.unusedVariables false
open Go.RowKit Go.ChangeShapes Go.WideShapes Go.Deep

theorem gTab64 : Tryz.prog.globalNamed "math/bits.deBruijn64tab" = some 1 := by kernel_rfl
theorem tTab64 : (Tryz.prog.globals[1]?).map (·.type) = some 243 := by kernel_rfl
set_option maxRecDepth 100000 in
theorem tb_of_laid {l : List (String × DataW Unit)} {W : World} (hm : ("math/bits.deBruijn64tab", Rows.laid_math_bits_deBruijn64tab) ∈ l) (h : laidMet Tryz.prog l W) : TbAt W := by
  obtain ⟨g, t, cs, fuel, p, hg, ht, hv, hd⟩ := Lib.laidMet.reads h hm
  obtain rfl := Option.some.inj (gTab64.symm.trans hg)
  obtain rfl := Option.some.inj (tTab64.symm.trans ht)
  have hd' : DataW.trod (fun _ => ()) Tryz.prog W 0 (fun _ => true) false fuel 243 cs.toList = some (Lib.tabData .u8 (Lib.deBruijn64tab.map fun n : Nat => (n : Int)), p) := hd
  have hcs := Lib.cells_of_tab Tryz.underlying243 Tryz.underlying5 (by kernel_rfl) (by kernel_rfl) hd'
  unfold World.var? at hv
  rw [gTab64] at hv
  simp only [Option.bind_some] at hv
  split at hv
  · rename_i cs' t' fr hw
    cases hv
    intro j hj
    simp only [World.cell?, hw]
    simp only [Option.isSome_none, Bool.false_eq_true, if_false]
    rw [← Array.getElem?_toList, hcs, List.getElem?_map, List.getElem?_map, List.getElem?_eq_getElem hj]
    simp [List.getD, List.getElem?_eq_getElem hj]
  · cases hv
/-- The world that the door leaves: the six listed variables hold what their initialisers lay. -/
noncomputable def laidWorld6 (os : Os) : World :=
  let w0 := World.holding Tryz.prog os ⟨#[], #[], []⟩
  let put (h : Array Obj) (g : Nat) (cs : Array Value) : Array Obj := h.modify g fun
    | .cells _ t frozen => .cells cs t frozen
    | o => o
  let h1 := put w0.heap 0 kindsA
  let h2 := put h1 4 (Lib.firstTab.map fun z => Value.int .u8 z).toArray
  let h3 := put h2 5 ((List.range 16).flatMap fun i => [Value.int .u8 (Lib.accLo i), Value.int .u8 (Lib.accHi i)]).toArray
  let h4 := put h3 1 (Lib.deBruijn64tab.map fun n : Nat => Value.int .u8 n).toArray
  let h5 := put h4 6 (Lib.deBruijn32tab.map fun n : Nat => Value.int .u8 n).toArray
  let h6 := put h5 3 ((List.range 20).map fun n : Nat => Value.int .u64 (10 ^ n : Nat)).toArray
  { w0 with heap := h6 }
def laid6 : List (String × DataW Unit) := [("math/bits.deBruijn32tab", Rows.laid_math_bits_deBruijn32tab), ("math/bits.deBruijn64tab", Rows.laid_math_bits_deBruijn64tab), ("internal/strconv.uint64pow10", Rows.laid_internal_strconv_uint64pow10), ("unicode/utf8.acceptRanges", Rows.laid_unicode_utf8_acceptRanges), ("chiti/brick.kinds", Rows.laid_chiti_brick_kinds), ("unicode/utf8.first", Rows.laid_unicode_utf8_first)]
set_option maxRecDepth 100000 in
theorem laid6_plain : (laid6.all fun x => x.2.handleName?.isNone) = true := by kernel_rfl
set_option maxRecDepth 100000 in
theorem laidWorld6_met (os : Os) (args : Array Value) : laidMetH Tryz.prog laid6 ((laidWorld6 os).forCall (fun _ _ => 0) ⟨#[], args, []⟩).memory := by
  rw [MakeChecks.laidMetH_plain _ _ _ laid6_plain]
  exact laidMet_of_run' 8 (by kernel_rfl) (by kernel_rfl)
set_option maxRecDepth 100000 in
theorem kinds_of_row6 {W : World} (h : laidMetH Tryz.prog laid6 W) : KindsAt W := by
  rw [MakeChecks.laidMetH_plain _ _ _ laid6_plain] at h
  exact kinds_of_laid (l := laid6) (by unfold laid6; simp) h
set_option maxRecDepth 100000 in
theorem tb_of_row6 {W : World} (h : laidMetH Tryz.prog laid6 W) : TbAt W := by
  rw [MakeChecks.laidMetH_plain _ _ _ laid6_plain] at h
  exact tb_of_laid (l := laid6) (by unfold laid6; exact .tail _ (.head _)) h
set_option maxRecDepth 100000 in
/-- No more quarters than memory holds. -/
theorem quarters_sized {H : Type} {enc : TypeId × Value → H} {W : World} {base : Nat} {v : Value} {d : DataW H} {p : List MemPlace} {l : List Q} (hval : Value.okWide Tryz.prog W .any base 22 v) (h : DataW.Trod enc Tryz.prog W 0 (fun _ => true) true 22 v d p) (hq : HasQ W v l)
    (hs : ∀ elems spare, d = .slice elems spare → (elems.length + spare.length) * Tryz.prog.bytesOf 56 ≤ reachBytes) : l.length * 24 ≤ 140737488351232 := by
  obtain ⟨a0, len0, cap0, rfl⟩ := okWide_slice Tryz.underlying22 hval
  obtain ⟨fuel, hf⟩ := h
  obtain ⟨p2, c2, e2⟩ := hq.slice
  simp only [Value.slice.injEq] at e2
  obtain ⟨_, rfl, _⟩ := e2
  rcases DataW.trod_slice Tryz.underlying22 hf with ⟨h0, _⟩ | ⟨a, len, cap, elems, rest, n, _, h0, hx, _, _, _, hlen, _⟩
  · have h1 : Value.slice a0 l.length cap0 = .slice none 0 0 := by simpa [Value.cells] using h0
    simp only [Value.slice.injEq] at h1
    rw [h1.2.1]; decide
  · have h1 : Value.slice a0 l.length cap0 = .slice (some a) len cap := by simpa [Value.cells] using h0
    simp only [Value.slice.injEq] at h1
    have h2 := hs (elems.map (·.1)) (rest.map (·.1)) (congrArg Prod.fst hx)
    have h3 : Tryz.prog.bytesOf 56 = 24 := by kernel_rfl
    rw [h3, List.length_map, List.length_map, hlen, ← h1.2.1] at h2
    have h4 : reachBytes = 140737488351232 := rfl
    rw [h4, Nat.add_mul] at h2
    omega
set_option maxRecDepth 100000 in
/-- An argument of two bytes. -/
theorem arg_two {H : Type} {enc : TypeId × Value → H} {W : World} {base : Nat} {v : Value} {d : DataW H} {p : List MemPlace} (hval : Value.okWide Tryz.prog W .any base 23 v) (h : DataW.Trod enc Tryz.prog W 0 (fun _ => true) true 23 v d p) :
    ∃ a b : Nat, v = .agg #[.int .u8 a, .int .u8 b] ∧ a < 256 ∧ b < 256 := by
  have hu := Tryz.underlying23
  have hv := hval
  simp only [Value.okWide, hu] at hv
  obtain ⟨cs, rfl, hsz, _⟩ := hv
  obtain ⟨fuel, hf⟩ := h
  obtain ⟨k, xs, h1, h2, h3, h4⟩ := arr_at hu hf
  have c2 : Tryz.prog.cellsOf 23 = 2 := by kernel_rfl
  have c1 : Tryz.prog.cellsOf 5 = 1 := by kernel_rfl
  rw [c2] at hsz
  rw [c1] at h4
  obtain ⟨c0, c1', rfl⟩ := Joins.array2 hsz
  have g0 := h4 0 (by omega)
  have g1 := h4 1 (by omega)
  match xs, h3 with
  | [y0, y1], _ =>
    simp [Value.cells] at g0 g1
    obtain ⟨n0, e0, _, w0⟩ := DataW.trod_int Tryz.underlying5 g0
    obtain ⟨n1, e1, _, w1⟩ := DataW.trod_int Tryz.underlying5 g1
    simp only [List.cons.injEq, and_true] at e0 e1
    subst e0; subst e1
    have b0 : 0 ≤ n0 ∧ n0 < 256 := by
      have h : IntKind.u8.min ≤ n0 ∧ n0 ≤ IntKind.u8.max := by simpa [Lit.wf] using w0
      have h1 : (0 : Int) ≤ n0 := h.1
      have h2 : n0 ≤ 255 := h.2
      omega
    have b1 : 0 ≤ n1 ∧ n1 < 256 := by
      have h : IntKind.u8.min ≤ n1 ∧ n1 ≤ IntKind.u8.max := by simpa [Lit.wf] using w1
      have h1 : (0 : Int) ≤ n1 := h.1
      have h2 : n1 ≤ 255 := h.2
      omega
    exact ⟨n0.toNat, n1.toNat, by rw [Int.toNat_of_nonneg b0.1, Int.toNat_of_nonneg b1.1], by omega, by omega⟩
end Go.Proofs.YtiinlplgloaanaaGreatDoor
