/- What the row's list says of the table of kinds. -/
import Derived.Lib.LaidU8
import Derived.PinnedBridge
import Derived.ChangeSame
import Derived.ChangeVars
import Derived.JoinedOf
import Derived.LaidLaws
import Derived.LaidHandle
import Derived.LaidMore
import Derived.MakeChecks
import Derived.Test.YtimnmfjbfbkooaaDoorRows
import Derived.Test.YtimnmfjbfbkooaaDoorOq
namespace Go.Proofs.YtimnmfjbfbkooaaDoor
set_option linter.all false
set_option linter.unusedSimpArgs false
set_option linter.unusedVariables false
open Go.RowKit Go.ChangeShapes Go.WideShapes Go.Deep

theorem arr_at {H : Type} {enc : TypeId × Value → H} {P : Program} {w : World} {base : Nat} {sp : Nat → Bool} {held : Bool} {fuel : Nat} {t e : TypeId} {n : Nat} {cs : List Value} {x : DataW H × List MemPlace}
    (ht : P.underlying t = some (.array n e)) (h : DataW.trod enc P w base sp held fuel t cs = some x) :
    ∃ (k : Nat) (xs : List (DataW H × List MemPlace)), x.1 = .agg (xs.map (·.1)) ∧ cs.length = P.cellsOf t ∧ xs.length = n ∧ ∀ i, i < n → DataW.trod enc P w base sp held k e ((cs.drop (i * P.cellsOf e)).take (P.cellsOf e)) = xs[i]? := by
  cases fuel with
  | zero => simp [DataW.trod] at h
  | succ fuel =>
    simp only [DataW.trod, ht] at h
    split at h
    · rename_i hl
      obtain ⟨xs, hm, hx⟩ := Option.map_eq_some_iff.1 h
      have hxl : xs.length = n := by simpa using Lib.mapM_length hm
      refine ⟨fuel, xs, by rw [← hx], by simpa using hl, hxl, fun i hi => ?_⟩
      obtain ⟨b, hb, hf⟩ := Lib.mapM_at hm i i (List.getElem?_range hi)
      rw [hb]; exact hf
    · cases h
set_option maxRecDepth 100000 in
theorem two_strings {H : Type} {enc : TypeId × Value → H} {w : World} {base : Nat} {sp : Nat → Bool} {held : Bool} {k : Nat} {cs : List Value} {x : DataW H × List MemPlace} {a b : List UInt8}
    (h : DataW.trod enc Tryd.prog w base sp held k 74 cs = some x) (hx : x.1 = .agg [.lit (.string a), .lit (.string b)]) : cs = [.string ⟨a.toArray⟩, .string ⟨b.toArray⟩] := by
  obtain ⟨k', xs, h1, h2, h3, h4⟩ := arr_at Tryd.underlying74 h
  have c9 : Tryd.prog.cellsOf 9 = 1 := by kernel_rfl
  have c2 : Tryd.prog.cellsOf 74 = 2 := by kernel_rfl
  rw [c2] at h2
  match cs, h2, xs, h3 with
  | [v0, v1], _, [y0, y1], _ =>
    have g0 := h4 0 (by omega)
    have g1 := h4 1 (by omega)
    simp [c9] at g0 g1
    obtain ⟨s0, e0, f0, _⟩ := DataW.trod_string Tryd.underlying9 g0
    obtain ⟨s1, e1, f1, _⟩ := DataW.trod_string Tryd.underlying9 g1
    rw [h1] at hx
    simp only [List.map_cons, List.map_nil, DataW.agg.injEq, List.cons.injEq, and_true] at hx
    rw [f0, f1] at hx
    simp only [DataW.lit.injEq, Lit.string.injEq] at hx
    simp only [List.cons.injEq, and_true] at e0 e1
    rw [e0, e1, ← hx.1, ← hx.2]

theorem gKinds : Tryd.prog.globalNamed "chiti/brick.kinds" = some 0 := by kernel_rfl
theorem tKinds : (Tryd.prog.globals[0]?).map (·.type) = some 75 := by kernel_rfl
theorem split16 {α : Type} : ∀ (L : List α), L.length = 16 → L = L.take 2 ++ ((L.drop 2).take 2 ++ ((L.drop 4).take 2 ++ ((L.drop 6).take 2 ++ ((L.drop 8).take 2 ++ ((L.drop 10).take 2 ++ ((L.drop 12).take 2 ++ (L.drop 14).take 2))))))
  | [_, _, _, _, _, _, _, _, _, _, _, _, _, _, _, _], _ => rfl
set_option maxRecDepth 100000 in
/-- What the row's list says of the table of kinds. -/
theorem kinds_of_laid {l : List (String × DataW Unit)} {W : World} (hm : ("chiti/brick.kinds", Rows.laid_chiti_brick_kinds) ∈ l) (h : laidMet Tryd.prog l W) : KindsAt W := by
  obtain ⟨g, t, cs, fuel, p, hg, ht, hv, hd⟩ := Lib.laidMet.reads h hm
  obtain rfl := Option.some.inj (gKinds.symm.trans hg)
  obtain rfl := Option.some.inj (tKinds.symm.trans ht)
  obtain ⟨k, xs, h1, h2, h3, h4⟩ := arr_at Tryd.underlying75 hd
  have c2 : Tryd.prog.cellsOf 74 = 2 := by kernel_rfl
  have c16 : Tryd.prog.cellsOf 75 = 16 := by kernel_rfl
  rw [c16] at h2
  rw [c2] at h4
  have h1' : xs.map (·.1) = kindsL.map (fun p => (.agg [.lit (.string p.1.data.toList), .lit (.string p.2.data.toList)] : DataW Unit)) := by
    have e : (Rows.laid_chiti_brick_kinds : DataW Unit) = .agg (kindsL.map (fun p => (.agg [.lit (.string p.1.data.toList), .lit (.string p.2.data.toList)] : DataW Unit))) := rfl
    rw [e] at h1
    simp only [DataW.agg.injEq] at h1
    exact h1.symm
  have each : ∀ i, i < 8 → ∃ a b, kindsL[i]? = some (a, b) ∧ (cs.toList.drop (i * 2)).take 2 = [.string a, .string b] := by
    intro i hi
    obtain ⟨⟨a, b⟩, hab⟩ : ∃ p, kindsL[i]? = some p := ⟨_, List.getElem?_eq_getElem (show i < 8 from hi)⟩
    refine ⟨a, b, hab, ?_⟩
    have hx := h4 i hi
    cases hxi : xs[i]? with
    | none => exact absurd (List.getElem?_eq_none_iff.1 hxi) (by omega)
    | some x =>
      rw [hxi] at hx
      have hx1 : x.1 = .agg [.lit (.string a.data.toList), .lit (.string b.data.toList)] := by
        have e := congrArg (·[i]?) h1'
        simp only [List.getElem?_map, hxi, hab, Option.map_some, Option.some.injEq] at e
        exact e
      have := two_strings hx hx1
      rw [this]
  have hcs : cs = kindsA := by
    apply Array.ext'
    rw [split16 cs.toList h2]
    obtain ⟨a0, b0, k0, e0⟩ := each 0 (by omega)
    obtain ⟨a1, b1, k1, e1⟩ := each 1 (by omega)
    obtain ⟨a2, b2, k2, e2⟩ := each 2 (by omega)
    obtain ⟨a3, b3, k3, e3⟩ := each 3 (by omega)
    obtain ⟨a4, b4, k4, e4⟩ := each 4 (by omega)
    obtain ⟨a5, b5, k5, e5⟩ := each 5 (by omega)
    obtain ⟨a6, b6, k6, e6⟩ := each 6 (by omega)
    obtain ⟨a7, b7, k7, e7⟩ := each 7 (by omega)
    simp only [Nat.zero_mul, List.drop_zero] at e0
    simp only [Nat.reduceMul] at e1 e2 e3 e4 e5 e6 e7
    rw [e0, e1, e2, e3, e4, e5, e6, e7]
    cases k0; cases k1; cases k2; cases k3; cases k4; cases k5; cases k6; cases k7
    rfl
  subst hcs
  unfold World.var? at hv
  rw [gKinds] at hv
  simp only [Option.bind_some] at hv
  split at hv
  · rename_i cs' t' fr hw
    cases hv
    exact ⟨t', fr, hw⟩
  · cases hv

/-- The builder, with what the form says of the world's shape. -/
theorem ret_shaped {H : Type} {enc : TypeId × Value → H} {a : Assume} {C : Checked} {os : Os} {f : FuncId} {fn : Func} {s : ChangeSpec} {conds : List PathCond} {apart fresh handsOn again : Bool} {X : World → Array Value → Prop}
    (hX : ∀ (w w' : World) (args : Array Value), w.heap = w'.heap → X w args → X w' args)
    (own : ownKnob C.prog.godebug = none) (started : os.Started) (noInit : C.prog.inits.idxOf? f = none) (hfn : C.prog.funcs[f]? = some fn)
    (witness : ∃ (w : World) (tape : Tape) (i : Input), w.os = os ∧ (w.forCall tape i).Shaped C.prog ∧ i.vars = [] ∧ Input.okWide C.prog (w.forCall tape i) .any w.heap.size f i ∧
      ((s.pre enc C.prog fn conds apart (w.forCall tape i).memory i.args ∧ X (w.forCall tape i).memory i.args) ∧ sizedMet enc C.prog fn (OpenSpec.ofChange s) apart (w.forCall tape i).memory i.args) ∧ a.holds C.prog (lone (Frame.enter C.prog f i.args .normal) [] (w.forCall tape i)))
    (contract : ∀ (W : World) (base : Nat) (args : Array Value) (ds gs : List (DataW H)) (before : List MemPlace),
      (∀ (j : Nat) t v, fn.params[j]? = some t → args[j]? = some v → Value.okWide C.prog W .any base t v) →
      DataW.Whole enc C.prog fn.params.toList s.vars apart W args.toList ds gs before →
      (DataW.weightsEach C.prog (fn.params.toList ++ s.plain.varTypes C.prog) (ds ++ gs)).all (· ≤ reachBytes) = true → X W args → W.ShapedOpen C.prog →
      Calls C.prog f args W fun e W' => ∃ v, e = .returned v ∧ s.post enc C.prog fn apart fresh handsOn again W args v W') :
    ReturnsInHanded a C os f .any (fun w args => (s.pre enc C.prog fn conds apart w args ∧ X w args) ∧ sizedMet enc C.prog fn (OpenSpec.ofChange s) apart w args) (s.post enc C.prog fn apart fresh handsOn again) := by
  refine returnsInHanded_of_calls own started noInit witness ?_
  intro w tape i _ hsh _ hok hpre _
  obtain ⟨_, _, _, fn', hfn', _, _, _, _, hval⟩ := hok
  have e : fn' = fn := Option.some.inj (hfn'.symm.trans hfn)
  subst e
  obtain ⟨⟨⟨ds, gs, before, hw, hc⟩, hx⟩, hz⟩ := hpre
  have hw' := DataW.Whole.of_heap (w' := w.forCall tape i) (by rfl) hw
  refine (contract (w.forCall tape i) w.heap.size i.args ds gs before hval hw' (hz.weights hw) (hX _ _ _ (by rfl) hx) hsh).mono fun e W' ⟨v, he, hp⟩ => ?_
  subst he
  exact ChangeSpec.post_blind hp

theorem ownKnobs : ownKnob Tryd.prog.godebug = none := by kernel_rfl

set_option maxRecDepth 100000 in
theorem slice_lt {W : World} {base : Nat} {t e : TypeId} {a : Addr} {len cap : Nat} (ht : Tryd.prog.underlying t = some (.slice e)) (h : Value.okWide Tryd.prog W .any base t (.slice (some a) len cap)) : a.block < W.heap.size := by
  simp only [Value.okWide, ht, Cell.okWide, Cell.ok, World.has] at h
  obtain ⟨_, _, _, _, row, cells, hs, _⟩ := h
  rcases Nat.lt_or_ge a.block W.heap.size with h' | h'
  · exact h'
  · simp [World.shape?, Array.getElem?_eq_none h'] at hs
set_option maxRecDepth 100000 in
theorem arg_quarters {H : Type} {enc : TypeId × Value → H} {W : World} {base : Nat} {v : Value} {d : DataW H} {p : List MemPlace} (hval : Value.okWide Tryd.prog W .any base 22 v) (h : DataW.Trod enc Tryd.prog W 0 (fun _ => true) true 22 v d p) : ∃ l, HasQ W v l := by
  obtain ⟨a0, len, cap, rfl⟩ := okWide_slice Tryd.underlying22 hval
  obtain ⟨fuel, hf⟩ := h
  exact open_quarters (fun a len' cap' e => by
    simp only [Value.slice.injEq] at e
    obtain ⟨rfl, rfl, rfl⟩ := e
    exact slice_lt Tryd.underlying22 hval) hf

/-- The world that the door leaves: the three listed variables hold what their initialisers lay. -/
noncomputable def laidWorld (os : Os) : World :=
  let w0 := World.holding Tryd.prog os ⟨#[], #[], []⟩
  let put (h : Array Obj) (g : Nat) (cs : Array Value) : Array Obj := h.modify g fun
    | .cells _ t frozen => .cells cs t frozen
    | o => o
  let h1 := put w0.heap 0 kindsA
  let h2 := put h1 2 (Lib.firstTab.map fun z => Value.int .u8 z).toArray
  let h3 := put h2 3 ((List.range 16).flatMap fun i => [Value.int .u8 (Lib.accLo i), Value.int .u8 (Lib.accHi i)]).toArray
  { w0 with heap := h3 }
def laid3 : List (String × DataW Unit) := [("unicode/utf8.acceptRanges", Rows.laid_unicode_utf8_acceptRanges), ("chiti/brick.kinds", Rows.laid_chiti_brick_kinds), ("unicode/utf8.first", Rows.laid_unicode_utf8_first)]
set_option maxRecDepth 100000 in
theorem laid3_plain : (laid3.all fun x => x.2.handleName?.isNone) = true := by kernel_rfl
set_option maxRecDepth 100000 in
theorem laidWorld_met (os : Os) (args : Array Value) : laidMetH Tryd.prog laid3 ((laidWorld os).forCall (fun _ _ => 0) ⟨#[], args, []⟩).memory := by
  rw [MakeChecks.laidMetH_plain _ _ _ laid3_plain]
  exact laidMet_of_run' 8 (by kernel_rfl) (by kernel_rfl)
set_option maxRecDepth 100000 in
theorem kinds_of_row {W : World} (h : laidMetH Tryd.prog laid3 W) : KindsAt W := by
  rw [MakeChecks.laidMetH_plain _ _ _ laid3_plain] at h
  exact kinds_of_laid (l := laid3) (by unfold laid3; exact .tail _ (.head _)) h
theorem laidOuts : laidOutB Tryd.prog = true := by kernel_rfl
end Go.Proofs.YtimnmfjbfbkooaaDoor
