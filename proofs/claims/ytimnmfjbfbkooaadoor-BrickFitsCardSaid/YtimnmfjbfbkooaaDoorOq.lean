/- A slice of quarters as an argument: opened. -/
import Derived.ProofKit
import Derived.ReadAgain
import Derived.Deep.SlicePairs
import Derived.Test.YtimnmfjbfbkooaaDoorBn
namespace Go.Proofs.YtimnmfjbfbkooaaDoor
set_option linter.all false
set_option linter.unusedSimpArgs false
set_option linter.unusedVariables false
open Go.RowKit Go.ChangeShapes Go.WideShapes Go.Deep

theorem cellsQ' : Tryd.prog.cellsOf 29 = 3 := by kernel_rfl
theorem cellsI' : Tryd.prog.cellsOf 3 = 1 := by kernel_rfl
instance : Inhabited Q := ⟨⟨0, 0, 0⟩⟩
theorem structQ : ∃ f0 f1 f2 : Field, Tryd.prog.underlying 29 = some (.struct #[f0, f1, f2]) ∧ f0.type = 3 ∧ f1.type = 3 ∧ f2.type = 3 ∧ f0.offset = 0 ∧ f1.offset = 1 ∧ f2.offset = 2 := ⟨_, _, _, Tryd.underlying29, rfl, rfl, rfl, rfl, rfl, rfl⟩
set_option maxRecDepth 100000 in
theorem open_quarters {H : Type} {enc : TypeId × Value → H} {w : World} {spare : Nat → Bool} {held : Bool} {fuel : Nat} {v : Value} {x : DataW H × List MemPlace} (hlt : ∀ a len cap, v = .slice (some a) len cap → a.block < w.heap.size) (h : DataW.trod enc Tryd.prog w 0 spare held fuel 22 [v] = some x) : ∃ l, HasQ w v l := by
  rcases open_slice Tryd.underlying22 h with ⟨h0, _⟩ | ⟨a, len, cap, m, n, D, Pl, h0, _, hl, hm, hmm, _, hx⟩
  · simp only [List.cons.injEq, and_true] at h0
    exact ⟨[], .inl ⟨h0, rfl⟩⟩
  · simp only [List.cons.injEq, and_true] at h0
    subst h0
    have hlm : len ≤ m := by rw [hmm]; split <;> omega
    obtain ⟨f0, f1, f2, hs, t0, t1, t2, o0, o1, o2⟩ := structQ
    have each : ∀ i, i < m → ∃ q : Q, w.cell? (a.add (i * 3)) = some (.int .i64 q.x) ∧ w.cell? (a.add (i * 3 + 1)) = some (.int .i64 q.y) ∧ w.cell? (a.add (i * 3 + 2)) = some (.int .i64 q.s) := by
      intro i hi
      obtain ⟨cs', h1, h2⟩ := hx i hi
      rw [cellsQ'] at h1
      obtain ⟨_, hlen, hcell⟩ := World.cells?_some h1
      obtain ⟨xs, k, hk, hxy, _, hxl, hf⟩ := DataW.trod_struct hs h2
      match xs, hxl, cs', hlen with
      | [y0, y1, y2], _, [v0, v1, v2], _ =>
        have g0 := hf 0 f0 rfl
        have g1 := hf 1 f1 rfl
        have g2 := hf 2 f2 rfl
        simp [o0, o1, o2, t0, t1, t2, cellsI'] at g0 g1 g2
        obtain ⟨n0, e0, _⟩ := DataW.trod_int Tryd.underlying3 g0
        obtain ⟨n1, e1, _⟩ := DataW.trod_int Tryd.underlying3 g1
        obtain ⟨n2, e2, _⟩ := DataW.trod_int Tryd.underlying3 g2
        simp only [List.cons.injEq, and_true] at e0 e1 e2
        subst e0; subst e1; subst e2
        have c0 := hcell 0 (by omega)
        have c1 := hcell 1 (by omega)
        have c2 := hcell 2 (by omega)
        rw [add_add] at c0 c1 c2
        exact ⟨⟨n0, n1, n2⟩, by simpa using c0, by simpa using c1, by simpa using c2⟩
    obtain ⟨q, hq⟩ := choose_lt each
    refine ⟨(List.range len).map q, .inr ⟨a, cap, by simp, by simpa using hl, hm, ?_, fun i r hr => ?_, fun i r hr => ?_, fun i r hr => ?_⟩⟩
    · exact hlt a len cap rfl
    all_goals
      have hi : i < len := by have := (List.getElem?_eq_some_iff.1 hr).1; simpa using this
      rw [List.getElem?_map, List.getElem?_range hi] at hr
      simp only [Option.map_some, Option.some.injEq] at hr
      subst hr
      obtain ⟨c0, c1, c2⟩ := hq i (by omega)
    · exact c0
    · rw [← c1]; congr 1
      unfold Addr.add
      by_cases h0 : i * 3 = 0 <;> simp [h0]
      rw [Nat.add_assoc]
    · rw [← c2]; congr 1
      unfold Addr.add
      by_cases h0 : i * 3 = 0 <;> simp [h0]
      rw [Nat.add_assoc]
end Go.Proofs.YtimnmfjbfbkooaaDoor
