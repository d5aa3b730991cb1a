/- CompareFunc over quarters, and the order of shapes. -/
import Derived.Deep.RegionHeld3
import Derived.Test.YtiinlplgloaanaaGreatDoorIm
import Derived.Test.YtiinlplgloaanaaGreatDoorSh
namespace Go.Proofs.YtiinlplgloaanaaGreatDoor
set_option linter.all false
set_option linter.unusedSimpArgs false
set_option linter.unusedVariables false
open Go.RowKit Go.Sort
attribute [local go_sem] Oper.semAt_some

/-! ### Worlds that only grow -/
def Grew (w w' : World) : Prop := ∃ q os, w' = grow (w.drewN q) os
theorem Grew.refl (w : World) : Grew w w := ⟨0, #[], by simp [grow]; rfl⟩
theorem Grew.alloc {w w' : World} (h : Grew w w') (o : Obj) : Grew w (w'.alloc o) := by
  obtain ⟨q, os, rfl⟩ := h
  exact ⟨q, os.push o, by rw [alloc_eq_grow, grow_grow]; simp [grow]⟩
theorem Grew.drewN {w w' : World} (h : Grew w w') (n : Nat) : Grew w (w'.drewN n) := by
  obtain ⟨q, os, rfl⟩ := h
  exact ⟨q + n, os, by simp [grow, World.drewN, Nat.add_assoc]⟩
theorem Grew.drew {w w' : World} (h : Grew w w') : Grew w w'.drew := h.drewN 1
theorem Grew.trans {a b c : World} (h : Grew a b) (k : Grew b c) : Grew a c := by
  obtain ⟨q, os, rfl⟩ := h
  obtain ⟨r, ps, rfl⟩ := k
  exact ⟨q + r, os ++ ps, by simp [grow, World.drewN, Nat.add_assoc, Array.append_assoc]⟩
theorem Grew.below {w w' : World} (h : Grew w w') : Below w.heap.size w w' := by
  obtain ⟨q, os, rfl⟩ := h
  exact ⟨rfl, rfl, rfl, by simp [grow, World.drewN], fun k hk => by simp [grow, World.drewN, Array.getElem?_append, hk]⟩

set_option maxRecDepth 100000 in
set_option maxHeartbeats 1000000 in
theorem before_grew (ax ay as_ bx b_y bs : Int) (w : World) :
    Calls Tryz.prog 84 #[.agg #[.int .i64 ax, .int .i64 ay, .int .i64 as_], .agg #[.int .i64 bx, .int .i64 b_y, .int .i64 bs]] w fun e w' =>
      e = .returned (.int .i64 (orL [cmpI ay b_y, cmpI ax bx, cmpI as_ bs])) ∧ Grew w w' := by
  go_enter Tryz.func84, Tryz.ntmps84
  go_wp2
  go_region_held3 (fun w' => w'.cell? ⟨w.heap.size, 0, none⟩ = some (.int .i64 ax) ∧ w'.cell? ⟨w.heap.size, 1, none⟩ = some (.int .i64 ay) ∧ w'.cell? ⟨w.heap.size, 2, none⟩ = some (.int .i64 as_) ∧
      w'.cell? ⟨w.heap.size + 1, 0, none⟩ = some (.int .i64 bx) ∧ w'.cell? ⟨w.heap.size + 1, 1, none⟩ = some (.int .i64 b_y) ∧ w'.cell? ⟨w.heap.size + 1, 2, none⟩ = some (.int .i64 bs)) (first | go_keep | simp)
    (first
      | (go_at_call 93; refine (compare_any _ _ _).mono ?_; rintro e w' ⟨rfl, rfl⟩)
      | (go_at_call 99; refine Calls.mono (or_three (w.heap.size + 1 + 1) 3 (cmpI ay b_y) (cmpI ax bx) (cmpI as_ bs) _ ?_ ?_ ?_) ?_; go_simp; go_simp; go_simp; rintro e w' ⟨rfl, rfl⟩))
  go_wp2
  go_ret
  exact ⟨rfl, ((((Grew.refl w).alloc _).alloc _).alloc _).drew⟩

/-! ### The order of shapes -/
def cmpL : List Q → List Q → Int
  | [], [] => 0
  | [], _ :: _ => -1
  | _ :: _, [] => 1
  | a :: l, b :: m => if cmpQ a b = 0 then cmpL l m else cmpQ a b
theorem cmpQ_lt {a b : Q} : cmpQ a b < 0 ↔ Q.lt a b := cmp_lt a b
theorem cmpQ_zero {a b : Q} : cmpQ a b = 0 ↔ a = b := by
  constructor
  · intro h
    have h1 : cmpI a.y b.y = 0 ∧ cmpI a.x b.x = 0 ∧ cmpI a.s b.s = 0 := by
      unfold cmpQ orL at h
      simp only [List.find?_cons, List.find?_nil] at h
      by_cases h1 : cmpI a.y b.y = 0
      · by_cases h2 : cmpI a.x b.x = 0
        · by_cases h3 : cmpI a.s b.s = 0
          · exact ⟨h1, h2, h3⟩
          · have h3' : (cmpI a.s b.s != 0) = true := by simpa using h3
            rw [h3', h1, h2] at h
            exact absurd h h3
        · have h2' : (cmpI a.x b.x != 0) = true := by simpa using h2
          rw [h2', h1] at h
          exact absurd h h2
      · have h1' : (cmpI a.y b.y != 0) = true := by simpa using h1
        rw [h1'] at h
        exact absurd h h1
    have key : ∀ x y : Int, cmpI x y = 0 → x = y := fun x y h => by
      unfold cmpI at h
      repeat' split at h
      all_goals omega
    exact Q.ext' (key _ _ h1.2.1) (key _ _ h1.1) (key _ _ h1.2.2)
  · rintro rfl
    have : ∀ x : Int, cmpI x x = 0 := fun x => by simp [cmpI]
    simp [cmpQ, orL, this]
theorem cmpQ_swap (a b : Q) : 0 < cmpQ a b ↔ Q.lt b a := by
  have h0 := cmpQ_zero (a := a) (b := b)
  have h1 := cmpQ_lt (a := a) (b := b)
  rcases Q.lt_total a b with h | h | h
  · have := h1.2 h
    exact ⟨fun h' => by omega, fun h' => absurd h' (Q.lt_asymm h)⟩
  · have := h0.2 h
    subst h
    exact ⟨fun h' => by omega, fun h' => absurd h' (Q.lt_irrefl _)⟩
  · refine ⟨fun _ => h, fun _ => ?_⟩
    have a1 : ¬ cmpQ a b < 0 := fun h' => Q.lt_asymm (h1.1 h') h
    have a2 : cmpQ a b ≠ 0 := fun h' => by have := h0.1 h'; subst this; exact Q.lt_irrefl _ h
    omega
theorem cmpL_self : ∀ l : List Q, cmpL l l = 0
  | [] => rfl
  | a :: l => by simp [cmpL, cmpQ_zero.2 rfl, cmpL_self l]
theorem cmpL_zero : ∀ {l m : List Q}, cmpL l m = 0 → l = m
  | [], [], _ => rfl
  | [], _ :: _, h => by simp [cmpL] at h
  | _ :: _, [], h => by simp [cmpL] at h
  | a :: l, b :: m, h => by
    simp only [cmpL] at h
    split at h
    · rename_i h0; rw [cmpQ_zero.1 h0, cmpL_zero h]
    · rename_i h0; exact absurd h h0
theorem cmpL_trans : ∀ {l m n : List Q}, cmpL l m < 0 → cmpL m n < 0 → cmpL l n < 0
  | [], [], _, h, _ => by simp [cmpL] at h
  | [], _ :: _, [], _, h => by simp [cmpL] at h
  | [], _ :: _, _ :: _, _, _ => by simp [cmpL]
  | _ :: _, [], _, h, _ => by simp [cmpL] at h
  | _ :: _, _ :: _, [], _, h => by simp [cmpL] at h
  | a :: l, b :: m, c :: n, h, h' => by
    simp only [cmpL] at h h' ⊢
    by_cases h1 : cmpQ a b = 0
    · have := cmpQ_zero.1 h1; subst this
      rw [if_pos h1] at h
      by_cases h2 : cmpQ a c = 0
      · rw [if_pos h2] at h' ⊢; exact cmpL_trans h h'
      · rw [if_neg h2] at h' ⊢; exact h'
    · rw [if_neg h1] at h
      have hab := cmpQ_lt.1 h
      by_cases h2 : cmpQ b c = 0
      · have := cmpQ_zero.1 h2; subst this
        rw [if_neg h1]; exact h
      · rw [if_neg h2] at h'
        have hac := Q.lt_trans hab (cmpQ_lt.1 h')
        have := cmpQ_lt.2 hac
        rw [if_neg (by omega)]; exact this
theorem cmpL_swap : ∀ (l m : List Q), cmpL l m < 0 ↔ 0 < cmpL m l
  | [], [] => by simp [cmpL]
  | [], _ :: _ => by simp [cmpL]
  | _ :: _, [] => by simp [cmpL]
  | a :: l, b :: m => by
    simp only [cmpL]
    by_cases h1 : cmpQ a b = 0
    · have := cmpQ_zero.1 h1; subst this
      rw [if_pos h1, if_pos h1]; exact cmpL_swap l m
    · have h2 : cmpQ b a ≠ 0 := fun h => h1 (cmpQ_zero.2 (cmpQ_zero.1 h).symm)
      rw [if_neg h1, if_neg h2, cmpQ_lt, cmpQ_swap]
theorem cmpL_total (l m : List Q) : cmpL l m < 0 ∨ l = m ∨ cmpL m l < 0 := by
  rcases Int.lt_trichotomy (cmpL l m) 0 with h | h | h
  · exact .inl h
  · exact .inr (.inl (cmpL_zero h))
  · exact .inr (.inr ((cmpL_swap m l).2 h))
theorem cmpL_drop {a b : List Q} {k : Nat} {p q : Q} (hp : a[k]? = some p) (hq : b[k]? = some q) (h0 : cmpQ p q = 0) : cmpL (a.drop k) (b.drop k) = cmpL (a.drop (k + 1)) (b.drop (k + 1)) := by
  obtain ⟨h1, rfl⟩ := List.getElem?_eq_some_iff.1 hp
  obtain ⟨h2, rfl⟩ := List.getElem?_eq_some_iff.1 hq
  rw [List.drop_eq_getElem_cons h1, List.drop_eq_getElem_cons h2, cmpL, if_pos h0]
theorem cmpL_at {a b : List Q} {k : Nat} {p q : Q} (hp : a[k]? = some p) (hq : b[k]? = some q) (h0 : cmpQ p q ≠ 0) : cmpL (a.drop k) (b.drop k) = cmpQ p q := by
  obtain ⟨h1, rfl⟩ := List.getElem?_eq_some_iff.1 hp
  obtain ⟨h2, rfl⟩ := List.getElem?_eq_some_iff.1 hq
  rw [List.drop_eq_getElem_cons h1, List.drop_eq_getElem_cons h2, cmpL, if_neg h0]
theorem cmpL_end {a b : List Q} {k : Nat} (ha : k < a.length) (hb : b.length ≤ k) : cmpL (a.drop k) (b.drop k) = 1 := by
  rw [List.drop_eq_getElem_cons ha, List.drop_of_length_le hb, cmpL]
theorem cmpL_fin {a b : List Q} (h : a.length ≤ b.length) : cmpL (a.drop a.length) (b.drop a.length) = if a.length < b.length then -1 else 0 := by
  rw [List.drop_of_length_le (Nat.le_refl _)]
  by_cases hl : a.length < b.length
  · rw [List.drop_eq_getElem_cons hl, if_pos hl, cmpL]
  · rw [List.drop_of_length_le (by omega), if_neg hl, cmpL]

end Go.Proofs.YtiinlplgloaanaaGreatDoor
