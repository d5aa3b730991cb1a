/- Plain maths of chapter 7: the edges of a ground, as the board numbers them; valid tasks. -/
import Derived.Test.YtiinlplgloaanaaGreatDoorZzTopHalved02
import Derived.Test.YtiinlplgloaanaaGreatDoorZzTopHalved03
import Derived.Test.YtiinlplgloaanaaGreatDoorRg

/- Plain: what the walk through the search needs: how many nodes at most, and that children have fewer free quarters. -/
namespace Go.Proofs.YtiinlplgloaanaaGreatDoor
set_option linter.all false
set_option linter.unusedSimpArgs false
set_option linter.unusedVariables false
open Go.RowKit

theorem loopT_bound {rec : List Pc → Nat × List (List Pc)} {B : Nat} (hr : ∀ c, (rec c).1 ≤ B) : ∀ {cs : List (List Pc)} {n : Nat} {l : List (List Pc)}, n ≤ 20000 → (loopT rec cs n l).1 ≤ 20000 + B
  | [], n, l, h => by simp only [loopT]; omega
  | c :: cs, n, l, h => by
    have := hr c
    unfold loopT
    split
    · simp only; omega
    · exact loopT_bound hr (by omega)
theorem search_bound (t : Tk) : ∀ (f : Nat) (s : List Pc), (searchT t f s).1 ≤ 20000 * f + 1
  | 0, s => by simp [searchT]
  | f + 1, s => by
    unfold searchT
    split
    · simp only; omega
    · have := loopT_bound (rec := searchT t f) (search_bound t f) (cs := childrenT t s) (n := 1) (l := []) (by omega)
      omega
theorem filter_lt {α : Type} {P R : α → Bool} : ∀ {l : List α} {q : α}, (∀ x ∈ l, P x = true → R x = true) → q ∈ l → R q = true → P q = false → (l.filter P).length < (l.filter R).length
  | a :: l, q, h, hq, h1, h2 => by
    have hle : (l.filter P).length ≤ (l.filter R).length := by
      have : ∀ (l : List α), (∀ x ∈ l, P x = true → R x = true) → (l.filter P).length ≤ (l.filter R).length := by
        intro l
        induction l with
        | nil => intro _; simp
        | cons b l ih =>
          intro hh
          have := ih fun x hx => hh x (List.mem_cons_of_mem _ hx)
          simp only [List.filter_cons]
          by_cases hb : P b = true
          · rw [if_pos hb, if_pos (hh b (by simp) hb)]; simp; omega
          · rw [if_neg hb]; split
            · simp; omega
            · exact this
      exact this l fun x hx => h x (List.mem_cons_of_mem _ hx)
    simp only [List.filter_cons]
    rcases List.mem_cons.1 hq with rfl | hq
    · rw [if_neg (by simp [h2]), if_pos h1]; simp; omega
    · have := filter_lt (fun x hx => h x (List.mem_cons_of_mem _ hx)) hq h1 h2
      by_cases ha : P a = true
      · rw [if_pos ha, if_pos (h a (by simp) ha)]; simp; omega
      · rw [if_neg ha]; split
        · simp; omega
        · exact this
theorem left_child {t : Tk} {s c : List Pc} (h : c ∈ childrenT t s) : leftT t c < leftT t s := by
  obtain ⟨p, q, hp, hf, hq, hput⟩ := mem_children h
  obtain ⟨hqg, hqs⟩ := freeT_spec hf
  obtain ⟨rfl, _⟩ := putT_some hput
  unfold leftT
  refine filter_lt (q := q) (fun x _ hx => ?_) hqg (by simp [hqs]) (by
    have : covT (s ++ [p]) q = true := covT_iff.2 ⟨p, by simp, hq⟩
    simp [this])
  cases hc : covT s x with
  | false => rfl
  | true =>
    obtain ⟨r, hr, hx'⟩ := covT_iff.1 hc
    have : covT (s ++ [p]) x = true := covT_iff.2 ⟨r, by simp [hr], hx'⟩
    simp [this] at hx
theorem left_pos {t : Tk} {s : List Pc} (h : fullT t s = false) : 0 < leftT t s := by
  obtain ⟨q, hq⟩ := freeT_none h
  obtain ⟨h1, h2⟩ := freeT_spec hq
  exact List.length_pos_of_mem (List.mem_filter.2 ⟨h1, by simp [h2]⟩)
/-- The loop over the children, from the k-th on. -/
theorem loopT_drop {rec : List Pc → Nat × List (List Pc)} {cs : List (List Pc)} {k n : Nat} {l : List (List Pc)} {c : List Pc} (h : cs[k]? = some c) :
    loopT rec (cs.drop k) n l = if 20000 < n + (rec c).1 then (n + (rec c).1, l ++ (rec c).2) else loopT rec (cs.drop (k + 1)) (n + (rec c).1) (l ++ (rec c).2) := by
  obtain ⟨hk, he⟩ := List.getElem?_eq_some_iff.1 h
  rw [List.drop_eq_getElem_cons hk, he, loopT]
/-- The children, one piece after another. -/
theorem children_eq {t : Tk} {s : List Pc} {q : Q} (h : freeT t s = some q) : childrenT t s = (piecesT t).flatten.filterMap fun p => if q ∈ p.qs then putT t s p else none := by
  unfold childrenT
  rw [h]
  simp only
  induction (piecesT t).flatten with
  | nil => rfl
  | cons a l ih =>
    simp only [List.filter_cons, List.filterMap_cons]
    by_cases ha : q ∈ a.qs
    · simp only [ha, decide_true, if_true, List.filterMap_cons]
      split <;> simp_all
    · simp only [ha, decide_false, if_false]
      simpa using ih
end Go.Proofs.YtiinlplgloaanaaGreatDoor

/- Plain: the children of a state, counted as the program comes to them, piece by piece, kind by kind; the search's loop as far as a child. -/
namespace Go.Proofs.YtiinlplgloaanaaGreatDoor
set_option linter.all false
set_option linter.unusedSimpArgs false
set_option linter.unusedVariables false
open Go.RowKit

def kidT (t : Tk) (s : List Pc) (q : Q) (p : Pc) : Option (List Pc) := if q ∈ p.qs then putT t s p else none
def kidsT (t : Tk) (s : List Pc) (q : Q) (l : List Pc) : List (List Pc) := l.filterMap (kidT t s q)
theorem kids_all {t : Tk} {s : List Pc} {q : Q} (h : freeT t s = some q) : kidsT t s q (piecesT t).flatten = childrenT t s := (children_eq h).symm
theorem kids_snoc (t : Tk) (s : List Pc) (q : Q) (l : List Pc) (p : Pc) : (kidsT t s q (l ++ [p])).length = (kidsT t s q l).length + (if (kidT t s q p).isSome then 1 else 0) := by
  unfold kidsT
  rw [List.filterMap_append, List.length_append]
  congr 1
  cases h : kidT t s q p <;> simp [h]
theorem kids_get {t : Tk} {s : List Pc} {q : Q} {l m : List Pc} {p : Pc} {c : List Pc} (h : kidT t s q p = some c) : (kidsT t s q (l ++ p :: m))[(kidsT t s q l).length]? = some c := by
  unfold kidsT
  rw [List.filterMap_append, List.filterMap_cons, h, List.getElem?_append_right (Nat.le_refl _)]
  simp
/-- All pieces up to the j-th of the i-th kind. -/
def upT (pss : List (List Pc)) (i j : Nat) : List Pc := (pss.take i).flatten ++ (pss.getD i []).take j
theorem up_zero (pss : List (List Pc)) : upT pss 0 0 = [] := by simp [upT]
theorem up_snoc {pss : List (List Pc)} {i j : Nat} {l : List Pc} {p : Pc} (h : pss[i]? = some l) (hp : l[j]? = some p) : upT pss i (j + 1) = upT pss i j ++ [p] := by
  unfold upT
  have e : pss.getD i [] = l := by rw [List.getD_eq_getElem?_getD, h]; rfl
  obtain ⟨hj, hg⟩ := List.getElem?_eq_some_iff.1 hp
  rw [e, List.take_add_one, hp, List.append_assoc]; rfl
theorem up_next {pss : List (List Pc)} {i : Nat} {l : List Pc} (h : pss[i]? = some l) : upT pss i l.length = upT pss (i + 1) 0 := by
  unfold upT
  have e : pss.getD i [] = l := by rw [List.getD_eq_getElem?_getD, h]; rfl
  rw [e, List.take_length, List.take_zero, List.append_nil, List.take_add_one, h, List.flatten_append]; simp
theorem up_end (pss : List (List Pc)) : upT pss pss.length 0 = pss.flatten := by unfold upT; simp
theorem up_split {pss : List (List Pc)} {i j : Nat} {l : List Pc} {p : Pc} (h : pss[i]? = some l) (hp : l[j]? = some p) : ∃ m, pss.flatten = upT pss i j ++ p :: m := by
  obtain ⟨hi, hgi⟩ := List.getElem?_eq_some_iff.1 h
  obtain ⟨hj, hgj⟩ := List.getElem?_eq_some_iff.1 hp
  refine ⟨l.drop (j + 1) ++ (pss.drop (i + 1)).flatten, ?_⟩
  have e : pss.getD i [] = l := by rw [List.getD_eq_getElem?_getD, h]; rfl
  have e1 : pss = pss.take i ++ l :: pss.drop (i + 1) := by
    have := List.take_append_drop i pss
    rw [List.drop_eq_getElem_cons hi, hgi] at this
    exact this.symm
  have e2 : l = l.take j ++ p :: l.drop (j + 1) := by
    have := List.take_append_drop j l
    rw [List.drop_eq_getElem_cons hj, hgj] at this
    exact this.symm
  unfold upT
  rw [e]
  have e3 : pss.flatten = (pss.take i).flatten ++ (l ++ (pss.drop (i + 1)).flatten) := by
    have := congrArg List.flatten e1
    rwa [List.flatten_append, List.flatten_cons] at this
  have e4 : l ++ (pss.drop (i + 1)).flatten = l.take j ++ (p :: l.drop (j + 1)) ++ (pss.drop (i + 1)).flatten := by
    rw [← e2]
  rw [e3, e4]
  simp [List.append_assoc]
theorem kid_at {t : Tk} {s c : List Pc} {q : Q} (hf : freeT t s = some q) {i j : Nat} {l : List Pc} {p : Pc} (h : (piecesT t)[i]? = some l) (hp : l[j]? = some p) (hc : kidT t s q p = some c) :
    (childrenT t s)[(kidsT t s q (upT (piecesT t) i j)).length]? = some c := by
  obtain ⟨m, hm⟩ := up_split h hp
  rw [← kids_all hf, hm]
  exact kids_get hc
theorem kids_step {t : Tk} {s : List Pc} {q : Q} {i j : Nat} {l : List Pc} {p : Pc} (h : (piecesT t)[i]? = some l) (hp : l[j]? = some p) :
    (kidsT t s q (upT (piecesT t) i (j + 1))).length = (kidsT t s q (upT (piecesT t) i j)).length + (if (kidT t s q p).isSome then 1 else 0) := by
  rw [up_snoc h hp, kids_snoc]
theorem up_pre (pss : List (List Pc)) (i j : Nat) : ∃ m, pss.flatten = upT pss i j ++ m := by
  unfold upT
  cases h : pss[i]? with
  | none =>
    have hle := List.getElem?_eq_none_iff.1 h
    refine ⟨[], ?_⟩
    rw [List.getD_eq_getElem?_getD, h]
    simp [List.take_of_length_le hle]
  | some l =>
    obtain ⟨hi, hgi⟩ := List.getElem?_eq_some_iff.1 h
    rw [List.getD_eq_getElem?_getD, h]
    refine ⟨l.drop j ++ (pss.drop (i + 1)).flatten, ?_⟩
    have e1 : pss = pss.take i ++ l :: pss.drop (i + 1) := by
      have := List.take_append_drop i pss
      rw [List.drop_eq_getElem_cons hi, hgi] at this
      exact this.symm
    have e3 : pss.flatten = (pss.take i).flatten ++ (l ++ (pss.drop (i + 1)).flatten) := by
      have := congrArg List.flatten e1
      rwa [List.flatten_append, List.flatten_cons] at this
    rw [e3]
    simp only [Option.getD_some, List.append_assoc]
    rw [← List.append_assoc (l.take j), List.take_append_drop]
theorem kids_le {t : Tk} {s : List Pc} {q : Q} (hf : freeT t s = some q) (i j : Nat) : (kidsT t s q (upT (piecesT t) i j)).length ≤ (childrenT t s).length := by
  obtain ⟨m, hm⟩ := up_pre (piecesT t) i j
  rw [← kids_all hf, hm]
  unfold kidsT
  rw [List.filterMap_append, List.length_append]
  omega
end Go.Proofs.YtiinlplgloaanaaGreatDoor

/- Plain: bricks sorted by their least quarter; when a state is full, and when it has the right counts. -/
namespace Go.Proofs.YtiinlplgloaanaaGreatDoor
set_option linter.all false
set_option linter.unusedSimpArgs false
set_option linter.unusedVariables false
open Go.RowKit

theorem insP_lt (g : List Q) (p : Pc) : ∀ l : List Pc, l.Pairwise (fun a b => leastP g a < leastP g b) → (∀ r ∈ l, leastP g p ≠ leastP g r) → (insP g p l).Pairwise (fun a b => leastP g a < leastP g b)
  | [], _, _ => by simp [insP]
  | q :: l, h, hd => by
    unfold insP
    split
    · rename_i hlt
      refine List.pairwise_cons.2 ⟨fun r hr => ?_, h⟩
      rcases List.mem_cons.1 hr with rfl | hr
      · exact hlt
      · exact Nat.lt_trans hlt ((List.pairwise_cons.1 h).1 r hr)
    · rename_i hge
      refine List.pairwise_cons.2 ⟨fun r hr => ?_, insP_lt g p l (List.pairwise_cons.1 h).2 fun r hr => hd r (List.mem_cons_of_mem _ hr)⟩
      rcases List.mem_cons.1 ((insP_perm g p l).mem_iff.1 hr) with rfl | hr
      · have := hd q (by simp); omega
      · exact (List.pairwise_cons.1 h).1 r hr
theorem sortP_lt (g : List Q) (l : List Pc) (h : l.Pairwise fun a b => leastP g a ≠ leastP g b) : (sortP g l).Pairwise (fun a b => leastP g a < leastP g b) := by
  have : ∀ (l a : List Pc), a.Pairwise (fun a b => leastP g a < leastP g b) → l.Pairwise (fun a b => leastP g a ≠ leastP g b) → (∀ x ∈ l, ∀ y ∈ a, leastP g x ≠ leastP g y) →
      (l.foldl (fun l p => insP g p l) a).Pairwise (fun a b => leastP g a < leastP g b) := by
    intro l
    induction l with
    | nil => intro a ha _ _; exact ha
    | cons p l ih =>
      intro a ha hl hd
      refine ih _ (insP_lt g p a ha (hd p (by simp))) (List.pairwise_cons.1 hl).2 fun x hx y hy => ?_
      rcases List.mem_cons.1 ((insP_perm g p a).mem_iff.1 hy) with rfl | hy
      · exact fun e => (List.pairwise_cons.1 hl).1 x hx e.symm
      · exact hd x (List.mem_cons_of_mem _ hx) y hy
  exact this l [] List.Pairwise.nil h (fun _ _ _ hy => by cases hy)
theorem leastP_get {g : List Q} {p : Pc} (h : ∃ q ∈ g, q ∈ p.qs) : ∃ i q, g.findIdx? (fun q => decide (q ∈ p.qs)) = some i ∧ leastP g p = i ∧ g[i]? = some q ∧ q ∈ p.qs := by
  obtain ⟨q, hq, hp⟩ := h
  cases hf : g.findIdx? (fun q => decide (q ∈ p.qs)) with
  | none =>
    rw [List.findIdx?_eq_none_iff] at hf
    have := hf q hq
    simp [hp] at this
  | some i =>
    have h2 := List.findIdx?_eq_some_iff_getElem.1 hf
    obtain ⟨hi, h2, _⟩ := h2
    exact ⟨i, g[i], rfl, by unfold leastP; rw [hf]; rfl, List.getElem?_eq_getElem hi, by simpa using h2⟩
theorem leasts_ne {g : List Q} : ∀ {s : List Pc}, ApartT s → (∀ p ∈ s, ∃ q ∈ g, q ∈ p.qs) → s.Pairwise fun a b => leastP g a ≠ leastP g b
  | [], _, _ => List.Pairwise.nil
  | p :: s, h, hin => by
    obtain ⟨h1, h2⟩ := List.pairwise_cons.1 h
    refine List.pairwise_cons.2 ⟨fun r hr e => ?_, leasts_ne (s := s) h2 fun p hp => hin p (List.mem_cons_of_mem _ hp)⟩
    obtain ⟨i, q, _, ei, gi, mi⟩ := leastP_get (hin p (by simp))
    obtain ⟨j, q', _, ej, gj, mj⟩ := leastP_get (hin r (List.mem_cons_of_mem _ hr))
    rw [ei, ej] at e
    subst e
    rw [gi] at gj
    cases gj
    exact h1 r hr q mi mj
theorem full_iff {t : Tk} {L : List E} {s : List Pc} {S : HS} (h : StT t.ground L s S) : S.set = 2 ^ t.ground.length - 1 ↔ fullT t s = true := by
  rw [h.set, ← setG_all t.ground]
  unfold fullT
  rw [List.all_eq_true]
  constructor
  · intro hh q hq; exact setG_inj hh q hq
  · intro hh; exact setG_eq hh
theorem right_iff (t : Tk) (s : List Pc) : rightT t s = true ↔ (List.range t.counts.length).map (fun i : Nat => ((manyT s (i : Int) : Nat) : Int)) = t.counts := by
  unfold rightT
  rw [List.all_eq_true]
  constructor
  · intro h
    refine List.ext_getElem (by simp) fun i h1 h2 => ?_
    have := h (t.counts[i], i) (by
      rw [List.mem_zipIdx_iff_getElem?]
      exact List.getElem?_eq_getElem h2)
    simpa using this
  · intro h x hx
    rw [List.mem_zipIdx_iff_getElem?] at hx
    have h2 := congrArg (·[x.2]?) h
    simp only [List.getElem?_map] at h2
    obtain ⟨hl, hg⟩ := List.getElem?_eq_some_iff.1 hx
    rw [List.getElem?_range hl, hx] at h2
    simpa using h2
theorem search_full {t : Tk} {s : List Pc} (h : fullT t s = true) (f : Nat) : searchT t f s = (1, if rightT t s then [s] else []) := by
  cases f <;> simp [searchT, h]
theorem search_more {t : Tk} {s : List Pc} (h : fullT t s = false) (f : Nat) : searchT t (f + 1) s = loopT (searchT t f) (childrenT t s) 1 [] := by
  simp [searchT, h]
theorem good_child {t : Tk} {s c : List Pc} (h : GoodT t s) (hc : c ∈ childrenT t s) : GoodT t c := by
  obtain ⟨p, q, hp, _, _, hput⟩ := mem_children hc
  exact good_put h hp hput
end Go.Proofs.YtiinlplgloaanaaGreatDoor

/- A range over a function whose iterator makes what it yields: a law with a predicate in place of a list. -/
namespace Go.Proofs.YtiinlplgloaanaaGreatDoor
set_option linter.all false
set_option linter.unusedSimpArgs false
set_option linter.unusedVariables false
open Go.RowKit

/-- An iterator that yields n times; N is what it needs of the world between two rounds; Xp says what is yielded, over the world that the last round left. -/
def IterP (P : Program) (gf : Nat) (mk : Value → Array Value) (n : Nat) (N : World → Prop) (Xp : Nat → Array Value → World → World → Prop) : Prop :=
  ∀ (l : Nat) (J : Nat → World → Prop) (Jx : World → Prop) (W : World),
    (∀ k W W', J k W → Below W.heap.size W W' → J k W') → (∀ W W', Jx W → Below W.heap.size W W' → Jx W') → (∀ k W, k ≤ n → J k W → N W) →
    (∀ k args W0 W1, k < n → J k W0 → Below W0.heap.size W0 W1 → Xp k args W0 W1 → YieldAt (FW none) 0 P l args W1 fun e W' => (e = .returned (.bool true) ∧ J (k + 1) W') ∨ (e = .returned (.bool false) ∧ Jx W')) →
    J 0 W → CallsIn (FW none) 0 P gf (mk (.func (.yield l) #[] #[])) W fun e W' => (∃ v, e = .returned v) ∧ (J n W' ∨ Jx W')

theorem range_law_p {P : Program} {ro : Option Nat} {g : Operand} {ps : Array Tmp} {assign body : Code} {Q : Exit → Act → World → Prop} {a : Act} {w : World} {gf : Nat} {mk : Value → Array Value} {n : Nat} {N : World → Prop} {Xp : Nat → Array Value → World → World → Prop}
    (hro : ∀ l0, ro = some l0 → ∃ r0, w.heap[l0]? = some (.loop r0))
    (hg : ∀ (l : Nat) (W : World), ∃ d, (resolve a.eval (rangeCall g l) 0).run P W = .ok d W ∧ (invoke d.target d.args).run P W = .ok (.enter gf (mk (.func (.yield l) #[] #[]))) W)
    (hit : IterP P gf mk n N Xp) (hps : ∀ k x W0 W, Xp k x W0 W → x.size = ps.size)
    (I : Nat → World → Prop) (Ix : Code → World → Prop) (hI : ∀ k, Stab w.heap.size (I k)) (hIx : ∀ c, Stab w.heap.size (Ix c)) (h0 : I 0 w) (hN : ∀ k W, k ≤ n → I k W → N W)
    (hround : ∀ (l k : Nat) (x : Array Value) (W0 W : World), k < n → I k W0 → Below W0.heap.size W0 W → Xp k x W0 W → I k W → w.heap.size ≤ l → (∃ r, W.heap[l]? = some (.loop r)) →
      assign.wpIn (FW (some l)) 0 P (Exit.then (fun a' W' => ∃ X : World → Prop, Stab w.heap.size X ∧ KeepsFrom w.heap.size W W' ∧ X W' ∧
          ∀ W2, X W2 → (∃ r, W2.heap[l]? = some (.loop r)) → body.wpIn (FW (some l)) 0 P (rPost w.heap.size I Ix k W2) a' W2) (fun _ _ _ => False))
        { tmps := (ps.zip x).foldl (fun t (p, v) => t.setIfInBounds p v) a.tmps, defers := [] } W)
    (hdone : ∀ ds W, RMark w.heap.size ro ds W → I n W → Q .normal { a with defers := ds ++ a.defers } W)
    (hstop : ∀ ds c W, RMark w.heap.size ro ds W → Ix c W → c.wpIn (FW ro) 0 P Q { a with defers := ds ++ a.defers } W) :
    (Code.rangeFunc g ps assign body).wpIn (FW ro) 0 P Q a w := by
  refine wpIn_rangeFunc ?_
  intro fn hfn
  -- the record's block, the block for the deferred calls
  obtain ⟨D, l, ds, W1, rec, hlen, hDl, henter, hL1, hE1, hM1, hrec⟩ : ∃ (D l : Nat) (ds : List Deferred) (W1 : World) (rec : LoopState → Option Code → Loop),
      (w.heap.size ≤ l) ∧ (D ≠ l) ∧ (Instr.enterLoop fn a.tmps ps assign body (FW ro).round).run P w = .ok (l, ds) W1 ∧ W1.heap[l]? = some (.loop (rec .ready none)) ∧ Ext w.heap.size w W1 ∧
      (∀ W, (ro = none → W.heap[D]? = some (.deferred (some []))) → RMark w.heap.size ro ds W) ∧
      ((ro = none → w.heap.size ≤ D ∧ W1.heap[D]? = some (.deferred (some []))) ∧ ∀ st pe, (rec st pe).state = st ∧ (rec st pe).pending = pe ∧ (rec st pe).fn = fn ∧ (rec st pe).tmps = a.tmps ∧ (rec st pe).params = ps ∧ (rec st pe).assign = assign ∧ (rec st pe).body = body ∧
        ∀ st' pe', { rec st pe with state := st', pending := pe' } = rec st' pe') := by
    cases ro with
    | none =>
      refine ⟨w.heap.size, w.heap.size + 1, [{ target := .collected w.heap.size, args := #[] }], _, fun st pe => { state := st, pending := pe, fn, tmps := a.tmps, params := ps, assign, body, defers := w.heap.size }, by omega, by omega, run_enterLoop_outer _ _ _ _ _, ?_, ?_, ?_, ?_, ?_⟩
      · have := World.alloc_heap_new (w.alloc (.deferred (some []))) (.loop { state := .ready, pending := none, fn, tmps := a.tmps, params := ps, assign, body, defers := w.heap.size }); rwa [World.size_alloc] at this
      · exact Ext.of_below (((Below.refl _ w).alloc (Nat.le_refl _) _).alloc (by simp) _)
      · intro W h; exact ⟨w.heap.size, Nat.le_refl _, rfl, h rfl⟩
      · intro _; exact ⟨Nat.le_refl _, (Below.heap_alloc _ _ _ (by simp)).trans (World.alloc_heap_new w _)⟩
      · intro st pe; exact ⟨rfl, rfl, rfl, rfl, rfl, rfl, rfl, fun _ _ => rfl⟩
    | some l0 =>
      obtain ⟨r0, hr0⟩ := hro l0 rfl
      refine ⟨w.heap.size + 1, w.heap.size, [], _, fun st pe => { state := st, pending := pe, fn, tmps := a.tmps, params := ps, assign, body, defers := r0.defers }, Nat.le_refl _, by omega, run_enterLoop_inner hr0 _ _ _ _ _, ?_, ?_, ?_, ?_, ?_⟩
      · exact World.alloc_heap_new w _
      · exact Ext.of_below ((Below.refl _ w).alloc (Nat.le_refl _) _)
      · intro W _; exact rfl
      · intro h; cases h
      · intro st pe; exact ⟨rfl, rfl, rfl, rfl, rfl, rfl, rfl, fun _ _ => rfl⟩
  obtain ⟨hK1, hrec⟩ := hrec
  obtain ⟨d, hres, hinv⟩ := hg l W1
  refine ⟨l, ds, W1, d, W1, gf, _, W1, henter, hres, fun _ _ => trivial, hinv, fun h => by simp at h, ?_⟩
  have hcall := hit l
    (fun k W => I k W ∧ W.heap[l]? = some (.loop (rec .ready none)) ∧ (ro = none → W.heap[D]? = some (.deferred (some []))))
    (fun W => ∃ c, Ix c W ∧ W.heap[l]? = some (.loop (rec .done (some c))) ∧ (ro = none → W.heap[D]? = some (.deferred (some []))))
    W1
    (fun k W W' ⟨h1, h2, h3⟩ hb => ⟨hI k W W' h1 (Ext.of_below hb), (hb.block l (Array.getElem?_eq_some_iff.1 h2).1).trans h2, fun e => (hb.block D (Array.getElem?_eq_some_iff.1 (h3 e)).1).trans (h3 e)⟩)
    (fun W W' ⟨c, h1, h2, h3⟩ hb => ⟨c, hIx c W W' h1 (Ext.of_below hb), (hb.block l (Array.getElem?_eq_some_iff.1 h2).1).trans h2, fun e => (hb.block D (Array.getElem?_eq_some_iff.1 (h3 e)).1).trans (h3 e)⟩)
    (fun k W hk ⟨h1, _⟩ => hN k W hk h1) ?_ ⟨hI 0 w W1 h0 hE1, hL1, fun e => (hK1 e).2⟩
  · refine CallsIn.mono (F := FW ro) (R := _) hcall ?_
    rintro e W2 ⟨⟨v, rfl⟩, (⟨hi, hl, hk⟩ | ⟨c, hi, hl, hk⟩)⟩
    · have hend := run_endLoop (P := P) hl (by rw [(hrec _ _).1]; simp)
      rw [(hrec _ _).2.1] at hend
      refine ⟨none, _, hend, hdone ds _ (hM1 _ fun e => ?_) (hI _ _ _ hi (Ext.putObj hl hlen rfl))⟩
      rw [World.putObj_heap_other hDl]; exact hk e
    · have hend := run_endLoop (P := P) hl (by rw [(hrec _ _).1]; simp)
      rw [(hrec _ _).2.1] at hend
      refine ⟨some c, _, hend, hstop ds c _ (hM1 _ fun e => ?_) (hIx _ _ _ hi (Ext.putObj hl hlen rfl))⟩
      rw [World.putObj_heap_other hDl]; exact hk e
  · -- one round
    rintro k x W0 W hx ⟨hi0, hl0, hk0⟩ hb0 hxp
    have hi := hI k W0 W hi0 (Ext.of_below hb0)
    have hl := (hb0.block l (Array.getElem?_eq_some_iff.1 hl0).1).trans hl0
    have hk : ro = none → W.heap[D]? = some (.deferred (some [])) := fun e => (hb0.block D (Array.getElem?_eq_some_iff.1 (hk0 e)).1).trans (hk0 e)
    have hy := run_yield (P := P) (args := x) hl (by rw [(hrec _ _).2.2.2.2.1]; exact hps k x W0 W hxp)
    rw [(hrec _ _).2.2.1, (hrec _ _).2.2.2.1, (hrec _ _).2.2.2.2.1, (hrec _ _).2.2.2.2.2.1, (hrec _ _).2.2.2.2.2.2.1] at hy
    refine ⟨fn, _, assign, body, hy, roundIn_of_wpIn (F := FW none) hfn ?_⟩
    have hA := hround l k x W0 W hx hi0 hb0 hxp hi hlen ⟨_, hl⟩
    refine wpIn_mono hA ?_
    intro e a' Wa hp
    cases e with
    | normal =>
      obtain ⟨X, hX, hkeep, hXa, hbody⟩ := hp
      have hla := hkeep.same l _ hlen hl rfl
      have hka : ro = none → Wa.heap[D]? = some (.deferred (some [])) := fun e => hkeep.same D _ (hK1 e).1 (hk e) rfl
      refine ⟨_, run_beginRound hla (by rw [(hrec _ _).1]), ?_⟩
      have e1 : ({ rec .ready none with state := .busy } : Loop) = rec .busy none := by
        have h8 := (hrec .ready none).2.2.2.2.2.2.2 .busy none
        have h2 := (hrec .ready none).2.1
        simp only [h2]
        exact h8
      rw [e1]
      have hlt : l < Wa.heap.size := (Array.getElem?_eq_some_iff.1 hla).1
      have hl2 : (Wa.putObj l (.loop (rec .busy none))).heap[l]? = some (.loop (rec .busy none)) := World.putObj_heap_same hlt
      have hk2 : ro = none → (Wa.putObj l (.loop (rec .busy none))).heap[D]? = some (.deferred (some [])) := fun e => (World.putObj_heap_other hDl).trans (hka e)
      refine wpIn_mono (hbody _ (hX _ _ hXa (Ext.putObj hla hlen rfl)) ⟨_, hl2⟩) ?_
      have fin : ∀ (jump : Option Code) (W3 : World), KeepsFrom w.heap.size (Wa.putObj l (.loop (rec .busy none))) W3 →
          W3.heap[l]? = some (.loop (rec .busy none)) ∧
          (Instr.endRound l jump).run P W3 = .ok (.bool jump.isNone) (W3.putObj l (.loop (rec (if jump.isNone then .ready else .done) jump))) ∧
          (W3.putObj l (.loop (rec (if jump.isNone then .ready else .done) jump))).heap[l]? = some (.loop (rec (if jump.isNone then .ready else .done) jump)) ∧
          (ro = none → (W3.putObj l (.loop (rec (if jump.isNone then .ready else .done) jump))).heap[D]? = some (.deferred (some []))) := fun jump W3 hk3 => by
        have hl3 := hk3.same _ _ hlen hl2 rfl
        have h4 := run_endRound (P := P) jump hl3
        rw [(hrec .busy none).2.2.2.2.2.2.2] at h4
        exact ⟨hl3, h4, World.putObj_heap_same (Array.getElem?_eq_some_iff.1 hl3).1, fun e => (World.putObj_heap_other hDl).trans (hk3.same _ _ (hK1 e).1 (hk2 e) rfl)⟩
      intro e a3 W3 hp
      cases e with
      | normal =>
        obtain ⟨hk3, hi3⟩ := hp
        obtain ⟨hl3, hr, hl4, hk4⟩ := fin none W3 hk3
        exact ⟨_, _, hr, .inl ⟨rfl, hI _ _ _ hi3 (Ext.putObj hl3 hlen rfl), hl4, hk4⟩⟩
      | ret =>
        obtain ⟨hk3, hi3⟩ := hp
        obtain ⟨hl3, hr, hl4, hk4⟩ := fin (some .ret) W3 hk3
        exact ⟨_, _, hr, .inr ⟨rfl, .ret, hIx _ _ _ hi3 (Ext.putObj hl3 hlen rfl), hl4, hk4⟩⟩
      | exit id =>
        obtain ⟨hk3, hi3⟩ := hp
        obtain ⟨hl3, hr, hl4, hk4⟩ := fin (some (.exit id)) W3 hk3
        exact ⟨_, _, hr, .inr ⟨rfl, .exit id, hIx _ _ _ hi3 (Ext.putObj hl3 hlen rfl), hl4, hk4⟩⟩
      | goto t =>
        obtain ⟨hk3, hi3⟩ := hp
        obtain ⟨hl3, hr, hl4, hk4⟩ := fin (some (.goto t)) W3 hk3
        exact ⟨_, _, hr, .inr ⟨rfl, .goto t, hIx _ _ _ hi3 (Ext.putObj hl3 hlen rfl), hl4, hk4⟩⟩
      | panic ch => exact hp.elim
      | outgrown => exact hp.elim
    | exit id => exact hp.elim
    | goto t => exact hp.elim
    | ret => exact hp.elim
    | panic ch => exact hp.elim
    | outgrown => exact hp.elim

end Go.Proofs.YtiinlplgloaanaaGreatDoor

/- The search in the heap: what is found so far, and the blocks that it lies in; which blocks a call may change. -/
namespace Go.Proofs.YtiinlplgloaanaaGreatDoor
set_option linter.all false
set_option linter.unusedSimpArgs false
set_option linter.unusedVariables false
open Go.RowKit

/-- All old blocks but those of F are as they were. -/
structure Fr (F : Nat → Prop) (W W' : World) : Prop where
  os : W'.os = W.os
  tape : W'.tape = W.tape
  output : W'.output = W.output
  size : W.heap.size ≤ W'.heap.size
  block : ∀ k, k < W.heap.size → ¬ F k → W'.heap[k]? = W.heap[k]?
theorem Fr.refl (F : Nat → Prop) (W : World) : Fr F W W := ⟨rfl, rfl, rfl, Nat.le_refl _, fun _ _ _ => rfl⟩
theorem Fr.trans {F G : Nat → Prop} {X Y Z : World} (h : Fr F X Y) (k : Fr G Y Z) (hG : ∀ b, b < X.heap.size → G b → F b) : Fr F X Z :=
  ⟨k.os.trans h.os, k.tape.trans h.tape, k.output.trans h.output, Nat.le_trans h.size k.size, fun b hb hF => (k.block b (Nat.lt_of_lt_of_le hb h.size) fun hg => hF (hG b hb hg)).trans (h.block b hb hF)⟩
theorem Fr.of_below {F : Nat → Prop} {W W' : World} (h : Below W.heap.size W W') : Fr F W W' := ⟨h.os, h.tape, h.output, h.size, fun k hk _ => h.block k hk⟩
theorem Fr.below {F : Nat → Prop} {W W' : World} (h : Fr F W W') {B : Nat} (hB : B ≤ W.heap.size) (hF : ∀ k, F k → B ≤ k) : Below B W W' :=
  ⟨h.os, h.tape, h.output, h.size, fun k hk => h.block k (by omega) fun hf => absurd (hF k hf) (by omega)⟩
theorem Fr.mono {F G : Nat → Prop} {W W' : World} (h : Fr F W W') (hFG : ∀ k, k < W.heap.size → F k → G k) : Fr G W W' :=
  ⟨h.os, h.tape, h.output, h.size, fun k hk hg => h.block k hk fun hf => hg (hFG k hk hf)⟩
theorem Fr.get {F : Nat → Prop} {W W' : World} (h : Fr F W W') {k : Nat} {o : Obj} (hk : W.heap[k]? = some o) (hF : ¬ F k) : W'.heap[k]? = some o :=
  (h.block k (Array.getElem?_eq_some_iff.1 hk).1 hF).trans hk
/-- What is found so far: l's variable is lb; F has its block, that of the slice, and those of the bricks. -/
def TJ (W : World) (g : List Q) (L : List E) (lb base : Nat) (F : Nat → Prop) (Ts : List (List Pc)) : Prop :=
  ∃ (v : Value) (Ss : List HS), W.heap[lb]? = some (.cells #[v] 96 (0, 0)) ∧ RS.Own W base v Ss ∧ Ss.length = Ts.length ∧
    (∀ (i : Nat) (S : HS) (T : List Pc), Ss[i]? = some S → Ts[i]? = some T → StT g L T S ∧ RP.Own W base S.laid ((sortP g T).map (hpT g L))) ∧
    F lb ∧ (∀ k, v.ownBlock = some k → F k) ∧ (∀ S ∈ Ss, ∀ k, S.laid.ownBlock = some k → F k) ∧ (∀ k, F k → base ≤ k ∧ ∃ cs T, W.heap[k]? = some (.cells cs T (0, 0)))
theorem TJ.move {W W' : World} {g : List Q} {L : List E} {lb base : Nat} {F : Nat → Prop} {Ts : List (List Pc)} (h : TJ W g L lb base F Ts) (hk : ∀ k, F k → W'.heap[k]? = W.heap[k]?) : TJ W' g L lb base F Ts := by
  obtain ⟨v, Ss, h1, h2, h3, h4, h5, h6, h7, h8⟩ := h
  refine ⟨v, Ss, (hk lb h5).trans h1, owns_move h2 fun k e => hk k (h6 k e), h3, fun i S T hS hT => ?_, h5, h6, h7, fun k e => ⟨(h8 k e).1, (by obtain ⟨_, cs, T, hc⟩ := h8 k e; exact ⟨cs, T, (hk k e).trans hc⟩)⟩⟩
  obtain ⟨a, b⟩ := h4 i S T hS hT
  exact ⟨a, owns_move b fun k e => hk k (h7 S (List.mem_of_getElem? hS) k e)⟩
theorem TJ.cells {W : World} {g : List Q} {L : List E} {lb base : Nat} {F : Nat → Prop} {Ts : List (List Pc)} (h : TJ W g L lb base F Ts) {k : Nat} (hk : F k) : base ≤ k ∧ ∃ cs T, W.heap[k]? = some (.cells cs T (0, 0)) := by
  obtain ⟨_, _, _, _, _, _, _, _, _, h8⟩ := h
  exact h8 k hk
theorem TJ.lt {W : World} {g : List Q} {L : List E} {lb base : Nat} {F : Nat → Prop} {Ts : List (List Pc)} (h : TJ W g L lb base F Ts) {k : Nat} (hk : F k) : k < W.heap.size ∧ base ≤ k := by
  obtain ⟨h1, cs, T, h2⟩ := h.cells hk
  exact ⟨(Array.getElem?_eq_some_iff.1 h2).1, h1⟩
theorem TJ.keep {W W' : World} {g : List Q} {L : List E} {lb base : Nat} {F G : Nat → Prop} {Ts : List (List Pc)} (h : TJ W g L lb base F Ts) (f : Fr G W W') (hd : ∀ k, F k → ¬ G k) : TJ W' g L lb base F Ts :=
  h.move fun k hk => f.block k (h.lt hk).1 (hd k hk)
theorem TJ.below {W W' : World} {g : List Q} {L : List E} {lb base : Nat} {F : Nat → Prop} {Ts : List (List Pc)} (h : TJ W g L lb base F Ts) (b : Below W.heap.size W W') : TJ W' g L lb base F Ts :=
  h.keep (G := fun _ => False) (Fr.of_below b) fun _ _ => id
theorem TJ.ext {W W' : World} {g : List Q} {L : List E} {lb base : Nat} {F : Nat → Prop} {Ts : List (List Pc)} (h : TJ W g L lb base F Ts) {B : Nat} (e : Ext B W W') : TJ W' g L lb base F Ts := by
  obtain ⟨v, Ss, h1, h2, h3, h4, h5, h6, h7, h8⟩ := h
  exact ⟨v, Ss, e.block _ _ h1 (.inr rfl), Stab.owns B _ _ _ _ _ _ W W' h2 e, h3, fun i S T hS hT => ⟨(h4 i S T hS hT).1, Stab.owns B _ _ _ _ _ _ W W' (h4 i S T hS hT).2 e⟩, h5, h6, h7, fun k hk => ⟨(h8 k hk).1, (by obtain ⟨_, cs, T, hc⟩ := h8 k hk; exact ⟨cs, T, e.block _ _ hc (.inr rfl)⟩)⟩⟩
theorem leastH_T {g : List Q} {L : List E} {p : Pc} (hg : g.length ≤ 64) (h : ∃ q ∈ g, q ∈ p.qs) : leastH (hpT g L p) = leastP g p := by
  obtain ⟨i, q, h1, h2, _⟩ := leastP_get h
  unfold leastH hpT
  simp only
  rw [h2, ctz_set hg h1]
theorem sorted_T {g : List Q} {L : List E} {T : List Pc} (hg : g.length ≤ 64) (ha : ApartT T) (hin : ∀ p ∈ T, ∃ q ∈ g, q ∈ p.qs) : ((sortP g T).map (hpT g L)).Perm (T.map (hpT g L)) ∧ ((sortP g T).map (hpT g L)).Pairwise fun a b => leastH a < leastH b := by
  refine ⟨(sortP_perm g T).map _, ?_⟩
  rw [List.pairwise_map]
  have h := sortP_lt g T (leasts_ne ha hin)
  refine List.Pairwise.imp_of_mem ?_ h
  intro a b hma hmb hlt
  rw [leastH_T hg (hin a ((sortP_perm g T).mem_iff.1 hma)), leastH_T hg (hin b ((sortP_perm g T).mem_iff.1 hmb))]
  exact hlt
theorem hs_cells {W : World} {g : Nat} {S : HS} {T : TypeId} (h : W.heap[g]? = some (.cells (hsVals S).toArray T (0, 0))) :
    W.cell? ⟨g, 0, none⟩ = some (.slice S.lp S.ln S.lc) ∧ W.cell? ⟨g, 1, none⟩ = some (.int .u64 S.set) ∧ W.cell? ⟨g, 2, none⟩ = some (.int .u64 S.bord.1) ∧ W.cell? ⟨g, 3, none⟩ = some (.int .u64 S.bord.2.1) ∧ W.cell? ⟨g, 4, none⟩ = some (.int .u64 S.bord.2.2) ∧ W.cell? ⟨g, 5, none⟩ = some (.int .u64 S.joint.1) ∧ W.cell? ⟨g, 6, none⟩ = some (.int .u64 S.joint.2.1) ∧ W.cell? ⟨g, 7, none⟩ = some (.int .u64 S.joint.2.2) ∧ W.cell? ⟨g, 8, none⟩ = some (.int .i64 (S.many 0)) ∧ W.cell? ⟨g, 9, none⟩ = some (.int .i64 (S.many 1)) ∧ W.cell? ⟨g, 10, none⟩ = some (.int .i64 (S.many 2)) ∧ W.cell? ⟨g, 11, none⟩ = some (.int .i64 (S.many 3)) ∧ W.cell? ⟨g, 12, none⟩ = some (.int .i64 (S.many 4)) ∧ W.cell? ⟨g, 13, none⟩ = some (.int .i64 (S.many 5)) ∧ W.cell? ⟨g, 14, none⟩ = some (.int .i64 (S.many 6)) ∧ W.cell? ⟨g, 15, none⟩ = some (.int .i64 (S.many 7)) := by
  refine ⟨?_, ?_, ?_, ?_, ?_, ?_, ?_, ?_, ?_, ?_, ?_, ?_, ?_, ?_, ?_, ?_⟩ <;> (simp only [World.cell?, h]; rfl)
end Go.Proofs.YtiinlplgloaanaaGreatDoor

/- Plain maths of chapter 7: the edges of a ground, as the board numbers them; valid tasks. -/
namespace Go.Proofs.YtiinlplgloaanaaGreatDoor
set_option linter.all false
set_option linter.unusedSimpArgs false
set_option linter.unusedVariables false
open Go.RowKit

/-- An edge more, where it is not there yet. -/
def addEd (L : List E) (e : E) : List E := if e ∈ L then L else L ++ [e]
/-- The edges of a ground, in the order in which they are numbered. -/
def edgesL (g : List Q) : List E := (g.flatMap fun q => borderE [q]).foldl addEd []
theorem addEd_one (L : List E) (x e : E) : e ∈ addEd L x ↔ e ∈ L ∨ e = x := by
  unfold addEd
  split
  · rename_i h
    exact ⟨.inl, fun h' => h'.elim id fun e' => e' ▸ h⟩
  · simp
theorem addEd_mem : ∀ (l L : List E) (e : E), e ∈ l.foldl addEd L ↔ e ∈ L ∨ e ∈ l
  | [], L, e => by simp
  | x :: l, L, e => by rw [List.foldl_cons, addEd_mem l, addEd_one, List.mem_cons, or_assoc]
theorem addEd_nodup : ∀ (l L : List E), L.Nodup → (l.foldl addEd L).Nodup
  | [], L, h => h
  | x :: l, L, h => by
    rw [List.foldl_cons]
    refine addEd_nodup l _ ?_
    unfold addEd
    split
    · exact h
    · rename_i hx
      rw [List.nodup_append]
      exact ⟨h, by simp, fun a ha b hb e => hx (by rw [List.mem_singleton] at hb; rw [← hb, ← e]; exact ha)⟩
theorem addEd_len : ∀ (l L : List E), (l.foldl addEd L).length ≤ L.length + l.length
  | [], L => by simp
  | x :: l, L => by
    rw [List.foldl_cons]
    have h1 := addEd_len l (addEd L x)
    have h2 : (addEd L x).length ≤ L.length + 1 := by unfold addEd; split <;> simp
    rw [List.length_cons]; omega
theorem border_one {q : Q} (hq : inQ q) (e : E) : e ∈ borderE [q] ↔ e ∈ edgesQ q := by
  have h := pick_mem (l := [q]) (by simpa using hq) (p := oneP) (by rfl) e
  unfold borderE
  rw [h]
  unfold whoE oneP
  by_cases he : e ∈ edgesQ q <;> simp [he]
theorem border_sub {l : List Q} (hq : ∀ q ∈ l, inQ q) {e : E} (h : e ∈ borderE l) : ∃ q ∈ l, e ∈ edgesQ q := by
  have h1 := (pick_mem hq (p := oneP) (by rfl) e).1 h
  unfold oneP at h1
  have h2 := of_decide_eq_true h1
  obtain ⟨q, hq'⟩ := List.exists_mem_of_length_pos (l := whoE l e) (by omega)
  obtain ⟨a, b⟩ := List.mem_filter.1 hq'
  exact ⟨q, a, by simpa using b⟩
theorem edgesL_mem {g : List Q} (hq : ∀ q ∈ g, inQ q) (e : E) : e ∈ edgesL g ↔ ∃ q ∈ g, e ∈ edgesQ q := by
  unfold edgesL
  rw [addEd_mem, List.mem_flatMap]
  constructor
  · rintro (h | ⟨q, h1, h2⟩)
    · cases h
    · exact ⟨q, h1, (border_one (hq q h1) e).1 h2⟩
  · rintro ⟨q, h1, h2⟩
    exact .inr ⟨q, h1, (border_one (hq q h1) e).2 h2⟩
theorem edgesL_nodup (g : List Q) : (edgesL g).Nodup := addEd_nodup _ _ List.nodup_nil
theorem edgesL_len {g : List Q} (hq : ∀ q ∈ g, inQ q) : (edgesL g).length ≤ 3 * g.length := by
  have h1 := addEd_len (g.flatMap fun q => borderE [q]) []
  have h2 : ∀ l : List Q, (∀ q ∈ l, inQ q) → (l.flatMap fun q => borderE [q]).length ≤ 3 * l.length := by
    intro l
    induction l with
    | nil => simp
    | cons q l ih =>
      intro hl
      rw [List.flatMap_cons, List.length_append, List.length_cons]
      have h3 := border_le (l := [q]) (by simpa using hl q (by simp))
      have h4 := ih fun r hr => hl r (List.mem_cons_of_mem _ hr)
      simp only [List.length_cons, List.length_nil] at h3
      omega
  have h3 := h2 g hq
  unfold edgesL
  simp only [List.length_nil] at h1
  omega

/-- A valid task. -/
structure OkT (t : Tk) : Prop where
  ground : checkN t.ground = 0
  g64 : t.ground.length ≤ 64
  kinds : ∀ s ∈ t.kinds, checkN s = 0
  kind16 : ∀ s ∈ t.kinds, s.length ≤ 16
  klen : 1 ≤ t.kinds.length ∧ t.kinds.length ≤ 8
  clen : t.counts.length = t.kinds.length
  cnt : ∀ c ∈ t.counts, 0 ≤ c ∧ c ≤ 16
  csum : t.counts.sum ≤ 16
  fixed : t.fixed.length ≤ 16
  blen : t.below.length ≤ 400
  bin : ∀ e ∈ t.below, (0 ≤ e.x ∧ e.x ≤ 16) ∧ (0 ≤ e.y ∧ e.y ≤ 16) ∧ (0 ≤ e.k ∧ e.k ≤ 5)
  bsort : t.below.Pairwise ltE
/-- What is known of a valid task and its edges. -/
structure TkOk (t : Tk) (L : List E) : Prop where
  g64 : t.ground.length ≤ 64
  l192 : L.length ≤ 192
  cnt : ∀ (k : Nat) (c : Int), t.counts[k]? = some c → 0 ≤ c ∧ c ≤ 16
  clen : t.counts.length = t.kinds.length
  k8 : t.kinds.length ≤ 8
  inG : ∀ p ∈ (piecesT t).flatten, ∀ q ∈ p.qs, q ∈ t.ground
  inL : ∀ p ∈ (piecesT t).flatten, ∀ e ∈ borderE p.qs, e ∈ L
  kind : ∀ (k : Nat) (l : List Pc), (piecesT t)[k]? = some l → ∀ p ∈ l, p.ld.kind = k
  ne : ∀ p ∈ (piecesT t).flatten, p.qs ≠ []
theorem pieces_length (t : Tk) : (piecesT t).length = t.kinds.length := by simp [piecesT]
theorem pieces_get {t : Tk} {k : Nat} {s : List Q} (h : t.kinds[k]? = some s) : (piecesT t)[k]? = some (piecesK t.ground k s) := by
  unfold piecesT
  rw [List.getElem?_map, List.getElem?_zipIdx, h]; simp
theorem tk_ok {t : Tk} (h : OkT t) : TkOk t (edgesL t.ground) := by
  have hq := (checkN_ok h.ground).1.1
  obtain ⟨p1, p2, p3⟩ := pieces_ok h.kinds h.clen
  refine ⟨h.g64, ?_, fun k c hc => h.cnt c (List.mem_of_getElem? hc), h.clen, h.klen.2, p3, fun p hp e he => ?_, fun k l hl p hp => ?_, p1⟩
  · have := edgesL_len hq
    have := h.g64
    omega
  · obtain ⟨q, h1, h2⟩ := border_sub (fun q hqq => hq q (p3 p hp q hqq)) he
    exact (edgesL_mem hq e).2 ⟨q, p3 p hp q h1, h2⟩
  · have hk : k < t.kinds.length := by rw [← pieces_length]; exact (List.getElem?_eq_some_iff.1 hl).1
    rw [pieces_get (List.getElem?_eq_getElem hk)] at hl
    cases hl
    unfold piecesK at hp
    obtain ⟨pl, _, rfl⟩ := List.mem_map.1 hp
    rfl
end Go.Proofs.YtiinlplgloaanaaGreatDoor
