/- Plain maths of chapter 7: all tilings are at most eight times as many as the unlike ones. -/
import Derived.Test.YtiinlplgloaanaaGreatDoorZzTopHalved01
import Derived.Test.YtiinlplgloaanaaGreatDoorZzTopHalved00
import Derived.Lib.TrailingZeros

/- Plain law of BrickBorders. -/
namespace Go.Proofs.YtiinlplgloaanaaGreatDoor
set_option linter.all false
set_option linter.unusedSimpArgs false
set_option linter.unusedVariables false
open Go.RowKit

/-! ### All quarters of a set, in their order -/
theorem checks_all : ∀ {ls : List (List Q)}, (∀ l ∈ ls, checkN l = 0) → checks ls = 0
  | [], _ => rfl
  | l :: ls, h => by rw [checks, if_pos (h l (by simp))]; exact checks_all fun m hm => h m (by simp [hm])
/-! ### The counts -/
theorem border_le {l : List Q} (hq : ∀ q ∈ l, inQ q) : (borderE l).length ≤ 3 * l.length := by
  have h1 := ownL_length l []
  unfold borderE
  rw [List.length_map]
  have := List.length_filter_le (fun m : E × List Q => oneP m.2) (ownL [] l)
  simp only [List.length_nil] at h1
  omega
end Go.Proofs.YtiinlplgloaanaaGreatDoor

/- Plain maths of chapter 7: bricks that are laid, the search through the tree; what it finds and what it does not miss. -/
namespace Go.Proofs.YtiinlplgloaanaaGreatDoor
set_option linter.all false
set_option linter.unusedSimpArgs false
set_option linter.unusedVariables false
open Go.RowKit

/-! ### Bricks that are laid -/
structure Ld where
  kind : Int
  m : Bool
  t : Int
  x : Int
  y : Int
deriving DecidableEq
/-- A brick with its quarters. -/
structure Pc where
  ld : Ld
  qs : List Q
deriving DecidableEq
/-- A task. -/
structure Tk where
  ground : List Q
  kinds : List (List Q)
  counts : List Int
  fixed : List Ld
  below : List E
def pieceP (k : Nat) (s : List Q) (p : Plc) : Pc := ⟨⟨k, p.m, p.t, p.x, p.y⟩, (putC s p.m p.t p.x p.y).1⟩
def piecesK (g : List Q) (k : Nat) (s : List Q) : List Pc := (placesL s g).map (pieceP k s)
/-- All bricks that are laid in a task, kind by kind. -/
def piecesT (t : Tk) : List (List Pc) := t.kinds.zipIdx.map fun x => piecesK t.ground x.2 x.1
/-- The quarters and the edges of what is put, and how many of a kind. -/
def covT (s : List Pc) (q : Q) : Bool := s.any fun p => decide (q ∈ p.qs)
def bordT (s : List Pc) (e : E) : Bool := s.any fun p => decide (e ∈ borderE p.qs)
def manyT (s : List Pc) (k : Int) : Nat := (s.filter fun p => decide (p.ld.kind = k)).length
def clashT (below : List E) (s : List Pc) (p : Pc) : Bool := (borderE p.qs).any fun e => bordT s e && decide (e ∈ below)
def putT (t : Tk) (s : List Pc) (p : Pc) : Option (List Pc) :=
  if (p.qs.any (covT s)) || decide (t.counts.getD p.ld.kind.toNat 0 ≤ (manyT s p.ld.kind : Int)) || clashT t.below s p then none else some (s ++ [p])
def findT (t : Tk) (l : Ld) : Option Pc := if 0 ≤ l.kind ∧ l.kind < (t.kinds.length : Int) then ((piecesT t).getD l.kind.toNat []).find? (fun p => decide (p.ld = l)) else none
/-- The state of the fixed bricks. -/
def rootT (t : Tk) : Option (List Pc) := t.fixed.foldl (fun s l => match s with | none => none | some s => match findT t l with | none => none | some p => putT t s p) (some [])
def fitsT (t : Tk) : Bool := decide ((t.counts.zip t.kinds |>.map fun x => x.1 * (x.2.length : Int)).sum = (t.ground.length : Int))
def freeT (t : Tk) (s : List Pc) : Option Q := t.ground.find? fun q => !covT s q
/-- The children of a state, in order. -/
def childrenT (t : Tk) (s : List Pc) : List (List Pc) := match freeT t s with
  | none => []
  | some q => ((piecesT t).flatten.filter fun p => decide (q ∈ p.qs)).filterMap (putT t s)
def fullT (t : Tk) (s : List Pc) : Bool := t.ground.all (covT s)
def rightT (t : Tk) (s : List Pc) : Bool := (t.counts.zipIdx.all fun x => decide ((manyT s x.2 : Int) = x.1))
/-- The search: the nodes, and the tilings that are found; it is broken off behind 20000 nodes. -/
def loopT (rec : List Pc → Nat × List (List Pc)) : List (List Pc) → Nat → List (List Pc) → Nat × List (List Pc)
  | [], n, l => (n, l)
  | c :: cs, n, l => if 20000 < n + (rec c).1 then (n + (rec c).1, l ++ (rec c).2) else loopT rec cs (n + (rec c).1) (l ++ (rec c).2)
def searchT (t : Tk) : Nat → List Pc → Nat × List (List Pc)
  | 0, s => (1, if fullT t s then (if rightT t s then [s] else []) else [])
  | f + 1, s => if fullT t s then (1, if rightT t s then [s] else []) else loopT (searchT t f) (childrenT t s) 1 []
/-- The number of the least quarter of a brick. -/
def leastP (g : List Q) (p : Pc) : Nat := (g.findIdx? fun q => decide (q ∈ p.qs)).getD 64
def insP (g : List Q) (p : Pc) : List Pc → List Pc
  | [] => [p]
  | q :: l => if leastP g p < leastP g q then p :: q :: l else q :: insP g p l
def sortP (g : List Q) (l : List Pc) : List Pc := l.foldl (fun l p => insP g p l) []
/-- All tilings, the nodes, and the error. -/
def tilingsT (t : Tk) : List (List Pc) × Nat × Nat := match rootT t with
  | none => ([], 0, 0)
  | some s => if fitsT t then
      (if 20000 < (searchT t t.ground.length s).1 then ([], 0, 8) else ((searchT t t.ground.length s).2.map (sortP t.ground), (searchT t t.ground.length s).1, 0))
    else ([], 0, 0)
/-! ### What the search finds -/
/-- Bricks that can lie together: none has a quarter of another one, no more of a kind than counted, no joint below. -/
def ApartT (s : List Pc) : Prop := s.Pairwise fun a b => ∀ q ∈ a.qs, q ∉ b.qs
theorem covT_iff {s : List Pc} {q : Q} : covT s q = true ↔ ∃ p ∈ s, q ∈ p.qs := by
  unfold covT; rw [List.any_eq_true]; simp
theorem putT_some {t : Tk} {s s' : List Pc} {p : Pc} (h : putT t s p = some s') : s' = s ++ [p] ∧ (∀ q ∈ p.qs, covT s q = false) ∧ (manyT s p.ld.kind : Int) < t.counts.getD p.ld.kind.toNat 0 ∧ clashT t.below s p = false := by
  unfold putT at h
  split at h
  · cases h
  · rename_i hn
    simp only [Bool.or_eq_true, List.any_eq_true, decide_eq_true_eq, not_or, not_exists, not_and, Bool.not_eq_true] at hn
    simp only [Option.some.injEq] at h
    exact ⟨h.symm, hn.1.1, by omega, hn.2⟩
theorem putT_mk {t : Tk} {s : List Pc} {p : Pc} (h1 : ∀ q ∈ p.qs, covT s q = false) (h2 : (manyT s p.ld.kind : Int) < t.counts.getD p.ld.kind.toNat 0) (h3 : clashT t.below s p = false) : putT t s p = some (s ++ [p]) := by
  unfold putT
  rw [if_neg]
  simp only [Bool.or_eq_true, List.any_eq_true, decide_eq_true_eq, not_or, not_exists, not_and, Bool.not_eq_true]
  exact ⟨⟨h1, by omega⟩, h3⟩
theorem freeT_spec {t : Tk} {s : List Pc} {q : Q} (h : freeT t s = some q) : q ∈ t.ground ∧ covT s q = false := by
  unfold freeT at h
  exact ⟨List.mem_of_find?_eq_some h, by simpa using List.find?_some h⟩
theorem freeT_none {t : Tk} {s : List Pc} (h : fullT t s = false) : ∃ q, freeT t s = some q := by
  unfold freeT
  cases hf : t.ground.find? (fun q => !covT s q) with
  | some q => exact ⟨q, rfl⟩
  | none =>
    rw [List.find?_eq_none] at hf
    unfold fullT at h
    rw [List.all_eq_false] at h
    obtain ⟨q, hq, hc⟩ := h
    have := hf q hq
    simp only [Bool.not_eq_true', Bool.not_eq_false] at this
    exact absurd this hc
theorem mem_children {t : Tk} {s c : List Pc} (h : c ∈ childrenT t s) : ∃ p q, p ∈ (piecesT t).flatten ∧ freeT t s = some q ∧ q ∈ p.qs ∧ putT t s p = some c := by
  unfold childrenT at h
  split at h
  · cases h
  · rename_i q hq
    obtain ⟨p, hp, hpc⟩ := List.mem_filterMap.1 h
    obtain ⟨h1, h2⟩ := List.mem_filter.1 hp
    exact ⟨p, q, h1, hq, by simpa using h2, hpc⟩
theorem children_mk {t : Tk} {s c : List Pc} {p : Pc} {q : Q} (h1 : p ∈ (piecesT t).flatten) (h2 : freeT t s = some q) (h3 : q ∈ p.qs) (h4 : putT t s p = some c) : c ∈ childrenT t s := by
  unfold childrenT
  rw [h2]
  exact List.mem_filterMap.2 ⟨p, List.mem_filter.2 ⟨h1, by simpa using h3⟩, h4⟩
/-- A state: bricks of the task that lie apart. -/
structure GoodT (t : Tk) (s : List Pc) : Prop where
  mem : ∀ p ∈ s, p ∈ (piecesT t).flatten
  apart : ApartT s
theorem good_nil (t : Tk) : GoodT t [] := ⟨fun p h => (by cases h), List.Pairwise.nil⟩
theorem good_put {t : Tk} {s s' : List Pc} {p : Pc} (h : GoodT t s) (hp : p ∈ (piecesT t).flatten) (h' : putT t s p = some s') : GoodT t s' := by
  obtain ⟨rfl, h1, _, _⟩ := putT_some h'
  refine ⟨fun x hx => ?_, ?_⟩
  · rcases List.mem_append.1 hx with hx | hx
    · exact h.mem x hx
    · rw [List.mem_singleton] at hx; subst hx; exact hp
  · refine List.pairwise_append.2 ⟨h.apart, by simp, fun a ha b hb q hq hq' => ?_⟩
    rw [List.mem_singleton] at hb; subst hb
    have h2 := h1 q hq'
    rw [covT_iff.2 ⟨a, ha, hq⟩] at h2; cases h2
theorem loopT_mem {rec : List Pc → Nat × List (List Pc)} {x : List Pc} : ∀ {cs : List (List Pc)} {n : Nat} {l : List (List Pc)}, x ∈ (loopT rec cs n l).2 → x ∈ l ∨ ∃ c ∈ cs, x ∈ (rec c).2
  | [], _, _, h => .inl h
  | c :: cs, n, l, h => by
    unfold loopT at h
    split at h
    · rcases List.mem_append.1 h with h | h
      · exact .inl h
      · exact .inr ⟨c, by simp, h⟩
    · rcases loopT_mem h with h | ⟨d, hd, h⟩
      · rcases List.mem_append.1 h with h | h
        · exact .inl h
        · exact .inr ⟨c, by simp, h⟩
      · exact .inr ⟨d, by simp [hd], h⟩
theorem search_found {t : Tk} : ∀ (f : Nat) {s x : List Pc}, GoodT t s → x ∈ (searchT t f s).2 → GoodT t x ∧ fullT t x = true ∧ rightT t x = true
  | 0, s, x, h, hx => by
    unfold searchT at hx
    simp only at hx
    split at hx
    · split at hx
      · rw [List.mem_singleton] at hx; subst hx; exact ⟨h, by assumption, by assumption⟩
      · cases hx
    · cases hx
  | f + 1, s, x, h, hx => by
    unfold searchT at hx
    split at hx
    · simp only at hx
      split at hx
      · rw [List.mem_singleton] at hx; subst hx; exact ⟨h, by assumption, by assumption⟩
      · cases hx
    · rcases loopT_mem hx with hx | ⟨c, hc, hx⟩
      · cases hx
      · obtain ⟨p, q, h1, h2, h3, h4⟩ := mem_children hc
        exact search_found f (good_put h h1 h4) hx
/-! ### What the search does not miss -/
theorem loopT_full {rec : List Pc → Nat × List (List Pc)} : ∀ {cs : List (List Pc)} {n : Nat} {l : List (List Pc)}, (loopT rec cs n l).1 ≤ 20000 → (∀ x ∈ l, x ∈ (loopT rec cs n l).2) ∧ ∀ c ∈ cs, (rec c).1 ≤ 20000 ∧ ∀ x ∈ (rec c).2, x ∈ (loopT rec cs n l).2
  | [], n, l, h => ⟨fun x hx => hx, fun c hc => by cases hc⟩
  | c :: cs, n, l, h => by
    unfold loopT at h ⊢
    split at h
    · simp only at h; omega
    · rename_i hn
      rw [if_neg hn]
      obtain ⟨h1, h2⟩ := loopT_full (rec := rec) (cs := cs) h
      refine ⟨fun x hx => h1 x (List.mem_append_left _ hx), fun d hd => ?_⟩
      rcases List.mem_cons.1 hd with rfl | hd
      · exact ⟨by omega, fun x hx => h1 x (List.mem_append_right _ hx)⟩
      · exact h2 d hd
/-- A tiling of a task. -/
structure TilingT (t : Tk) (T : List Pc) : Prop where
  good : GoodT t T
  full : fullT t T = true
  right : ∀ k : Nat, k < t.counts.length → (manyT T k : Int) = t.counts.getD k 0
  quiet : ∀ s p, (∀ x ∈ s, x ∈ T) → p ∈ T → clashT t.below s p = false
theorem apart_eq {T : List Pc} (h : ApartT T) {a b : Pc} (ha : a ∈ T) (hb : b ∈ T) {q : Q} (h1 : q ∈ a.qs) (h2 : q ∈ b.qs) : a = b := by
  obtain ⟨i, hi, rfl⟩ := List.getElem_of_mem ha
  obtain ⟨j, hj, rfl⟩ := List.getElem_of_mem hb
  rcases Nat.lt_trichotomy i j with h' | h' | h'
  · exact absurd h2 (List.pairwise_iff_getElem.1 h i j hi hj h' q h1)
  · subst h'; rfl
  · exact absurd h1 (List.pairwise_iff_getElem.1 h j i hj hi h' q h2)
theorem apart_nodup {T : List Pc} (h : ApartT T) (hne : ∀ p ∈ T, p.qs ≠ []) : T.Nodup := by
  refine List.Pairwise.imp_of_mem ?_ h
  intro a b ha _ hab e
  subst e
  obtain ⟨q, hq⟩ := List.exists_mem_of_ne_nil _ (hne a ha)
  exact hab q hq hq
theorem manyT_lt {s T : List Pc} {p : Pc} (hs : s.Nodup) (hsub : ∀ x ∈ s, x ∈ T) (hp : p ∈ T) (hps : p ∉ s) : manyT s p.ld.kind < manyT T p.ld.kind := by
  unfold manyT
  have : (p :: s.filter fun x => decide (x.ld.kind = p.ld.kind)).length ≤ (T.filter fun x => decide (x.ld.kind = p.ld.kind)).length := by
    refine nodup_le (List.nodup_cons.2 ⟨fun h => hps (List.mem_filter.1 h).1, hs.sublist List.filter_sublist⟩) fun x hx => ?_
    rcases List.mem_cons.1 hx with rfl | hx
    · exact List.mem_filter.2 ⟨hp, by simp⟩
    · obtain ⟨h1, h2⟩ := List.mem_filter.1 hx
      exact List.mem_filter.2 ⟨hsub x h1, h2⟩
  simp only [List.length_cons] at this
  omega
/-- How many quarters of the ground are left. -/
def leftT (t : Tk) (s : List Pc) : Nat := (t.ground.filter fun q => !covT s q).length
theorem search_complete {t : Tk} {T : List Pc} (hT : TilingT t T) (hne : ∀ p ∈ (piecesT t).flatten, p.qs ≠ []) (hk : ∀ p ∈ (piecesT t).flatten, 0 ≤ p.ld.kind ∧ p.ld.kind.toNat < t.counts.length) (hin : ∀ p ∈ (piecesT t).flatten, ∀ q ∈ p.qs, q ∈ t.ground) :
    ∀ (f : Nat) {s : List Pc}, s.Nodup → ApartT s → (∀ x ∈ s, x ∈ T) → leftT t s ≤ f → (searchT t f s).1 ≤ 20000 → (searchT t f s).2 ≠ [] := by
  have hTn : T.Nodup := apart_nodup hT.good.apart fun p hp => hne p (hT.good.mem p hp)
  -- a state that is full is the tiling
  have hfull : ∀ {s : List Pc}, (∀ x ∈ s, x ∈ T) → fullT t s = true → ∀ p ∈ T, p ∈ s := by
    intro s hs hf p hp
    obtain ⟨q, hq⟩ := List.exists_mem_of_ne_nil _ (hne p (hT.good.mem p hp))
    have hqg := hin p (hT.good.mem p hp) q hq
    unfold fullT at hf
    rw [List.all_eq_true] at hf
    obtain ⟨x, hx, hxq⟩ := covT_iff.1 (hf q hqg)
    have := apart_eq hT.good.apart (hs x hx) hp hxq hq
    exact this ▸ hx
  have hright : ∀ {s : List Pc}, s.Nodup → (∀ x ∈ s, x ∈ T) → fullT t s = true → rightT t s = true := by
    intro s hn hs hf
    have hall := hfull hs hf
    unfold rightT
    rw [List.all_eq_true]
    rintro ⟨c, k⟩ hck
    simp only [decide_eq_true_eq]
    obtain ⟨hk1, hk2⟩ := List.mem_zipIdx' hck
    have h1 := hT.right k hk1
    rw [List.getD_eq_getElem?_getD, List.getElem?_eq_getElem hk1, Option.getD_some] at h1
    rw [hk2, ← h1]
    unfold manyT
    congr 1
    refine Nat.le_antisymm (nodup_le (hn.sublist List.filter_sublist) fun x hx => ?_) (nodup_le (hTn.sublist List.filter_sublist) fun x hx => ?_)
    · obtain ⟨a, b⟩ := List.mem_filter.1 hx; exact List.mem_filter.2 ⟨hs x a, b⟩
    · obtain ⟨a, b⟩ := List.mem_filter.1 hx; exact List.mem_filter.2 ⟨hall x a, b⟩
  intro f
  induction f with
  | zero =>
    intro s hn _ hs hl _
    have hf : fullT t s = true := by
      unfold fullT
      rw [List.all_eq_true]
      intro q hq
      have : (t.ground.filter fun q => !covT s q) = [] := List.length_eq_zero_iff.1 (by unfold leftT at hl; omega)
      rw [List.filter_eq_nil_iff] at this
      simpa using this q hq
    unfold searchT
    simp only [hf, if_true, hright hn hs hf]
    simp
  | succ f ih =>
    intro s hn ha hs hl hno
    by_cases hf : fullT t s = true
    · unfold searchT
      rw [if_pos hf]
      simp only [hright hn hs hf, if_true]
      simp
    · have hf' : fullT t s = false := by simpa using hf
      obtain ⟨q, hq⟩ := freeT_none hf'
      obtain ⟨hqg, hqc⟩ := freeT_spec hq
      have hTf := hT.full
      unfold fullT at hTf
      rw [List.all_eq_true] at hTf
      obtain ⟨p, hp, hpq⟩ := covT_iff.1 (hTf q hqg)
      have hps : p ∉ s := fun h => by rw [covT_iff.2 ⟨p, h, hpq⟩] at hqc; cases hqc
      have hpm := hT.good.mem p hp
      obtain ⟨hk0, hk1⟩ := hk p hpm
      have hput : putT t s p = some (s ++ [p]) := by
        refine putT_mk (fun r hr => ?_) ?_ (hT.quiet s p hs hp)
        · cases hc : covT s r with
          | false => rfl
          | true =>
            obtain ⟨x, hx, hxr⟩ := covT_iff.1 hc
            have := apart_eq hT.good.apart (hs x hx) hp hxr hr
            subst this; exact absurd hx hps
        · have h1 := manyT_lt hn hs hp hps
          have h2 := hT.right p.ld.kind.toNat hk1
          rw [Int.toNat_of_nonneg hk0] at h2
          omega
      have hc := children_mk hpm hq hpq hput
      unfold searchT at hno ⊢
      rw [if_neg hf] at hno ⊢
      obtain ⟨_, h2⟩ := loopT_full hno
      obtain ⟨h3, h4⟩ := h2 _ hc
      have hn' : (s ++ [p]).Nodup := List.nodup_append.2 ⟨hn, by simp, fun a ha b hb e => by rw [List.mem_singleton] at hb; subst hb e; exact hps ha⟩
      have ha' : ApartT (s ++ [p]) := by
        refine List.pairwise_append.2 ⟨ha, by simp, fun a ha b hb r hr hr' => ?_⟩
        rw [List.mem_singleton] at hb; subst hb
        have := apart_eq hT.good.apart (hs a ha) hp hr hr'
        subst this; exact hps ha
      have hs' : ∀ x ∈ s ++ [p], x ∈ T := fun x hx => by
        rcases List.mem_append.1 hx with hx | hx
        · exact hs x hx
        · rw [List.mem_singleton] at hx; subst hx; exact hp
      have hl' : leftT t (s ++ [p]) ≤ f := by
        have hlt : leftT t (s ++ [p]) < leftT t s := by
          unfold leftT
          have hsub : (t.ground.filter fun q => !covT (s ++ [p]) q) = ((t.ground.filter fun q => !covT s q).filter fun r => decide (r ∉ p.qs)) := by
            rw [List.filter_filter]
            refine List.filter_congr fun r _ => ?_
            unfold covT
            rw [List.any_append]
            simp
            rw [Bool.and_comm]
          rw [hsub]
          refine List.length_filter_lt_length_iff_exists.2 ⟨q, List.mem_filter.2 ⟨hqg, by rw [hqc]; rfl⟩, by simpa using hpq⟩
        omega
      have hne2 := ih hn' ha' hs' hl' h3
      obtain ⟨x, hx⟩ := List.exists_mem_of_ne_nil _ hne2
      intro e
      have := h4 x hx
      rw [e] at this; cases this
end Go.Proofs.YtiinlplgloaanaaGreatDoor

/- Plain law of BrickFits. -/
namespace Go.Proofs.YtiinlplgloaanaaGreatDoor
set_option linter.all false
set_option linter.unusedSimpArgs false
set_option linter.unusedVariables false
open Go.RowKit

theorem freshW_lt {l : List Q} {w : Way} (h : w ∈ freshW l) : w.2 < 4 := ways8_lt.1 (freshL_mem h).1
theorem img_le {l : List Q} (hc : checkN l = 0) (b : Bool) {n : Nat} (hn : n < 4) : (1 ≤ widthL (imgL b n l) ∧ widthL (imgL b n l) ≤ 16) ∧ 1 ≤ heightL (imgL b n l) ∧ heightL (imgL b n l) ≤ 16 := by
  obtain ⟨h, hl, _⟩ := checkN_ok hc
  have hs := img_size h hl (w := (b, n)) hn
  have h1 := width_le (imgG (layG l) (b, n))
  have h2 := height_le (imgG (layG l) (b, n))
  have e1 : widthL (imgL b n l) = widthL (imgW l (b, n)) := rfl
  have e2 : heightL (imgL b n l) = heightL (imgW l (b, n)) := rfl
  obtain ⟨c1, c2⟩ := img_corner hl b n
  have hne : imgL b n l ≠ [] := imgL_ne hl
  have a1 : (1 : Int) ≤ widthL (imgL b n l) := by
    obtain ⟨q, hq⟩ := List.exists_mem_of_ne_nil _ hne
    have := minL_le (·.x) hq
    have := maxL_ge (·.x) hq
    unfold leftL at c1; unfold widthL; omega
  have a2 : (1 : Int) ≤ heightL (imgL b n l) := by
    obtain ⟨q, hq⟩ := List.exists_mem_of_ne_nil _ hne
    have := minL_le (·.y) hq
    have := maxL_ge (·.y) hq
    unfold lowL at c2; unfold heightL; omega
  omega
theorem put_place {l g : List Q} (hc : checkN l = 0) {p : Plc} (hp : p ∈ placesL l g) : putC l p.m p.t p.x p.y = (putP l p, 0) ∧ (putP l p).length = l.length ∧ ∀ q ∈ putP l p, q ∈ g := by
  obtain ⟨h1, h2⟩ := mem_placesL.1 hp
  have ht := freshW_lt h1
  obtain ⟨h3, h4, h5⟩ := mem_posL.1 h2
  obtain ⟨m, t, x, y⟩ := p
  simp only at ht h3 h4 h5
  have hw := img_le hc m ht
  have hf : fitsP l m t x y := by
    refine ⟨by omega, by omega, by omega, ?_, ?_⟩ <;> simp only [Int.toNat_natCast] <;> omega
  refine ⟨?_, by simp [putP, length_imgL], fun q hq => ?_⟩
  · rw [putC, if_neg (fun h => h hc), if_pos hf]; rfl
  · obtain ⟨r, hr, rfl⟩ := List.mem_map.1 hq; exact h5 r hr
/-- How many places there are at most. -/
theorem length_flatMap_le {α β : Type} (f : α → List β) (n : Nat) : ∀ (l : List α), (∀ a ∈ l, (f a).length ≤ n) → (l.flatMap f).length ≤ n * l.length
  | [], _ => by simp
  | a :: l, h => by
    have h1 := length_flatMap_le f n l (fun b hb => h b (by simp [hb]))
    have h2 := h a (by simp)
    simp only [List.flatMap_cons, List.length_append, List.length_cons]
    rw [Nat.mul_add, Nat.mul_one]; omega
theorem posL_le (I g : List Q) : (posL I g).length ≤ 289 := by
  unfold posL
  have h := length_flatMap_le (fun (y : Nat) => ((List.range (16 - (widthL I).toNat + 1)).filter (fun (x : Nat) => subL (I.map (sh (x : Int) (y : Int))) g)).map (fun (x : Nat) => (x, y))) 17 (List.range (16 - (heightL I).toNat + 1)) (fun y _ => by
    rw [List.length_map]
    have := List.length_filter_le (fun (x : Nat) => subL (I.map (sh (x : Int) (y : Int))) g) (List.range (16 - (widthL I).toNat + 1))
    rw [List.length_range] at this; omega)
  rw [List.length_range] at h
  have : 17 * (16 - (heightL I).toNat + 1) ≤ 17 * 17 := Nat.mul_le_mul_left _ (by omega)
  omega
theorem placesL_le (l g : List Q) : (placesL l g).length ≤ 2312 := by
  have hw : (freshW l).length ≤ 8 := by
    have : ∀ (ws : List Way) (seen : List (List Q)), (freshL (imgW l) ws seen).length ≤ ws.length := by
      intro ws
      induction ws with
      | nil => intro seen; simp [freshL]
      | cons a ws ih =>
        intro seen
        unfold freshL
        split
        · have := ih seen; simp; omega
        · have := ih (seen ++ [imgW l a]); simp; omega
    exact this ways8 []
  have h := length_flatMap_le (fun (w : Way) => (posL (imgW l w) g).map fun p => (⟨w.1, w.2, p.1, p.2⟩ : Plc)) 289 (freshW l) (fun w _ => by rw [List.length_map]; exact posL_le _ _)
  have : 289 * (freshW l).length ≤ 289 * 8 := Nat.mul_le_mul_left _ hw
  show ((freshW l).flatMap fun w => (posL (imgW l w) g).map fun p => (⟨w.1, w.2, p.1, p.2⟩ : Plc)).length ≤ 2312
  omega
end Go.Proofs.YtiinlplgloaanaaGreatDoor

/- Plain maths of chapter 7: the bricks of a task; two halves for a square. -/
namespace Go.Proofs.YtiinlplgloaanaaGreatDoor
set_option linter.all false
set_option linter.unusedSimpArgs false
set_option linter.unusedVariables false
open Go.RowKit

/-! ### The bricks of a task -/
theorem piece_spec {t : Tk} {p : Pc} (h : p ∈ (piecesT t).flatten) : ∃ (k : Nat) (s : List Q) (pl : Plc), t.kinds[k]? = some s ∧ pl ∈ placesL s t.ground ∧ p = pieceP k s pl := by
  obtain ⟨L, hL, hp⟩ := List.mem_flatten.1 h
  obtain ⟨⟨s, k⟩, hsk, rfl⟩ := List.mem_map.1 hL
  obtain ⟨pl, hpl, rfl⟩ := List.mem_map.1 hp
  obtain ⟨h1, h2⟩ := List.mem_zipIdx' hsk
  exact ⟨k, s, pl, by rw [List.getElem?_eq_getElem h1, h2], hpl, rfl⟩
theorem piece_mk {t : Tk} {k : Nat} {s : List Q} {pl : Plc} (h1 : t.kinds[k]? = some s) (h2 : pl ∈ placesL s t.ground) : pieceP k s pl ∈ (piecesT t).flatten := by
  obtain ⟨hk, rfl⟩ := List.getElem?_eq_some_iff.1 h1
  refine List.mem_flatten.2 ⟨piecesK t.ground k t.kinds[k], List.mem_map.2 ⟨(t.kinds[k], k), ?_, rfl⟩, List.mem_map.2 ⟨pl, h2, rfl⟩⟩
  rw [List.mem_zipIdx_iff_getElem?]
  simp [List.getElem?_eq_getElem hk]
theorem piece_qs {s : List Q} (hc : checkN s = 0) {g : List Q} {pl : Plc} (h : pl ∈ placesL s g) (k : Nat) : (pieceP k s pl).qs = putP s pl ∧ (pieceP k s pl).qs.length = s.length ∧ ∀ q ∈ (pieceP k s pl).qs, q ∈ g := by
  obtain ⟨h1, h2, h3⟩ := put_place hc h
  have e : (pieceP k s pl).qs = putP s pl := by unfold pieceP; simp only; rw [h1]
  rw [e]
  exact ⟨rfl, h2, h3⟩
/-- What is true of all bricks of a task with valid kinds. -/
theorem pieces_ok {t : Tk} (hv : ∀ s ∈ t.kinds, checkN s = 0) (hl : t.counts.length = t.kinds.length) : (∀ p ∈ (piecesT t).flatten, p.qs ≠ []) ∧ (∀ p ∈ (piecesT t).flatten, 0 ≤ p.ld.kind ∧ p.ld.kind.toNat < t.counts.length) ∧ ∀ p ∈ (piecesT t).flatten, ∀ q ∈ p.qs, q ∈ t.ground := by
  refine ⟨fun p hp e => ?_, fun p hp => ?_, fun p hp q hq => ?_⟩
  · obtain ⟨k, s, pl, h1, h2, rfl⟩ := piece_spec hp
    have hs := hv s (List.mem_of_getElem? h1)
    have := (piece_qs hs h2 k).2.1
    rw [e] at this
    exact (checkN_ok hs).2.1 (List.length_eq_zero_iff.1 this.symm)
  · obtain ⟨k, s, pl, h1, h2, rfl⟩ := piece_spec hp
    have := (List.getElem?_eq_some_iff.1 h1).1
    unfold pieceP
    simp only [Int.toNat_natCast]
    omega
  · obtain ⟨k, s, pl, h1, h2, rfl⟩ := piece_spec hp
    exact (piece_qs (hv s (List.mem_of_getElem? h1)) h2 k).2.2 q hq
/-- As many bricks as counted. -/
theorem many_two {x : List Pc} {a b : Int} (h : ∀ p ∈ x, p.ld.kind = 0 ∨ p.ld.kind = 1) (h0 : (manyT x 0 : Int) = a) (h1 : (manyT x 1 : Int) = b) : (x.length : Int) = a + b := by
  have : x.length = manyT x 0 + manyT x 1 := by
    clear h0 h1
    induction x with
    | nil => rfl
    | cons p x ih =>
      have i := ih fun q hq => h q (by simp [hq])
      unfold manyT at *
      rcases h p (by simp) with e | e
      · rw [List.filter_cons_of_pos (by simpa using e), List.filter_cons_of_neg (by simp [e])]
        simp only [List.length_cons]; omega
      · rw [List.filter_cons_of_neg (by simp [e]), List.filter_cons_of_pos (by simpa using e)]
        simp only [List.length_cons]; omega
  omega
/-! ### Two halves for a square -/
def squareQ : List Q := [⟨0, 0, 0⟩, ⟨0, 0, 1⟩, ⟨0, 0, 2⟩, ⟨0, 0, 3⟩]
def halfQ : List Q := [⟨0, 0, 0⟩, ⟨0, 0, 1⟩]
def taskH (g : List Q) (a b : Int) : Tk := ⟨g, [squareQ, halfQ], [a, b], [], []⟩
theorem squareH_ok : checkN squareQ = 0 := by decide
theorem halfH_ok : checkN halfQ = 0 := by decide
theorem square_ways : freshW squareQ = [(false, 0)] := by decide +kernel
theorem half_way0 : ((false, 0) : Way) ∈ freshW halfQ ∧ imgL false 0 halfQ = halfQ := by decide +kernel
theorem half_way2 : ((false, 2) : Way) ∈ freshW halfQ ∧ imgL false 2 halfQ = [⟨0, 0, 2⟩, ⟨0, 0, 3⟩] := by decide +kernel
theorem square_img : imgL false 0 squareQ = squareQ := by decide +kernel
theorem taskH_ok (g : List Q) (a b : Int) : (∀ s ∈ (taskH g a b).kinds, checkN s = 0) ∧ (taskH g a b).counts.length = (taskH g a b).kinds.length := by
  refine ⟨fun s hs => ?_, rfl⟩
  rcases List.mem_cons.1 hs with rfl | hs
  · exact squareH_ok
  · rw [List.mem_singleton] at hs; subst hs; exact halfH_ok
theorem taskH_kind {g : List Q} {a b : Int} {p : Pc} (h : p ∈ (piecesT (taskH g a b)).flatten) : p.ld.kind = 0 ∨ p.ld.kind = 1 := by
  obtain ⟨h1, h2⟩ := (pieces_ok (taskH_ok g a b).1 (taskH_ok g a b).2).2.1 p h
  have h3 : p.ld.kind.toNat < 2 := h2
  omega
theorem found_tiling {t : Tk} {x : List Pc} (hb : t.below = []) (h1 : GoodT t x) (h2 : fullT t x = true) (h3 : rightT t x = true) : TilingT t x := by
  refine ⟨h1, h2, fun k hk => ?_, fun s p _ _ => ?_⟩
  · unfold rightT at h3
    rw [List.all_eq_true] at h3
    have := h3 (t.counts[k], k) (by rw [List.mem_zipIdx_iff_getElem?]; simp [List.getElem?_eq_getElem hk])
    simp only [decide_eq_true_eq] at this
    rw [this, List.getD_eq_getElem?_getD, List.getElem?_eq_getElem hk, Option.getD_some]
  · unfold clashT
    rw [hb, List.any_eq_false]
    intro e _
    simp
/-- A square is split. -/
theorem split_square {g : List Q} {a b : Int} {T : List Pc} (ha : 1 ≤ a) (hT : TilingT (taskH g a b) T) : ∃ T', TilingT (taskH g (a - 1) (b + 2)) T' := by
  have hm0 : (manyT T 0 : Int) = a := hT.right 0 (by simp [taskH])
  have hm1 : (manyT T 1 : Int) = b := hT.right 1 (by simp [taskH])
  have hne : (T.filter fun p => decide (p.ld.kind = 0)) ≠ [] := fun e => by
    unfold manyT at hm0
    rw [e] at hm0
    simp at hm0; omega
  obtain ⟨P, hP⟩ := List.exists_mem_of_ne_nil _ hne
  obtain ⟨hPT, hP0⟩ := List.mem_filter.1 hP
  rw [decide_eq_true_eq] at hP0
  obtain ⟨k, s, pl, h1, h2, rfl⟩ := piece_spec (hT.good.mem P hPT)
  have hk : k = 0 := by
    have : ((k : Nat) : Int) = 0 := hP0
    omega
  subst hk
  have hs : s = squareQ := by
    have : (taskH g a b).kinds[0]? = some squareQ := rfl
    rw [this] at h1; cases h1; rfl
  subst hs
  obtain ⟨q1, q2, q3⟩ := piece_qs squareH_ok h2 0
  obtain ⟨w1, w2⟩ := mem_placesL.1 h2
  rw [square_ways, List.mem_singleton, Prod.mk.injEq] at w1
  obtain ⟨m, tt, x, y⟩ := pl
  simp only at w1 w2
  obtain ⟨rfl, rfl⟩ := w1
  rw [square_img] at w2
  obtain ⟨v1, v2, v3⟩ := mem_posL.1 w2
  simp only at v1 v2 v3
  have hw : widthL squareQ = 1 ∧ heightL squareQ = 1 := by decide
  rw [hw.1] at v2
  rw [hw.2] at v1
  -- the two halves
  have p1 : (⟨false, 0, x, y⟩ : Plc) ∈ placesL halfQ g := by
    refine mem_placesL.2 ⟨half_way0.1, ?_⟩
    simp only
    rw [half_way0.2]
    refine mem_posL.2 ⟨?_, ?_, fun q hq => ?_⟩
    · rw [show heightL halfQ = 1 by decide]; exact v1
    · rw [show widthL halfQ = 1 by decide]; exact v2
    · exact v3 q (by simp only [halfQ, squareQ, List.mem_cons, List.not_mem_nil, or_false] at hq ⊢; rcases hq with rfl | rfl <;> simp)
  have p2 : (⟨false, 2, x, y⟩ : Plc) ∈ placesL halfQ g := by
    refine mem_placesL.2 ⟨half_way2.1, ?_⟩
    simp only
    rw [half_way2.2]
    refine mem_posL.2 ⟨?_, ?_, fun q hq => ?_⟩
    · rw [show heightL [(⟨0, 0, 2⟩ : Q), ⟨0, 0, 3⟩] = 1 by decide]; exact v1
    · rw [show widthL [(⟨0, 0, 2⟩ : Q), ⟨0, 0, 3⟩] = 1 by decide]; exact v2
    · exact v3 q (by simp only [squareQ, List.mem_cons, List.not_mem_nil, or_false] at hq ⊢; rcases hq with rfl | rfl <;> simp)
  obtain ⟨r1, _, r1g⟩ := piece_qs halfH_ok p1 1
  obtain ⟨r2, _, r2g⟩ := piece_qs halfH_ok p2 1
  have e1 : (pieceP 1 halfQ ⟨false, 0, x, y⟩).qs = [⟨x, y, 0⟩, ⟨x, y, 1⟩] := by
    rw [r1]; unfold putP; simp only; rw [half_way0.2]; simp [halfQ, sh]
  have e2 : (pieceP 1 halfQ ⟨false, 2, x, y⟩).qs = [⟨x, y, 2⟩, ⟨x, y, 3⟩] := by
    rw [r2]; unfold putP; simp only; rw [half_way2.2]; simp [sh]
  have e0 : (pieceP 0 squareQ ⟨false, 0, x, y⟩).qs = [⟨x, y, 0⟩, ⟨x, y, 1⟩, ⟨x, y, 2⟩, ⟨x, y, 3⟩] := by
    rw [q1]; unfold putP; simp only; rw [square_img]; simp [squareQ, sh]
  generalize hP : pieceP 0 squareQ ⟨false, 0, x, y⟩ = P at *
  generalize hH1 : pieceP 1 halfQ ⟨false, 0, x, y⟩ = H1 at *
  generalize hH2 : pieceP 1 halfQ ⟨false, 2, x, y⟩ = H2 at *
  have k1 : H1.ld.kind = 1 := by rw [← hH1]; rfl
  have k2 : H2.ld.kind = 1 := by rw [← hH2]; rfl
  have m1 : H1 ∈ (piecesT (taskH g (a - 1) (b + 2))).flatten := by rw [← hH1]; exact piece_mk (t := taskH g (a - 1) (b + 2)) rfl p1
  have m2 : H2 ∈ (piecesT (taskH g (a - 1) (b + 2))).flatten := by rw [← hH2]; exact piece_mk (t := taskH g (a - 1) (b + 2)) rfl p2
  obtain ⟨A, B, rfl⟩ := List.append_of_mem hPT
  have hap := hT.good.apart
  unfold ApartT at hap
  rw [List.pairwise_append, List.pairwise_cons] at hap
  obtain ⟨a1, ⟨a2, a3⟩, a4⟩ := hap
  have hsub : ∀ {H : Pc}, H = H1 ∨ H = H2 → ∀ q ∈ H.qs, q ∈ P.qs := by
    intro H hH q hq
    rw [e0]
    rcases hH with rfl | rfl
    · rw [e1] at hq; simp at hq ⊢; rcases hq with rfl | rfl <;> simp
    · rw [e2] at hq; simp at hq ⊢; rcases hq with rfl | rfl <;> simp
  refine ⟨A ++ (H1 :: H2 :: B), ⟨⟨fun p hp => ?_, ?_⟩, ?_, ?_, fun s p _ _ => ?_⟩⟩
  · rcases List.mem_append.1 hp with hp | hp
    · exact hT.good.mem p (by simp [hp])
    · rcases List.mem_cons.1 hp with rfl | hp
      · exact m1
      · rcases List.mem_cons.1 hp with rfl | hp
        · exact m2
        · exact hT.good.mem p (by simp [hp])
  · unfold ApartT
    refine List.pairwise_append.2 ⟨a1, List.pairwise_cons.2 ⟨fun p hp q hq hq' => ?_, List.pairwise_cons.2 ⟨fun p hp q hq hq' => a2 p hp q (hsub (.inr rfl) q hq) hq', a3⟩⟩, fun p hp H hH q hq hq' => ?_⟩
    · rcases List.mem_cons.1 hp with rfl | hp
      · rw [e1] at hq; rw [e2] at hq'; simp at hq hq'; rcases hq with rfl | rfl <;> simp at hq'
      · exact a2 p hp q (hsub (.inl rfl) q hq) hq'
    · rcases List.mem_cons.1 hH with rfl | hH
      · exact a4 p hp P (by simp) q hq (hsub (.inl rfl) q hq')
      · rcases List.mem_cons.1 hH with rfl | hH
        · exact a4 p hp P (by simp) q hq (hsub (.inr rfl) q hq')
        · exact a4 p hp H (by simp [hH]) q hq hq'
  · have hf := hT.full
    unfold fullT at hf ⊢
    rw [List.all_eq_true] at hf ⊢
    intro q hq
    obtain ⟨p, hp, hpq⟩ := covT_iff.1 (hf q hq)
    refine covT_iff.2 ?_
    rcases List.mem_append.1 hp with hp | hp
    · exact ⟨p, by simp [hp], hpq⟩
    · rcases List.mem_cons.1 hp with rfl | hp
      · rw [e0] at hpq
        simp only [List.mem_cons, List.not_mem_nil, or_false] at hpq
        rcases hpq with rfl | rfl | rfl | rfl
        · exact ⟨H1, by simp, by rw [e1]; simp⟩
        · exact ⟨H1, by simp, by rw [e1]; simp⟩
        · exact ⟨H2, by simp, by rw [e2]; simp⟩
        · exact ⟨H2, by simp, by rw [e2]; simp⟩
      · exact ⟨p, by simp [hp], hpq⟩
  · intro k hk
    have hk2 : k < 2 := hk
    unfold manyT at hm0 hm1 ⊢
    simp only [List.filter_append, List.length_append, List.filter_cons, hP0, k1, k2] at hm0 hm1 ⊢
    rcases (by omega : k = 0 ∨ k = 1) with rfl | rfl
    · simp [taskH] at hm0 ⊢; omega
    · simp [taskH] at hm1 ⊢; omega
  · unfold clashT
    rw [List.any_eq_false]
    intro e _
    simp [taskH]
theorem insP_perm (g : List Q) (p : Pc) : ∀ l : List Pc, (insP g p l).Perm (p :: l)
  | [] => List.Perm.refl _
  | q :: l => by
    unfold insP
    split
    · exact List.Perm.refl _
    · exact ((insP_perm g p l).cons q).trans (List.Perm.swap p q l)
theorem sortP_perm (g : List Q) (l : List Pc) : (sortP g l).Perm l := by
  have : ∀ (l a : List Pc), (l.foldl (fun l p => insP g p l) a).Perm (l ++ a) := by
    intro l
    induction l with
    | nil => intro a; exact List.Perm.refl _
    | cons p l ih =>
      intro a
      rw [List.foldl_cons]
      refine (ih _).trans ?_
      refine ((insP_perm g p a).append_left l).trans ?_
      exact List.perm_middle
  have h := this l []
  rwa [List.append_nil] at h
theorem tilings_len {g : List Q} {a b : Int} {x : List Pc} (hx : x ∈ (tilingsT (taskH g a b)).1) : (x.length : Int) = a + b ∧ ∃ T, TilingT (taskH g a b) T := by
  unfold tilingsT at hx
  have hr : rootT (taskH g a b) = some [] := rfl
  rw [hr] at hx
  simp only at hx
  split at hx
  · split at hx
    · cases hx
    · simp only at hx
      obtain ⟨y, hy, rfl⟩ := List.mem_map.1 hx
      obtain ⟨h1, h2, h3⟩ := search_found _ (good_nil _) hy
      have hT := found_tiling (t := taskH g a b) rfl h1 h2 h3
      refine ⟨?_, y, hT⟩
      rw [(sortP_perm _ y).length_eq]
      exact many_two (fun p hp => taskH_kind (h1.mem p hp)) (hT.right 0 (by simp [taskH])) (hT.right 1 (by simp [taskH]))
  · cases hx
/-- Where squares and halves make a layer, one square less and two halves more make one, too. -/
theorem halved {g : List Q} {a b : Int} {x : List Pc} (ha : 1 ≤ a) (hx : x ∈ (tilingsT (taskH g a b)).1) (h0 : (tilingsT (taskH g (a - 1) (b + 2))).2.2 = 0) : (tilingsT (taskH g (a - 1) (b + 2))).1 ≠ [] ∧ ∀ y ∈ (tilingsT (taskH g (a - 1) (b + 2))).1, (y.length : Int) = x.length + 1 := by
  obtain ⟨hl, T, hT⟩ := tilings_len hx
  obtain ⟨T', hT'⟩ := split_square ha hT
  refine ⟨?_, fun y hy => by rw [(tilings_len hy).1, hl]; omega⟩
  have hf : fitsT (taskH g a b) = true := by
    unfold tilingsT at hx
    have hr : rootT (taskH g a b) = some [] := rfl
    rw [hr] at hx
    simp only at hx
    split at hx
    · assumption
    · cases hx
  have hf' : fitsT (taskH g (a - 1) (b + 2)) = true := by
    unfold fitsT at hf ⊢
    simp [taskH, squareQ, halfQ] at hf ⊢
    omega
  unfold tilingsT at h0 ⊢
  have hr : rootT (taskH g (a - 1) (b + 2)) = some [] := rfl
  rw [hr] at h0 ⊢
  simp only [hf', if_true] at h0 ⊢
  split at h0
  · simp at h0
  · rename_i hn
    rw [if_neg hn]
    simp only
    obtain ⟨o1, o2, o3⟩ := pieces_ok (taskH_ok g (a - 1) (b + 2)).1 (taskH_ok g (a - 1) (b + 2)).2
    have := search_complete hT' o1 o2 o3 (taskH g (a - 1) (b + 2)).ground.length (s := []) List.nodup_nil List.Pairwise.nil (fun x hx => by cases hx) (List.length_filter_le _ _) (by omega)
    intro e
    exact this (List.map_eq_nil_iff.1 e)
end Go.Proofs.YtiinlplgloaanaaGreatDoor

/- Plain maths of chapter 7: how many tilings are unlike: the functional spec of Count. -/
namespace Go.Proofs.YtiinlplgloaanaaGreatDoor
set_option linter.all false
set_option linter.unusedSimpArgs false
set_option linter.unusedVariables false
open Go.RowKit

/-! ### How many are unlike -/
def digB36 (n : Nat) : UInt8 := if n < 10 then UInt8.ofNat (48 + n) else UInt8.ofNat (87 + n)
def fmtB (base : Nat) : Nat → Nat → List UInt8 → List UInt8
  | 0, _, l => l
  | f + 1, n, l => if n < base then digB36 n :: l else fmtB base f (n / base) (digB36 (n % base) :: l)
def fmt36 (n : Nat) : List UInt8 := fmtB 36 64 n []
def fmt10 (n : Nat) : List UInt8 := fmtB 10 64 n []
/-- The order of texts. -/
def ltB : List UInt8 → List UInt8 → Bool
  | _, [] => false
  | [], _ :: _ => true
  | a :: l, b :: m => if a < b then true else if b < a then false else ltB l m
def insB (x : List UInt8) : List (List UInt8) → List (List UInt8)
  | [] => [x]
  | y :: l => if ltB x y then x :: y :: l else y :: insB x l
def sortB (l : List (List UInt8)) : List (List UInt8) := l.foldr insB []
def joinB : List (List UInt8) → List UInt8
  | [] => []
  | [x] => x
  | x :: y :: l => x ++ (32 : UInt8) :: joinB (y :: l)
/-- The set of a brick's quarters, each brought elsewhere. -/
def setTo (g : List Q) (tw : List Nat) (p : Pc) : Nat := ((g.zip tw).filter fun x => decide (x.1 ∈ p.qs)).foldl (fun n x => n ||| (1 <<< x.2)) 0
def wordT (g : List Q) (tw : List Nat) (p : Pc) : List UInt8 := fmt36 (setTo g tw p) ++ (58 : UInt8) :: fmt10 p.ld.kind.toNat
def keyT (g : List Q) (tw : List Nat) (s : List Pc) : List UInt8 := joinB (sortB (s.map (wordT g tw)))
def wayT (g : List Q) (i : Nat) : Option (List Nat) :=
  (g.map (tr (decide (4 ≤ i)) (i % 4))).mapM fun q => g.findIdx? fun r => decide (r = sh (leftL g - leftL (g.map (tr (decide (4 ≤ i)) (i % 4)))) (lowL g - lowL (g.map (tr (decide (4 ≤ i)) (i % 4)))) q)
def waysT (g : List Q) : List (List Nat) := (List.range 8).filterMap (wayT g)
def unlikeT (g : List Q) (l : List (List Pc)) : Nat :=
  (l.foldl (fun (a : List (List UInt8) × Nat) s => if keyT g ((waysT g).headD []) s ∈ a.1 then a else (a.1 ++ (waysT g).map fun tw => keyT g tw s, a.2 + 1)) ([], 0)).2
/-- All, unlike, nodes and the error. -/
def countT (t : Tk) : Nat × Nat × Nat × Nat := if (tilingsT t).2.2 = 0 then ((tilingsT t).1.length, unlikeT t.ground (tilingsT t).1, (tilingsT t).2.1, 0) else (0, 0, 0, (tilingsT t).2.2)
end Go.Proofs.YtiinlplgloaanaaGreatDoor

/- Plain maths: sets of quarters and of edges as words of 64 bits. -/
namespace Go.Proofs.YtiinlplgloaanaaGreatDoor
set_option linter.all false
set_option linter.unusedSimpArgs false
set_option linter.unusedVariables false
open Go.RowKit

/-! ### Sets of quarters as numbers -/
def setG {α : Type} (P : α → Bool) : List α → Nat
  | [] => 0
  | q :: g => (if P q then 1 else 0) + 2 * setG P g
theorem setG_bit {α : Type} (P : α → Bool) : ∀ (g : List α) (i : Nat), (setG P g).testBit i = (match g[i]? with | some q => P q | none => false)
  | [], i => by simp [setG]
  | q :: g, 0 => by
    unfold setG
    rw [Nat.testBit_zero, show ((if P q = true then 1 else 0) + 2 * setG P g) % 2 = (if P q = true then 1 else 0) from by split <;> omega]
    show _ = P q
    cases P q <;> rfl
  | q :: g, i + 1 => by
    unfold setG
    rw [Nat.testBit_succ, List.getElem?_cons_succ, ← setG_bit P g i]
    congr 1
    split <;> omega
theorem setG_lt {α : Type} (P : α → Bool) : ∀ g : List α, setG P g < 2 ^ g.length
  | [] => by simp [setG]
  | q :: g => by
    have := setG_lt P g
    unfold setG
    rw [List.length_cons, Nat.pow_succ]
    split <;> omega
theorem setG_eq {α : Type} {g : List α} {P R : α → Bool} (h : ∀ q ∈ g, P q = R q) : setG P g = setG R g := by
  refine Nat.eq_of_testBit_eq fun i => ?_
  rw [setG_bit, setG_bit]
  cases hi : g[i]? with
  | none => rfl
  | some q => exact h q (List.mem_of_getElem? hi)
theorem setG_or {α : Type} (P R : α → Bool) (g : List α) : setG P g ||| setG R g = setG (fun q => P q || R q) g := by
  refine Nat.eq_of_testBit_eq fun i => ?_
  rw [Nat.testBit_or, setG_bit, setG_bit, setG_bit]
  cases g[i]? <;> rfl
theorem setG_and {α : Type} (P R : α → Bool) (g : List α) : setG P g &&& setG R g = setG (fun q => P q && R q) g := by
  refine Nat.eq_of_testBit_eq fun i => ?_
  rw [Nat.testBit_and, setG_bit, setG_bit, setG_bit]
  cases g[i]? <;> rfl
theorem setG_none {α : Type} {P : α → Bool} {g : List α} : setG P g = 0 ↔ ∀ q ∈ g, P q = false := by
  constructor
  · intro h q hq
    obtain ⟨i, hi⟩ := List.getElem?_of_mem hq
    have := setG_bit P g i
    rw [h, Nat.zero_testBit, hi] at this
    exact this.symm
  · intro h
    rw [setG_eq (R := fun _ => false) h]
    induction g with
    | nil => rfl
    | cons q g ih => unfold setG; rw [ih (fun r hr => h r (by simp [hr]))]; simp
theorem setG_one {α : Type} [DecidableEq α] {g : List α} (hn : g.Nodup) {i : Nat} {q : α} (h : g[i]? = some q) : 1 <<< i = setG (fun r => decide (r = q)) g := by
  refine Nat.eq_of_testBit_eq fun j => ?_
  rw [setG_bit, Nat.one_shiftLeft, Nat.testBit_two_pow]
  obtain ⟨hi, hq⟩ := List.getElem?_eq_some_iff.1 h
  cases hj : g[j]? with
  | none =>
    simp only [decide_eq_false_iff_not]
    intro e; subst e; rw [h] at hj; cases hj
  | some r =>
    obtain ⟨hj1, hj2⟩ := List.getElem?_eq_some_iff.1 hj
    simp only [decide_eq_decide]
    constructor
    · intro e; subst e; rw [h] at hj; cases hj; rfl
    · intro e
      exact (List.getElem_inj hn).1 (by rw [hq, hj2, e])
theorem setG_all {α : Type} (g : List α) : setG (fun _ => true) g = 2 ^ g.length - 1 := by
  refine Nat.eq_of_testBit_eq fun i => ?_
  rw [setG_bit, Nat.testBit_two_pow_sub_one]
  by_cases hi : i < g.length
  · rw [List.getElem?_eq_getElem hi]; simp [hi]
  · rw [List.getElem?_eq_none (by omega)]; simp [hi]
theorem setG_inj {α : Type} {g : List α} {P R : α → Bool} (h : setG P g = setG R g) : ∀ q ∈ g, P q = R q := by
  intro q hq
  obtain ⟨i, hi⟩ := List.getElem?_of_mem hq
  have h1 := setG_bit P g i
  have h2 := setG_bit R g i
  rw [h, h2, hi] at h1
  exact h1.symm
theorem ctzFrom_first : ∀ (f i x : Nat), i < f → x.testBit i = true → (∀ j, j < i → x.testBit j = false) → Lib.ctzFrom f x = i
  | 0, i, x, h, _, _ => by omega
  | f + 1, 0, x, _, h, _ => by
    unfold Lib.ctzFrom
    rw [Nat.testBit_zero, decide_eq_true_eq] at h
    rw [if_pos h]
  | f + 1, i + 1, x, hf, h, h' => by
    unfold Lib.ctzFrom
    have h0 := h' 0 (by omega)
    rw [Nat.testBit_zero, decide_eq_false_iff_not] at h0
    rw [if_neg h0, ctzFrom_first f i (x / 2) (by omega) (by rw [← Nat.testBit_succ]; exact h) (fun j hj => by rw [← Nat.testBit_succ]; exact h' (j + 1) (by omega))]
    omega
theorem ctz_first {i x : Nat} (hi : i < 64) (h : x.testBit i = true) (h' : ∀ j, j < i → x.testBit j = false) : Lib.ctz 64 x = i := by
  unfold Lib.ctz
  rw [if_neg (fun e => by rw [e, Nat.zero_testBit] at h; cases h), ctzFrom_first 64 i x hi h h']
/-- The first of the ground with something. -/
theorem ctz_set {α : Type} {P : α → Bool} {g : List α} (hg : g.length ≤ 64) {i : Nat} (h : g.findIdx? P = some i) : Lib.ctz 64 (setG P g) = i := by
  rw [List.findIdx?_eq_some_iff_getElem] at h
  obtain ⟨hi, h1, h2⟩ := h
  refine ctz_first (by omega) ?_ fun j hj => ?_
  · rw [setG_bit, List.getElem?_eq_getElem hi]; exact h1
  · rw [setG_bit, List.getElem?_eq_getElem (by omega)]
    simpa using h2 j hj
/-- The complement. -/
theorem setG_not_bit {α : Type} {P : α → Bool} {g : List α} (hg : g.length ≤ 64) (i : Nat) : (2 ^ 64 - 1 - setG P g).testBit i = (decide (i < 64) && !(setG P g).testBit i) := by
  have hlt : setG P g < 2 ^ 64 := Nat.lt_of_lt_of_le (setG_lt P g) (Nat.pow_le_pow_right (by decide) hg)
  have : 2 ^ 64 - 1 - setG P g = 2 ^ 64 - (setG P g + 1) := by omega
  rw [this, Nat.testBit_two_pow_sub_succ hlt]
theorem ctz_free {α : Type} {P : α → Bool} {g : List α} (hg : g.length ≤ 64) {i : Nat} (h : g.findIdx? (fun q => !P q) = some i) : Lib.ctz 64 (2 ^ 64 - 1 - setG P g) = i := by
  rw [List.findIdx?_eq_some_iff_getElem] at h
  obtain ⟨hi, h1, h2⟩ := h
  refine ctz_first (by omega) ?_ fun j hj => ?_
  · rw [setG_not_bit hg, setG_bit, List.getElem?_eq_getElem hi]
    simp only [Bool.and_eq_true, decide_eq_true_eq]
    exact ⟨by omega, h1⟩
  · rw [setG_not_bit hg, setG_bit, List.getElem?_eq_getElem (by omega)]
    have := h2 j hj
    simp only [Bool.not_eq_true', Bool.not_eq_false] at this
    simp [this]
/-! ### Sets of edges in three words -/
def wordsE (P : E → Bool) (L : List E) : Nat × Nat × Nat := (setG P (L.take 64), setG P ((L.drop 64).take 64), setG P ((L.drop 128).take 64))
theorem word_lt {α : Type} (P : α → Bool) (L : List α) (n : Nat) : setG P ((L.drop n).take 64) < 2 ^ 64 :=
  Nat.lt_of_lt_of_le (setG_lt P _) (Nat.pow_le_pow_right (by decide) (by rw [List.length_take]; omega))
theorem wordsE_lt (P : E → Bool) (L : List E) : (wordsE P L).1 < 2 ^ 64 ∧ (wordsE P L).2.1 < 2 ^ 64 ∧ (wordsE P L).2.2 < 2 ^ 64 :=
  ⟨by have := word_lt P L 0; simpa [wordsE] using this, word_lt P L 64, word_lt P L 128⟩
theorem wordsE_eq {P R : E → Bool} {L : List E} (h : ∀ e ∈ L, P e = R e) : wordsE P L = wordsE R L := by
  unfold wordsE
  rw [setG_eq (fun e he => h e (List.mem_of_mem_take he)), setG_eq (g := (L.drop 64).take 64) (fun e he => h e (List.mem_of_mem_drop (List.mem_of_mem_take he))), setG_eq (g := (L.drop 128).take 64) (fun e he => h e (List.mem_of_mem_drop (List.mem_of_mem_take he)))]
theorem wordsE_none {P : E → Bool} {L : List E} (hL : L.length ≤ 192) : wordsE P L = (0, 0, 0) ↔ ∀ e ∈ L, P e = false := by
  unfold wordsE
  simp only [Prod.mk.injEq, setG_none]
  constructor
  · rintro ⟨h1, h2, h3⟩ e he
    obtain ⟨i, hi⟩ := List.getElem?_of_mem he
    have hl := (List.getElem?_eq_some_iff.1 hi).1
    rcases (by omega : i < 64 ∨ (64 ≤ i ∧ i < 128) ∨ 128 ≤ i) with h | h | h
    · exact h1 e (List.mem_of_getElem? (i := i) (by rw [List.getElem?_take_of_lt h]; exact hi))
    · exact h2 e (List.mem_of_getElem? (i := i - 64) (by rw [List.getElem?_take_of_lt (by omega), List.getElem?_drop, show 64 + (i - 64) = i by omega]; exact hi))
    · exact h3 e (List.mem_of_getElem? (i := i - 128) (by rw [List.getElem?_take_of_lt (by omega), List.getElem?_drop, show 128 + (i - 128) = i by omega]; exact hi))
  · intro h
    exact ⟨fun e he => h e (List.mem_of_mem_take he), fun e he => h e (List.mem_of_mem_drop (List.mem_of_mem_take he)), fun e he => h e (List.mem_of_mem_drop (List.mem_of_mem_take he))⟩
end Go.Proofs.YtiinlplgloaanaaGreatDoor

/- Plain maths of chapter 7: no tiling comes twice; there are no more of them than nodes. -/
namespace Go.Proofs.YtiinlplgloaanaaGreatDoor
set_option linter.all false
set_option linter.unusedSimpArgs false
set_option linter.unusedVariables false
open Go.RowKit

/-! ### No tiling comes twice, and there are no more of them than nodes -/
theorem loopT_le {rec : List Pc → Nat × List (List Pc)} (hr : ∀ c, (rec c).2.length ≤ (rec c).1) : ∀ {cs : List (List Pc)} {n : Nat} {l : List (List Pc)}, l.length ≤ n → (loopT rec cs n l).2.length ≤ (loopT rec cs n l).1
  | [], _, _, h => h
  | c :: cs, n, l, h => by
    have hc := hr c
    unfold loopT
    split
    · simp only [List.length_append]; omega
    · exact loopT_le hr (by rw [List.length_append]; omega)
theorem search_le (t : Tk) : ∀ (f : Nat) (s : List Pc), (searchT t f s).2.length ≤ (searchT t f s).1
  | 0, s => by
    unfold searchT
    simp only
    split
    · split <;> simp
    · simp
  | f + 1, s => by
    unfold searchT
    split
    · simp only; split <;> simp
    · exact loopT_le (search_le t f) (by simp)
end Go.Proofs.YtiinlplgloaanaaGreatDoor

/- Plain maths of chapter 7: the keys of tilings. -/
namespace Go.Proofs.YtiinlplgloaanaaGreatDoor
set_option linter.all false
set_option linter.unusedSimpArgs false
set_option linter.unusedVariables false
open Go.RowKit

/-! ### Keys tell tilings apart -/
theorem insB_perm (x : List UInt8) : ∀ l : List (List UInt8), (insB x l).Perm (x :: l)
  | [] => List.Perm.refl _
  | y :: l => by
    unfold insB
    split
    · exact List.Perm.refl _
    · exact ((insB_perm x l).cons y).trans (List.Perm.swap x y l)
theorem sortB_perm : ∀ l : List (List UInt8), (sortB l).Perm l
  | [] => List.Perm.refl _
  | x :: l => by
    unfold sortB
    rw [List.foldr_cons]
    exact (insB_perm x _).trans ((sortB_perm l).cons x)
/-! ### How many are unlike -/
end Go.Proofs.YtiinlplgloaanaaGreatDoor

/- Plain maths of chapter 7: all tilings are at most eight times as many as the unlike ones. -/
namespace Go.Proofs.YtiinlplgloaanaaGreatDoor
set_option linter.all false
set_option linter.unusedSimpArgs false
set_option linter.unusedVariables false
open Go.RowKit

/-! ### All tilings are at most eight times as many as the unlike ones -/
/-- The first way leaves each quarter where it is. -/
theorem way_zero {g : List Q} (hn : g.Nodup) : wayT g 0 = some (List.range g.length) := by
  unfold wayT
  have e : (g.map (tr (decide (4 ≤ 0)) (0 % 4))) = g := by
    have : tr (decide (4 ≤ 0)) (0 % 4) = id := by funext q; rfl
    rw [this, List.map_id]
  rw [e]
  have hs : ∀ q : Q, sh (leftL g - leftL g) (lowL g - lowL g) q = q := fun q => by
    rw [Int.sub_self, Int.sub_self]; exact sh_zero q
  have : ∀ l : List Q, ∀ k : Nat, (∀ i q, l[i]? = some q → g[k + i]? = some q) → l.mapM (fun q => g.findIdx? fun r => decide (r = sh (leftL g - leftL g) (lowL g - lowL g) q)) = some (List.range' k l.length) := by
    intro l
    induction l with
    | nil => intro k _; rfl
    | cons q l ih =>
      intro k h
      have h0 := h 0 q rfl
      rw [Nat.add_zero] at h0
      obtain ⟨hk, hkq⟩ := List.getElem?_eq_some_iff.1 h0
      have hf : (g.findIdx? fun r => decide (r = sh (leftL g - leftL g) (lowL g - lowL g) q)) = some k := by
        rw [hs, List.findIdx?_eq_some_iff_getElem]
        refine ⟨hk, by simpa using hkq, fun j hj => ?_⟩
        simp only [decide_eq_true_eq]
        intro e
        have := (List.getElem_inj hn).1 (e.trans hkq.symm)
        omega
      rw [List.mapM_cons, hf, ih (k + 1) (fun i r hr => by have := h (i + 1) r (by simpa using hr); rwa [show k + 1 + i = k + (i + 1) by omega])]
      rfl
  have h := this g 0 (fun i q h => by simpa using h)
  rw [h, List.range_eq_range']
theorem ways_first {g : List Q} (hn : g.Nodup) : (waysT g).headD [] = List.range g.length ∧ List.range g.length ∈ waysT g ∧ (waysT g).length ≤ 8 := by
  unfold waysT
  have e : List.range 8 = 0 :: [1, 2, 3, 4, 5, 6, 7] := by decide
  rw [e, List.filterMap_cons, way_zero hn]
  refine ⟨rfl, by simp, ?_⟩
  simp only [List.length_cons]
  have := List.length_filterMap_le (wayT g) [1, 2, 3, 4, 5, 6, 7]
  simp only [List.length_cons, List.length_nil] at this
  omega
end Go.Proofs.YtiinlplgloaanaaGreatDoor
