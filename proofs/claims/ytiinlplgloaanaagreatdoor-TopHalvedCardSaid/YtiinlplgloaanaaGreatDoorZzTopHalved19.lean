/- knownTilings; and a count of one task with one kind of brick. -/
import Derived.Test.YtiinlplgloaanaaGreatDoorZzTopHalved10
import Derived.Test.YtiinlplgloaanaaGreatDoorZzTopHalved18
import Derived.Test.YtiinlplgloaanaaGreatDoorZzTopHalved08
import Derived.Test.YtiinlplgloaanaaGreatDoorZzTopHalved15
import Derived.Test.YtiinlplgloaanaaGreatDoorZzTopHalved16
import Derived.Test.YtiinlplgloaanaaGreatDoorZzTopHalved00
import Derived.Test.YtiinlplgloaanaaGreatDoorZzTopHalved02
import Derived.Test.YtiinlplgloaanaaGreatDoorZzTopHalved17

/- A region that draws its order and holds two chains of operations that change memory, each in its own order. -/
namespace Go.Proofs.YtiinlplgloaanaaGreatDoor
set_option linter.all false
set_option linter.unusedSimpArgs false
set_option linter.unusedVariables false
open Go.RowKit
attribute [local go_sem] Oper.semAt_some

/-- What is known when the operations L are done: ka, kb are those that change memory, each list in its order; c: the values of the others; St n m: what holds behind n of the first chain and m of the second. -/
structure TwoCh (ka kb : List Nat) (c : Nat → Option Value) (St : Nat → Nat → (Nat → Value) → World → Prop) (L : Nat → Bool) (vals : Nat → Value) (W : World) : Prop where
  pure_ : ∀ i v, c i = some v → L i = true → vals i = v
  chain : ∃ n m, n ≤ ka.length ∧ m ≤ kb.length ∧ (∀ (i k : Nat), ka[i]? = some k → (L k = true ↔ i < n)) ∧ (∀ (i k : Nat), kb[i]? = some k → (L k = true ↔ i < m)) ∧ St n m vals W
section
variable {ka kb : List Nat} {c : Nat → Option Value} {St : Nat → Nat → (Nat → Value) → World → Prop} {L : Nat → Bool} {vals : Nat → Value} {W W' : World}
theorem TwoCh.start (h : ∀ v, St 0 0 v W) (v : Nat → Value) : TwoCh ka kb c St (fun _ => false) v W := ⟨fun _ _ _ h => by simp at h, 0, 0, Nat.zero_le _, Nat.zero_le _, fun _ _ _ => by simp, fun _ _ _ => by simp, h v⟩
theorem TwoCh.other (h : TwoCh ka kb c St L vals W) (hSt : ∀ n m v v' W, (∀ i, (i ∈ ka ∨ i ∈ kb) → v i = v' i) → St n m v W → St n m v' W) {i : Nat} {v : Value} (hi : i ∉ ka ∧ i ∉ kb) (hv : c i = some v) : TwoCh ka kb c St (fun j => L j || j == i) (fun j => if j = i then v else vals j) W := by
  obtain ⟨h1, n, m, h2, h2', h3, h3', h4⟩ := h
  have hk : ∀ (l : List Nat), i ∉ l → ∀ (n : Nat), (∀ (j k : Nat), l[j]? = some k → (L k = true ↔ j < n)) → ∀ (j k : Nat), l[j]? = some k → ((L k || k == i) = true ↔ j < n) := fun l hl n h j k hk => by
    have : (k == i) = false := by simp only [beq_eq_false_iff_ne, ne_eq]; exact fun e => hl (e ▸ List.mem_of_getElem? hk)
    rw [this, Bool.or_false]; exact h j k hk
  refine ⟨fun j u hj hl => ?_, n, m, h2, h2', hk ka hi.1 n h3, hk kb hi.2 m h3', hSt n m vals _ W (fun j hj => (if_neg (fun (e : j = i) => ?_)).symm) h4⟩
  · by_cases e : j = i
    · subst e; rw [if_pos rfl]; rw [hv] at hj; exact Option.some.inj hj
    · rw [if_neg e]; exact h1 j u hj (by simpa [e] using hl)
  · subst e; exact hj.elim hi.1 hi.2
theorem chain_at {ks : List Nat} {L : Nat → Bool} {m : Nat} (h3 : ∀ (i k : Nat), ks[i]? = some k → (L k = true ↔ i < m)) (hm : m ≤ ks.length) (n : Nat) (h1 : ∀ k, 0 < n → ks[n - 1]? = some k → L k = true) (h0 : n ≤ ks.length) (h2 : ∀ k, ks[n]? = some k → L k = false) : n = m := by
  have hle : n ≤ m := by
    rcases Nat.eq_zero_or_pos n with h | h
    · omega
    · obtain ⟨k, hk⟩ : ∃ k, ks[n - 1]? = some k := ⟨_, List.getElem?_eq_getElem (by omega)⟩
      have := (h3 _ k hk).1 (h1 k h hk)
      omega
  have hge : m ≤ n := by
    by_cases hl : n < ks.length
    · obtain ⟨k, hk⟩ : ∃ k, ks[n]? = some k := ⟨_, List.getElem?_eq_getElem hl⟩
      have h5 := h2 k hk
      have h6 := h3 n k hk
      rw [h5] at h6
      simp at h6; omega
    · omega
  omega
theorem chain_up {ks : List Nat} {L : Nat → Bool} {n k : Nat} (hn : ks.Nodup) (h3 : ∀ (i k : Nat), ks[i]? = some k → (L k = true ↔ i < n)) (hk : ks[n]? = some k) : ∀ (j k' : Nat), ks[j]? = some k' → ((L k' || k' == k) = true ↔ j < n + 1) := by
  intro j k' hj
  by_cases e : k' = k
  · subst e
    have hjn : j = n := by
      obtain ⟨l1, e1⟩ := List.getElem?_eq_some_iff.1 hk
      obtain ⟨l2, e2⟩ := List.getElem?_eq_some_iff.1 hj
      exact (List.getElem_inj hn).1 (e2.trans e1.symm)
    subst hjn
    simp
  · have : (k' == k) = false := by simp only [beq_eq_false_iff_ne, ne_eq]; exact e
    rw [this, Bool.or_false, h3 j k' hj]
    constructor
    · omega
    · intro hlt'
      rcases Nat.lt_or_ge j n with h | h
      · exact h
      · obtain rfl : j = n := by omega
        rw [hk] at hj; cases hj; exact absurd rfl e
theorem chain_other {ks : List Nat} {L : Nat → Bool} {n k : Nat} (hk : k ∉ ks) (h3 : ∀ (i k : Nat), ks[i]? = some k → (L k = true ↔ i < n)) : ∀ (j k' : Nat), ks[j]? = some k' → ((L k' || k' == k) = true ↔ j < n) := by
  intro j k' hj
  have : (k' == k) = false := by simp only [beq_eq_false_iff_ne, ne_eq]; exact fun e => hk (e ▸ List.mem_of_getElem? hj)
  rw [this, Bool.or_false, h3 j k' hj]
/-- The next operation of the first chain. -/
theorem TwoCh.stepA (h : TwoCh ka kb c St L vals W) (hn : ka.Nodup) (hc : ∀ k, (k ∈ ka ∨ k ∈ kb) → c k = none) {n k : Nat} (hk : ka[n]? = some k) (hkb : k ∉ kb) (h1 : ∀ j, 0 < n → ka[n - 1]? = some j → L j = true) (h2 : L k = false) {v : Value}
    (hs : ∀ m, St n m vals W → St (n + 1) m (fun j => if j = k then v else vals j) W') : TwoCh ka kb c St (fun j => L j || j == k) (fun j => if j = k then v else vals j) W' := by
  have hlt := (List.getElem?_eq_some_iff.1 hk).1
  obtain ⟨p1, n', m, hn', hm, h3, h3', h4⟩ := h
  obtain rfl := chain_at h3 hn' n h1 (by omega) (fun k' hk' => by rw [hk] at hk'; cases hk'; exact h2)
  refine ⟨fun j u hj hl => ?_, n + 1, m, by omega, hm, chain_up hn h3 hk, chain_other hkb h3', hs m h4⟩
  by_cases e : j = k
  · subst e; rw [hc j (.inl (List.mem_of_getElem? hk))] at hj; cases hj
  · rw [if_neg e]; exact p1 j u hj (by simpa [e] using hl)
/-- The next operation of the second chain. -/
theorem TwoCh.stepB (h : TwoCh ka kb c St L vals W) (hn : kb.Nodup) (hc : ∀ k, (k ∈ ka ∨ k ∈ kb) → c k = none) {n k : Nat} (hk : kb[n]? = some k) (hka : k ∉ ka) (h1 : ∀ j, 0 < n → kb[n - 1]? = some j → L j = true) (h2 : L k = false) {v : Value}
    (hs : ∀ m, St m n vals W → St m (n + 1) (fun j => if j = k then v else vals j) W') : TwoCh ka kb c St (fun j => L j || j == k) (fun j => if j = k then v else vals j) W' := by
  have hlt := (List.getElem?_eq_some_iff.1 hk).1
  obtain ⟨p1, m, n', hm, hn', h3', h3, h4⟩ := h
  obtain rfl := chain_at h3 hn' n h1 (by omega) (fun k' hk' => by rw [hk] at hk'; cases hk'; exact h2)
  refine ⟨fun j u hj hl => ?_, m, n + 1, hm, by omega, chain_other hka h3', chain_up hn h3 hk, hs m h4⟩
  by_cases e : j = k
  · subst e; rw [hc j (.inr (List.mem_of_getElem? hk))] at hj; cases hj
  · rw [if_neg e]; exact p1 j u hj (by simpa [e] using hl)
/-- What holds, where the first chain stands at n. -/
theorem TwoCh.atA (h : TwoCh ka kb c St L vals W) (n : Nat) (h1 : ∀ k, 0 < n → ka[n - 1]? = some k → L k = true) (h0 : n ≤ ka.length) (h2 : ∀ k, ka[n]? = some k → L k = false) : ∃ m, St n m vals W := by
  obtain ⟨_, n', m, hn', hm, h3, h3', h4⟩ := h
  obtain rfl := chain_at h3 hn' n h1 h0 h2
  exact ⟨m, h4⟩
theorem TwoCh.atB (h : TwoCh ka kb c St L vals W) (n : Nat) (h1 : ∀ k, 0 < n → kb[n - 1]? = some k → L k = true) (h0 : n ≤ kb.length) (h2 : ∀ k, kb[n]? = some k → L k = false) : ∃ m, St m n vals W := by
  obtain ⟨_, m, n', hm, hn', h3', h3, h4⟩ := h
  obtain rfl := chain_at h3 hn' n h1 h0 h2
  exact ⟨m, h4⟩
theorem TwoCh.both (h : TwoCh ka kb c St L vals W) (ha : ∀ k ∈ ka, L k = true) (hb : ∀ k ∈ kb, L k = true) : St ka.length kb.length vals W := by
  obtain ⟨_, n, m, hn, hm, h3, h3', h4⟩ := h
  obtain rfl := chain_at h3 hn ka.length (fun k _ hk => ha k (List.mem_of_getElem? hk)) (Nat.le_refl _) (fun k hk => by simp at hk)
  obtain rfl := chain_at h3' hm kb.length (fun k _ hk => hb k (List.mem_of_getElem? hk)) (Nat.le_refl _) (fun k hk => by simp at hk)
  exact h4
end
end Go.Proofs.YtiinlplgloaanaaGreatDoor

/- Beside linkTask: names, the two chains of the region in which the task grows. -/
namespace Go.Proofs.YtiinlplgloaanaaGreatDoor
set_option linter.all false
set_option linter.unusedSimpArgs false
set_option linter.unusedVariables false
open Go.RowKit
attribute [local go_sem] Oper.semAt_some

def RU : REnc Nat := ⟨5, 1, fun n => [.int .u8 n], fun _ => rfl, fun s u h => by simp at h; subst h; rfl⟩
def namesL : List ByteArray := [⟨#[115, 113, 117, 97, 114, 101]⟩, ⟨#[111, 98, 108, 111, 110, 103]⟩, ⟨#[104, 97, 108, 102]⟩, ⟨#[116, 114, 105, 97, 110, 103, 108, 101]⟩, ⟨#[98, 101, 110, 116]⟩, ⟨#[113, 117, 97, 114, 116, 101, 114]⟩, ⟨#[103, 114, 101, 97, 116]⟩, ⟨#[100, 105, 97, 109, 111, 110, 100]⟩]
def nameN (k : Nat) : ByteArray := namesL.getD (k % 8) ⟨#[]⟩
def shapeN (k : Nat) : List Q := (kindC (nameN k)).1
theorem names_ok (k : Nat) : (kindC (nameN k)).2 = 0 := by
  have h : ∀ i, i < 8 → (kindC (namesL.getD i ⟨#[]⟩)).2 = 0 := by decide +kernel
  exact h _ (Nat.mod_lt _ (by decide))
def namesA : Array Value := (namesL.map Value.string).toArray
theorem names_get (k : Nat) : namesA[k % 8]? = some (.string (nameN k)) := by
  have h : ∀ i, i < 8 → namesA[i]? = some (.string (namesL.getD i ⟨#[]⟩)) := by
    intro i hi
    rcases (by omega : i = 0 ∨ i = 1 ∨ i = 2 ∨ i = 3 ∨ i = 4 ∨ i = 5 ∨ i = 6 ∨ i = 7) with rfl | rfl | rfl | rfl | rfl | rfl | rfl | rfl <;> rfl
  exact h _ (Nat.mod_lt _ (by decide))
def numN (ks cs : List Nat) : Nat := min (min ks.length cs.length) 4
/-- The task of a ground, and of kinds and counts that are bytes. -/
def linkT (g : List Q) (ks cs : List Nat) : Tk := ⟨g, (ks.take (numN ks cs)).map shapeN, (cs.take (numN ks cs)).map fun c => ((c % 8 : Nat) : Int), [], []⟩
def zeroTask : Array Value := #[.slice none 0 0, .slice none 0 0, .slice none 0 0, .slice none 0 0, .slice none 0 0]
theorem sizeTask : (Tryz.prog.info? 34).map (·.size) = some 5 := by kernel_rfl
theorem lu_rem8 {P : Program} {next : Value → World → Prop} {o : Oper} {x : Operand} {T T2 : TypeId} (hop : o.op = .binOp .rem T x (.const (.int .u8 8)) T2) {b : Act} {W : World} {c : Nat} (hx : b.eval x = .int .u8 c) (hn : next (.int .u8 (c % 8 : Nat)) W) : loudUpon P next ((execOp b.eval o).run P W) := by
  refine lu_value (W' := W) (v := .int .u8 (c % 8 : Nat)) ?_ hn
  unfold execOp
  simp only [hop, hx]
  have h1 : (c : Int).tmod 8 = c % 8 := Int.tmod_eq_emod_of_nonneg (by omega)
  simp [go_sem, h1]
theorem lu_conv8 {next : Value → World → Prop} {o : Oper} {x : Operand} (hop : o.op = .convert 5 3 x) {b : Act} {W : World} {c : Nat} (hx : b.eval x = .int .u8 c) (hc : c < 256) (hn : next (.int .i64 c) W) : loudUpon Tryz.prog next ((execOp b.eval o).run Tryz.prog W) := by
  refine lu_value (W' := W) (v := .int .i64 c) ?_ hn
  unfold execOp
  simp only [hop, hx]
  have h1 : IntKind.i64.wrap (c : Int) = c := by rw [IntKind.wrap_i64]; omega
  simp [go_sem, h1]
/-- What the pure operations of the growing region hold. -/
def cvL (tb i n2 : Nat) (c2 : Addr) (cc : Nat) (u vk vc : Value) (c : Nat) : Nat → Option Value
  | 0 => some (.pointer (some ⟨tb, 1, none⟩))
  | 1 => some vk
  | 2 => some u
  | 5 => some (.pointer (some ⟨tb, 2, none⟩))
  | 6 => some vc
  | 7 => some (.slice (some c2) n2 cc)
  | 8 => some (.int .i64 i)
  | 9 => some (.pointer (some (c2.add i)))
  | 10 => some (.int .u8 c)
  | 11 => some (.int .u8 (c % 8 : Nat))
  | 12 => some (.int .i64 (c % 8 : Nat))
  | 15 => some (.pointer (some ⟨tb, 1, none⟩))
  | 17 => some (.pointer (some ⟨tb, 2, none⟩))
  | _ => none
theorem index_u8 (W : World) (a : Addr) {i n c : Nat} (hi : i < n) : (Instr.indexAt 37 (.slice (some a) n c) (.int .i64 i)).run Tryz.prog W = .ok (.pointer (some (a.add i))) W := by
  have h1 : (0 : Int) ≤ i ∧ (i : Int) < n := by omega
  simp [go_sem, h1]
/-- What stays in linkTask. -/
structure LkC (w : World) (tb nb : Nat) (vg : Value) (us : List Value) (ls : List (List Q)) (g : List Q) (W : World) : Prop where
  names : W.heap[nb]? = some (.cells namesA 9 (0, 0))
  zero : W.heap[w.heap.size]? = some (.cells zeroTask 34 (0, 0))
  ground : OwnQ W w.heap.size vg g
  each : ∀ (i : Nat) (x : Value) (m : List Q), us[i]? = some x → ls[i]? = some m → OwnQ W w.heap.size x m
  below : Below w.heap.size w W
theorem LkC.move {w W W' : World} {tb nb : Nat} {vg : Value} {us : List Value} {ls : List (List Q)} {g : List Q} (h : LkC w tb nb vg us ls g W) (ht : w.heap.size ≠ tb)
    (e : ∀ (k : Nat) (cs : Array Value) (T : TypeId), (T = 9 ∨ T = 56 ∨ (T = 34 ∧ k ≠ tb)) → W.heap[k]? = some (.cells cs T (0, 0)) → W'.heap[k]? = W.heap[k]?) (hb : Below w.heap.size w W') : LkC w tb nb vg us ls g W' := by
  have hq : ∀ x m, OwnQ W w.heap.size x m → OwnQ W' w.heap.size x m := fun x m hx => owns_move hx fun k hk => by
    obtain ⟨_, _, cs, hc⟩ := owns_lt hx hk
    exact e k cs _ (.inr (.inl rfl)) hc
  exact ⟨(e _ _ _ (.inl rfl) h.names).trans h.names, (e _ _ _ (.inr (.inr ⟨rfl, ht⟩)) h.zero).trans h.zero, hq _ _ h.ground, fun i x m hx hm => hq _ _ (h.each i x m hx hm), hb⟩
/-- The task's cells: the two that change. -/
def tkA (vg y1 y2 : Value) : Array Value := #[vg, y1, y2, .slice none 0 0, .slice none 0 0]
structure stL (w : World) (tb nb : Nat) (vg vk vc u : Value) (us : List Value) (ls : List (List Q)) (l : List Q) (g : List Q) (cs : List Int) (cn : Nat) (n m : Nat) (v : Nat → Value) (W : World) : Prop where
  cm : LkC w tb nb vg (us ++ [u]) (ls ++ [l]) g W
  tk : W.heap[tb]? = some (.cells (tkA vg (if n ≤ 2 then vk else v 4) (if m ≤ 2 then vc else v 14)) 34 (0, 0))
  ne : w.heap.size < tb
  A0 : n ≤ 1 → W.ownsRow w.heap.size 22 1 vk us.length us
  A1 : n = 1 → ∃ gn, v 3 = .slice (some ⟨gn, 0, none⟩) 1 1 ∧ W.heap[gn]? = some (.cells ([u] : List Value).toArray 22 (0, 0))
  A2 : 2 ≤ n → W.ownsRow w.heap.size 22 1 (v 4) (us.length + 1) (us ++ [u])
  B0 : m ≤ 1 → RI.Own W w.heap.size vc cs
  B1 : m = 1 → ∃ gn, v 13 = .slice (some ⟨gn, 0, none⟩) 1 1 ∧ W.heap[gn]? = some (.cells ([.int .i64 cn] : List Value).toArray 3 (0, 0))
  B2 : 2 ≤ m → RI.Own W w.heap.size (v 14) (cs ++ [(cn : Int)])
section
variable {w W W' : World} {tb nb : Nat} {vg vk vc u : Value} {us : List Value} {ls : List (List Q)} {l g : List Q} {cs : List Int} {cn n m : Nat} {v : Nat → Value}
theorem stL.a0 (h : stL w tb nb vg vk vc u us ls l g cs cn 1 m v W) : W.ownsRow w.heap.size 22 1 vk us.length us := h.A0 (Nat.le_refl _)
theorem stL.a1 (h : stL w tb nb vg vk vc u us ls l g cs cn 1 m v W) : ∃ gn, v 3 = .slice (some ⟨gn, 0, none⟩) 1 1 ∧ W.heap[gn]? = some (.cells ([u] : List Value).toArray 22 (0, 0)) := h.A1 rfl
theorem stL.a2 (h : stL w tb nb vg vk vc u us ls l g cs cn 2 m v W) : W.ownsRow w.heap.size 22 1 (v 4) (us.length + 1) (us ++ [u]) := h.A2 (Nat.le_refl _)
theorem stL.b0 (h : stL w tb nb vg vk vc u us ls l g cs cn n 1 v W) : RI.Own W w.heap.size vc cs := h.B0 (Nat.le_refl _)
theorem stL.b1 (h : stL w tb nb vg vk vc u us ls l g cs cn n 1 v W) : ∃ gn, v 13 = .slice (some ⟨gn, 0, none⟩) 1 1 ∧ W.heap[gn]? = some (.cells ([.int .i64 cn] : List Value).toArray 3 (0, 0)) := h.B1 rfl
theorem stL.b2 (h : stL w tb nb vg vk vc u us ls l g cs cn n 2 v W) : RI.Own W w.heap.size (v 14) (cs ++ [(cn : Int)]) := h.B2 (Nat.le_refl _)
theorem stL.task2 (h : stL w tb nb vg vk vc u us ls l g cs cn n m v W) (hn : n ≤ 2) : ∃ y2, W.heap[tb]? = some (.cells (tkA vg vk y2) 34 (0, 0)) := ⟨_, by have := h.tk; rwa [if_pos hn] at this⟩
theorem stL.task1 (h : stL w tb nb vg vk vc u us ls l g cs cn n m v W) (hm : m ≤ 2) : ∃ y1, W.heap[tb]? = some (.cells (tkA vg y1 vc) 34 (0, 0)) := ⟨_, by have := h.tk; rwa [if_pos hm] at this⟩
theorem stL.vals (h : stL w tb nb vg vk vc u us ls l g cs cn n m v W) {v' : Nat → Value} (e : ∀ i, (i ∈ [3, 4, 16] ∨ i ∈ [13, 14, 18]) → v i = v' i) : stL w tb nb vg vk vc u us ls l g cs cn n m v' W := by
  have h3 := e 3 (.inl (by decide))
  have h4 := e 4 (.inl (by decide))
  have h13 := e 13 (.inr (by decide))
  have h14 := e 14 (.inr (by decide))
  exact ⟨h.cm, h4 ▸ h14 ▸ h.tk, h.ne, h.A0, fun hn => h3 ▸ h.A1 hn, fun hn => h4 ▸ h.A2 hn, h.B0, fun hm => h13 ▸ h.B1 hm, fun hm => h14 ▸ h.B2 hm⟩
/-- All blocks stay. -/
theorem stL.keep (h : stL w tb nb vg vk vc u us ls l g cs cn n m v W) (e : Below W.heap.size W W') : stL w tb nb vg vk vc u us ls l g cs cn n m v W' := by
  have hk : ∀ (k : Nat) (o : Obj), W.heap[k]? = some o → W'.heap[k]? = some o := fun k o ho => (e.block k (Array.getElem?_eq_some_iff.1 ho).1).trans ho
  refine ⟨h.cm.move (by have := h.ne; omega) (fun k cs T _ hc => (hk k _ hc).trans hc.symm) (h.cm.below.trans (e.mono h.cm.below.size)), hk _ _ h.tk, h.ne, fun hn => owns_below (h.A0 hn) e, fun hn => ?_, fun hn => owns_below (h.A2 hn) e, fun hm => owns_below (h.B0 hm) e, fun hm => ?_, fun hm => owns_below (h.B2 hm) e⟩
  · obtain ⟨gn, h1, h2⟩ := h.A1 hn; exact ⟨gn, h1, hk _ _ h2⟩
  · obtain ⟨gn, h1, h2⟩ := h.B1 hm; exact ⟨gn, h1, hk _ _ h2⟩
theorem stL.buildA (h : stL w tb nb vg vk vc u us ls l g cs cn 0 m v W) : stL w tb nb vg vk vc u us ls l g cs cn (0 + 1) m (fun j => if j = 3 then .slice (some ⟨W.heap.size, 0, none⟩) 1 1 else v j) (W.alloc (.cells ([u] : List Value).toArray 22)) := by
  have h' := h.keep ((Below.refl _ W).alloc (Nat.le_refl _) (.cells ([u] : List Value).toArray 22))
  exact ⟨h'.cm, h'.tk, h'.ne, fun _ => h'.A0 (by omega), fun _ => ⟨W.heap.size, rfl, World.alloc_heap_new W _⟩, fun hn => absurd hn (by omega), h'.B0, h'.B1, h'.B2⟩
theorem stL.buildB (h : stL w tb nb vg vk vc u us ls l g cs cn n 0 v W) : stL w tb nb vg vk vc u us ls l g cs cn n (0 + 1) (fun j => if j = 13 then .slice (some ⟨W.heap.size, 0, none⟩) 1 1 else v j) (W.alloc (.cells ([.int .i64 cn] : List Value).toArray 3)) := by
  have h' := h.keep ((Below.refl _ W).alloc (Nat.le_refl _) (.cells ([.int .i64 cn] : List Value).toArray 3))
  exact ⟨h'.cm, h'.tk, h'.ne, h'.A0, h'.A1, h'.A2, fun _ => h'.B0 (by omega), fun _ => ⟨W.heap.size, rfl, World.alloc_heap_new W _⟩, fun hn => absurd hn (by omega)⟩
/-- Blocks of another type stay where a row grows. -/
theorem grown_type {T0 : TypeId} {x : Value} {n0 k : Nat} {xs : List Value} {size base : Nat} (ho : W.ownsRow base T0 size x n0 xs) (hg : W.grownBy W' x.ownBlock) {cs : Array Value} {T : TypeId} (hT : T ≠ T0) (hc : W.heap[k]? = some (.cells cs T (0, 0))) : W'.heap[k]? = W.heap[k]? :=
  hg.block k (Array.getElem?_eq_some_iff.1 hc).1 fun e => by
    obtain ⟨_, _, cs2, hc2⟩ := owns_lt ho e.symm
    rw [hc] at hc2
    simp only [Option.some.injEq, Obj.cells.injEq] at hc2
    exact hT hc2.2.1
theorem stL.appendA {x : Value} (h : stL w tb nb vg vk vc u us ls l g cs cn 1 m v W) (hg : W.grownBy W' vk.ownBlock) (ho : W'.ownsRow w.heap.size 22 1 x (us.length + 1) (us ++ [u])) : stL w tb nb vg vk vc u us ls l g cs cn (1 + 1) m (fun j => if j = 4 then x else v j) W' := by
  have hk : ∀ (k : Nat) (cs : Array Value) (T : TypeId), T ≠ 22 → W.heap[k]? = some (.cells cs T (0, 0)) → W'.heap[k]? = W.heap[k]? := fun k cs T hT hc => grown_type h.a0 hg hT hc
  have hB : Below w.heap.size w W' := h.cm.below.grown hg h.cm.below.size fun b e => (owns_lt h.a0 e).1
  refine ⟨h.cm.move (by have := h.ne; omega) (fun k cs T hT hc => hk k cs T (by rcases hT with rfl | rfl | ⟨rfl, _⟩ <;> decide) hc) hB, (hk _ _ _ (by decide) h.tk).trans h.tk, h.ne, fun hn => absurd hn (by omega), fun hn => absurd hn (by omega), fun _ => ho, fun hm => ?_, fun hm => ?_, fun hm => ?_⟩
  · exact owns_move (h.B0 hm) fun k e => by obtain ⟨_, _, cs, hc⟩ := owns_lt (h.B0 hm) e; exact hk k cs _ (by decide) hc
  · obtain ⟨gn, h1, h2⟩ := h.B1 hm; exact ⟨gn, h1, (hk _ _ _ (by decide) h2).trans h2⟩
  · exact owns_move (h.B2 hm) fun k e => by obtain ⟨_, _, cs, hc⟩ := owns_lt (h.B2 hm) e; exact hk k cs _ (by decide) hc
theorem stL.appendB {x : Value} (h : stL w tb nb vg vk vc u us ls l g cs cn n 1 v W) (hg : W.grownBy W' vc.ownBlock) (ho : RI.Own W' w.heap.size x (cs ++ [(cn : Int)])) : stL w tb nb vg vk vc u us ls l g cs cn n (1 + 1) (fun j => if j = 14 then x else v j) W' := by
  have hk : ∀ (k : Nat) (cs : Array Value) (T : TypeId), T ≠ 3 → W.heap[k]? = some (.cells cs T (0, 0)) → W'.heap[k]? = W.heap[k]? := fun k cs T hT hc => grown_type h.b0 hg hT hc
  have hB : Below w.heap.size w W' := h.cm.below.grown hg h.cm.below.size fun b e => (owns_lt h.b0 e).1
  refine ⟨h.cm.move (by have := h.ne; omega) (fun k cs T hT hc => hk k cs T (by rcases hT with rfl | rfl | ⟨rfl, _⟩ <;> decide) hc) hB, (hk _ _ _ (by decide) h.tk).trans h.tk, h.ne, fun hn => ?_, fun hn => ?_, fun hn => ?_, fun hm => absurd hm (by omega), fun hm => absurd hm (by omega), fun _ => ho⟩
  · exact owns_move (h.A0 hn) fun k e => by obtain ⟨_, _, cs, hc⟩ := owns_lt (h.A0 hn) e; exact hk k cs _ (by decide) hc
  · obtain ⟨gn, h1, h2⟩ := h.A1 hn; exact ⟨gn, h1, (hk _ _ _ (by decide) h2).trans h2⟩
  · exact owns_move (h.A2 hn) fun k e => by obtain ⟨_, _, cs, hc⟩ := owns_lt (h.A2 hn) e; exact hk k cs _ (by decide) hc
theorem stL.storeA (h : stL w tb nb vg vk vc u us ls l g cs cn 2 m v W) : stL w tb nb vg vk vc u us ls l g cs cn (2 + 1) m (fun j => if j = 16 then undef else v j) (W.setCell ⟨tb, 1, none⟩ (v 4)) := by
  have hk : ∀ (k : Nat) (cs : Array Value) (T : TypeId), (T ≠ 34 ∨ k ≠ tb) → W.heap[k]? = some (.cells cs T (0, 0)) → (W.setCell ⟨tb, 1, none⟩ (v 4)).heap[k]? = W.heap[k]? := fun k cs T hT hc => heap_setCell_other _ _ _ _ fun e => by
    simp only at e
    subst e
    rw [h.tk] at hc
    simp only [Option.some.injEq, Obj.cells.injEq] at hc
    exact hT.elim (fun hT => hT hc.2.1.symm) fun hT => hT rfl
  have htk : (W.setCell ⟨tb, 1, none⟩ (v 4)).heap[tb]? = some (.cells (tkA vg (v 4) (if m ≤ 2 then vc else v 14)) 34 (0, 0)) := heap_setCell_same _ _ _ _ _ _ h.tk
  refine ⟨h.cm.move (by have := h.ne; omega) (fun k cs T hT hc => hk k cs T (by rcases hT with rfl | rfl | ⟨rfl, hT⟩; exact .inl (by decide); exact .inl (by decide); exact .inr hT) hc) (h.cm.below.setCell (by have := h.ne; simp only; omega) _), htk, h.ne, fun hn => absurd hn (by omega), fun hn => absurd hn (by omega), fun _ => ?_, fun hm => ?_, fun hm => ?_, fun hm => ?_⟩
  · exact owns_move h.a2 fun k e => by obtain ⟨_, _, cs, hc⟩ := owns_lt h.a2 e; exact hk k cs _ (.inl (by decide)) hc
  · exact owns_move (h.B0 hm) fun k e => by obtain ⟨_, _, cs, hc⟩ := owns_lt (h.B0 hm) e; exact hk k cs _ (.inl (by decide)) hc
  · obtain ⟨gn, h1, h2⟩ := h.B1 hm; exact ⟨gn, h1, (hk _ _ _ (.inl (by decide)) h2).trans h2⟩
  · exact owns_move (h.B2 hm) fun k e => by obtain ⟨_, _, cs, hc⟩ := owns_lt (h.B2 hm) e; exact hk k cs _ (.inl (by decide)) hc
theorem stL.storeB (h : stL w tb nb vg vk vc u us ls l g cs cn n 2 v W) : stL w tb nb vg vk vc u us ls l g cs cn n (2 + 1) (fun j => if j = 18 then undef else v j) (W.setCell ⟨tb, 2, none⟩ (v 14)) := by
  have hk : ∀ (k : Nat) (cs : Array Value) (T : TypeId), (T ≠ 34 ∨ k ≠ tb) → W.heap[k]? = some (.cells cs T (0, 0)) → (W.setCell ⟨tb, 2, none⟩ (v 14)).heap[k]? = W.heap[k]? := fun k cs T hT hc => heap_setCell_other _ _ _ _ fun e => by
    simp only at e
    subst e
    rw [h.tk] at hc
    simp only [Option.some.injEq, Obj.cells.injEq] at hc
    exact hT.elim (fun hT => hT hc.2.1.symm) fun hT => hT rfl
  have htk : (W.setCell ⟨tb, 2, none⟩ (v 14)).heap[tb]? = some (.cells (tkA vg (if n ≤ 2 then vk else v 4) (v 14)) 34 (0, 0)) := heap_setCell_same _ _ _ _ _ _ h.tk
  refine ⟨h.cm.move (by have := h.ne; omega) (fun k cs T hT hc => hk k cs T (by rcases hT with rfl | rfl | ⟨rfl, hT⟩; exact .inl (by decide); exact .inl (by decide); exact .inr hT) hc) (h.cm.below.setCell (by have := h.ne; simp only; omega) _), htk, h.ne, fun hn => ?_, fun hn => ?_, fun hn => ?_, fun hm => absurd hm (by omega), fun hm => absurd hm (by omega), fun _ => ?_⟩
  · exact owns_move (h.A0 hn) fun k e => by obtain ⟨_, _, cs, hc⟩ := owns_lt (h.A0 hn) e; exact hk k cs _ (.inl (by decide)) hc
  · obtain ⟨gn, h1, h2⟩ := h.A1 hn; exact ⟨gn, h1, (hk _ _ _ (.inl (by decide)) h2).trans h2⟩
  · exact owns_move (h.A2 hn) fun k e => by obtain ⟨_, _, cs, hc⟩ := owns_lt (h.A2 hn) e; exact hk k cs _ (.inl (by decide)) hc
  · exact owns_move h.b2 fun k e => by obtain ⟨_, _, cs, hc⟩ := owns_lt h.b2 e; exact hk k cs _ (.inl (by decide)) hc
end
theorem wpList_append_is {P : Program} {w : World} {ops : Array Oper} {rest : List Oper} {o : Oper} {a : Act} {Q : Exit → Act → World → Prop} (hgd : o.guard = none) (s x : Operand) (t : TypeId)
    (ho : o.op = .call { callee := .builtin .append, args := #[s, x], argTypes := #[t, t] }) {u y v' : Value} {w' : World} (hs : a.eval s = u) (hx : a.eval x = y) (hr : (Builtin.append_ #[t, t] o.type #[u, y]).run P w = .ok v' w') (h : wpList P ops Q rest (a.put o.dst v') w') :
    wpList P ops Q (o :: rest) a w := by
  refine wpList_plain hgd fun K hK => ?_
  unfold Oper.wp execOp
  simp only [ho, resolve, invoke, builtin, Sem.run_bind, Sem.run_pure, Result.andThen_ok, List.map_toArray, List.map_cons, List.map_nil, hs, hx, hr]
  exact hK _ _ h
theorem run_append_nil (W : World) (b : Nat) : (Builtin.append_ #[22, 22] 22 #[.slice (some ⟨b, 0, none⟩) 0 0, .slice none 0 0]).run Tryz.prog W = .ok (.slice (some ⟨b, 0, none⟩) 0 0) W := by
  simp [Builtin.append_, go_sem]
end Go.Proofs.YtiinlplgloaanaaGreatDoor

/- linkTask: the ground, the shapes and the counts of a task, out of bytes (printed by mklink.py out of link.txt). -/
namespace Go.Proofs.YtiinlplgloaanaaGreatDoor
set_option linter.all false
set_option linter.unusedSimpArgs false
set_option linter.unusedVariables false
open Go.RowKit
attribute [local go_sem] Oper.semAt_some

set_option maxRecDepth 100000 in
set_option maxHeartbeats 16000000 in
theorem link_any {g : List Q} {ks cs : List Nat} (hl : g.length * 24 ≤ 140737488351232) (w : World) (v k c : Value) (hv : HasQ w v g) (hk : RU.Has w k ks) (hc : RU.Has w c cs) (h256 : ∀ x ∈ cs, x < 256) (hK : KindsAt w) (hsh : w.ShapedOpen Tryz.prog) :
    Calls Tryz.prog 12 #[v, k, c] w fun e w' => ∃ (vg vk vc : Value) (us : List Value), e = .returned (.tuple #[.agg #[vg, vk, vc, .slice none 0 0, .slice none 0 0], .bool (decide (g.length ≤ 48))]) ∧ OwnQ w' w.heap.size vg g ∧
      OwnQQ w' w.heap.size vk us (linkT g ks cs).kinds ∧ RI.Own w' w.heap.size vc (linkT g ks cs).counts ∧ Below w.heap.size w w' := by
  obtain ⟨gp, gc, rfl⟩ := hv.slice
  obtain ⟨kp, kc, rfl⟩ := hk.slice
  obtain ⟨cp, cc, rfl⟩ := hc.slice
  have HV := Lib.hid hv; clear hv
  have HK := Lib.hid hk; clear hk
  have HC := Lib.hid hc; clear hc
  have H256 := Lib.hid h256; clear h256
  have HKA := Lib.hid hK; clear hK
  have HSH := Lib.hid hsh; clear hsh
  generalize hpo : (fun (e : Ending) (w' : World) => ∃ (vg vk vc : Value) (us : List Value), e = .returned (.tuple #[.agg #[vg, vk, vc, .slice none 0 0, .slice none 0 0], .bool (decide (g.length ≤ 48))]) ∧ OwnQ w' w.heap.size vg g ∧
      OwnQQ w' w.heap.size vk us (linkT g ks cs).kinds ∧ RI.Own w' w.heap.size vc (linkT g ks cs).counts ∧ Below w.heap.size w w') = Po
  have HPO := Lib.hid hpo; clear hpo
  go_enter Tryz.func12, Tryz.ntmps12
  go_upto_region 2 with fail
  change Code.wp _ _ _ _ ((w.alloc (.cells zeroTask 34)).alloc (.cells namesA 9))
  have hz0 := World.alloc_heap_new w (.cells zeroTask 34)
  have hw1 : (w.alloc (.cells zeroTask 34)).heap.size = w.heap.size + 1 := World.size_alloc _ _
  have hz1 := heapO (.cells namesA 9) hz0
  have hn1 := World.alloc_heap_new (w.alloc (.cells zeroTask 34)) (.cells namesA 9)
  rw [hw1] at hn1
  have hB1 : Below w.heap.size w ((w.alloc (.cells zeroTask 34)).alloc (.cells namesA 9)) := ((Below.refl _ w).alloc (Nat.le_refl _) _).alloc (by omega) _
  have hs1 : ((w.alloc (.cells zeroTask 34)).alloc (.cells namesA 9)).heap.size = w.heap.size + 1 + 1 := by rw [World.size_alloc, hw1]
  clear hz0 hw1
  revert hz1 hn1 hB1 hs1
  generalize (w.alloc (.cells zeroTask 34)).alloc (.cells namesA 9) = w1
  intro hz1 hn1 hB1 hs1
  obtain ⟨iQ, hiQ, hzQ, hsQ, hbQ⟩ := info_parts infoQ
  have hown0 : (w1.alloc (.cells #[] 56)).ownsRow w.heap.size 56 3 (.slice (some ⟨w1.heap.size, 0, none⟩) 0 0) 0 [] := ⟨rfl, .inr ⟨w1.heap.size, 0, #[], rfl, hB1.size, World.alloc_heap_new w1 _, Nat.le_refl _, by decide, rfl, rfl⟩⟩
  obtain ⟨vg, W2, hap, hog, hgr⟩ : ∃ vg W2, (Builtin.append_ #[22, 22] 22 #[.slice (some ⟨w1.heap.size, 0, none⟩) 0 0, .slice gp g.length gc]).run Tryz.prog (w1.alloc (.cells #[] 56)) = .ok vg W2 ∧ OwnQ W2 w.heap.size vg g ∧ (w1.alloc (.cells #[] 56)).grownBy W2 (some w1.heap.size) := by
    rcases HV.out with ⟨h1, h2⟩ | ⟨a, cap, h1, h2, h3, h4⟩
    · subst h2
      simp only [Value.slice.injEq, List.length_nil, true_and] at h1
      obtain ⟨rfl, rfl⟩ := h1
      exact ⟨_, _, run_append_nil _ _, hown0, ⟨rfl, rfl, rfl, Nat.le_refl _, fun _ _ _ => rfl⟩⟩
    · simp only [Value.slice.injEq, true_and] at h1
      obtain ⟨rfl, rfl⟩ := h1
      obtain ⟨v', W', hr, ho, hg, _, _⟩ := run_append_own_at (P := Tryz.prog) (w1.alloc (.cells #[] 56)) w.heap.size 22 22 56 iQ _ 3 24 Tryz.underlying22 hiQ hzQ hsQ hbQ rfl (by decide) (.slice (some ⟨w1.heap.size, 0, none⟩) 0 0) 0 [] hown0 a g.length gc (qCells g) (qCells_length g) (qsAt_cells (h4.below (hB1.alloc hB1.size _))) (fun u hu => by
        obtain ⟨q, _, hq⟩ := List.mem_flatMap.1 hu
        exact qVals_one q u hq) (by simp only [maxLen]; omega) (by omega) (by rw [World.size_alloc]; have := hB1.size; omega)
      exact ⟨v', W', hr, by simpa using ho, hg⟩
  obtain ⟨vgp, vgc, rfl⟩ := own_slice hog
  have hal : Below w1.heap.size w1 (w1.alloc (.cells #[] 56)) := (Below.refl _ w1).alloc (Nat.le_refl _) _
  have hB2 : Below w.heap.size w W2 := (hB1.alloc hB1.size _).grown hgr (by rw [World.size_alloc]; have := hB1.size; omega) fun b e => by simp only [Option.some.injEq] at e; omega
  have hs2 : w.heap.size + 2 < W2.heap.size := by have h := hgr.size; rw [World.size_alloc] at h; omega
  have hz2 : W2.heap[w.heap.size]? = some (.cells zeroTask 34 (0, 0)) := (hgr.block _ (by rw [World.size_alloc]; omega) (by simp; omega)).trans (heapO _ hz1)
  have hn2 : W2.heap[w.heap.size + 1]? = some (.cells namesA 9 (0, 0)) := (hgr.block _ (by rw [World.size_alloc]; omega) (by simp; omega)).trans (heapO _ hn1)
  clear hz1 hn1 hB1 hs1 hown0 hgr hal hiQ hzQ hsQ hbQ
  have HOG := Lib.hid hog; clear hog
  have HF2 := Lib.hid (And.intro hz2 (And.intro hn2 (And.intro hB2 hs2))); clear hz2 hn2 hB2 hs2
  have HAP := Lib.hid hap; clear hap
  have hst : (Tryz.prog.info? 34).map (·.size) = some (tkA (.slice vgp g.length vgc) (.slice none 0 0) (.slice none 0 0)).size := sizeTask
  go_wp2_with (first
    | (at_builtin; refine wpList_append_is rfl _ _ 22 rfl rfl rfl HAP.out ?_)
    | (refine wpList_store_row rfl 34 _ _ rfl W2.heap.size rfl 34 _ (tkA (.slice vgp g.length vgc) (.slice none 0 0) (.slice none 0 0)) rfl (World.alloc_heap_new W2 _) hst rfl (by simp [tkA, Value.oneCell']) ?_; rw [World.setRow_alloc_new]))
  clear HAP hst
  have htk := World.alloc_heap_new W2 (.cells (tkA (.slice vgp g.length vgc) (.slice none 0 0) (.slice none 0 0)) 34)
  have hal : Below W2.heap.size W2 (W2.alloc (.cells (tkA (.slice vgp g.length vgc) (.slice none 0 0) (.slice none 0 0)) 34)) := (Below.refl _ W2).alloc (Nat.le_refl _) _
  have hcm : LkC w W2.heap.size (w.heap.size + 1) (.slice vgp g.length vgc) [] [] g (W2.alloc (.cells (tkA (.slice vgp g.length vgc) (.slice none 0 0) (.slice none 0 0)) 34)) :=
    ⟨heapO _ HF2.out.2.1, heapO _ HF2.out.1, HOG.out.below hal, fun i x m h => by simp at h, HF2.out.2.2.1.trans (hal.mono HF2.out.2.2.1.size)⟩
  have htb := HF2.out.2.2.2
  revert htk hcm htb
  clear hal HOG HF2 HV
  generalize W2.alloc (.cells (tkA (.slice vgp g.length vgc) (.slice none 0 0) (.slice none 0 0)) 34) = w3
  generalize W2.heap.size = tb
  intro htk hcm htb
  have HTK := Lib.hid htk; clear htk
  have HCM := Lib.hid hcm; clear hcm
  obtain ⟨nm, hnm⟩ : ∃ nm, numN ks cs = nm := ⟨_, rfl⟩
  have HNM := Lib.hid hnm; clear hnm
  go_loopw [10] (fun z wr => ∃ (i : Nat) (vk vc : Value) (us : List Value), i ≤ nm ∧ z = .int .i64 i ∧ Hid (LkC w tb (w.heap.size + 1) (.slice vgp g.length vgc) us ((ks.take i).map shapeN) g wr ∧ wr.heap[tb]? = some (.cells (tkA (.slice vgp g.length vgc) vk vc) 34 (0, 0)) ∧
    wr.ownsRow w.heap.size 22 1 vk us.length us ∧ us.length = i ∧ RI.Own wr w.heap.size vc ((cs.take i).map fun c => ((c % 8 : Nat) : Int)))) (fun z _ => nm - (intOf z).toNat)
  case atStart => exact ⟨0, .slice none 0 0, .slice none 0 0, [], Nat.zero_le _, rfl, Lib.hid ⟨HCM.out, HTK.out, World.ownsRow_nil _ _ _ _, rfl, RI.own_nil _ _⟩⟩
  case round =>
    obtain ⟨i, vk, vc, us, hi, rfl, HR⟩ := hrel
    have hnm := HNM.out
    unfold numN at hnm
    by_cases hlt : i < nm
    · have h1 : i < ks.length := by omega
      have h2 : i < cs.length := by omega
      have h3 : i < 4 := by omega
      clear hnm
      obtain ⟨k, hk⟩ : ∃ k, ks[i]? = some k := ⟨_, List.getElem?_eq_getElem h1⟩
      obtain ⟨c, hc⟩ : ∃ c, cs[i]? = some c := ⟨_, List.getElem?_eq_getElem h2⟩
      obtain ⟨k2, rfl, hka⟩ := (HK.out.below HR.out.1.below).at_ (by rintro e; rw [e] at hk; simp at hk)
      have c0 : wr.cell? (k2.add i) = some (.int .u8 k) := by
        have := hka.at_ i k hk 0 (.int .u8 k) rfl
        simpa [RU] using this
      have cn : wr.cell? ⟨w.heap.size + 1, k % 8, none⟩ = some (.string (nameN k)) := by
        have := names_get k
        simp only [World.cell?, HR.out.1.names]
        simpa using this
      have HKK := Lib.hid hk; clear hk
      have HCC := Lib.hid hc; clear hc
      have hrem : (k : Int).tmod 8 = k % 8 := Int.tmod_eq_emod_of_nonneg (by omega)
      go_wp2_with fail
      refine (Kind_own (nameN k) wr (HKA.out.below HR.out.1.below) (shaped_below HSH.out HR.out.1.below)).mono ?_
      rintro e W0 ⟨u, rfl, hou, hb0⟩
      rw [names_ok k]
      obtain ⟨up, uc, rfl⟩ := own_slice hou
      have hle : us.length = ((ks.take i).map shapeN).length := by rw [HR.out.2.2.2.1, List.length_map, List.length_take]; omega
      have hli : us.length = i := HR.out.2.2.2.1
      have hci : ((cs.take i).map fun c => ((c % 8 : Nat) : Int)).length = i := by rw [List.length_map, List.length_take]; omega
      have hE : LkC w tb (w.heap.size + 1) (.slice vgp g.length vgc) (us ++ [.slice up (shapeN k).length uc]) ((ks.take i).map shapeN ++ [shapeN k]) g W0 := by
        obtain ⟨q1, q2, q3, q4, q5⟩ := HR.out.1
        refine ⟨(hb0.block _ (Array.getElem?_eq_some_iff.1 q1).1).trans q1, (hb0.block _ (Array.getElem?_eq_some_iff.1 q2).1).trans q2, q3.below hb0, fun j x m hx hm => ?_, q5.trans (hb0.mono q5.size)⟩
        rcases snoc_get hx with hx1 | ⟨hj, rfl⟩
        · rcases snoc_get hm with hm1 | ⟨hj, rfl⟩
          · exact (q4 j x m hx1 hm1).below hb0
          · have := (List.getElem?_eq_some_iff.1 hx1).1
            omega
        · rcases snoc_get hm with hm1 | ⟨_, rfl⟩
          · have := (List.getElem?_eq_some_iff.1 hm1).1
            omega
          · exact hou.mono q5.size
      have hst0 : ∀ v, stL w tb (w.heap.size + 1) (.slice vgp g.length vgc) vk vc (.slice up (shapeN k).length uc) us ((ks.take i).map shapeN) (shapeN k) g ((cs.take i).map fun c => ((c % 8 : Nat) : Int)) (c % 8) 0 0 v W0 := fun v =>
        ⟨hE, (hb0.block _ (Array.getElem?_eq_some_iff.1 HR.out.2.1).1).trans HR.out.2.1, by omega, fun _ => owns_below HR.out.2.2.1 hb0, fun h => absurd h (by decide), fun h => absurd h (by decide), fun _ => owns_below HR.out.2.2.2.2 hb0, fun h => absurd h (by decide), fun h => absurd h (by decide)⟩
      have HST0 := Lib.hid hst0; clear hst0 hE hou hb0 c0 cn hka
      obtain ⟨ls, hls⟩ : ∃ ls, (ks.take i).map shapeN = ls := ⟨_, rfl⟩
      obtain ⟨ci, hcis⟩ : ∃ ci, (cs.take i).map (fun c => ((c % 8 : Nat) : Int)) = ci := ⟨_, rfl⟩
      obtain ⟨l, hll⟩ : ∃ l, shapeN k = l := ⟨_, rfl⟩
      have hll' : (kindC (nameN k)).1 = l := hll
      rw [hls, hcis, hll] at HST0
      rw [hcis] at hci
      rw [hll']
      have HLS := Lib.hid hls; clear hls
      have HCI := Lib.hid hcis; clear hcis
      have HLL := Lib.hid hll; clear hll hll'
      have HMA : Hid (us.length + 1 ≤ maxLen) := Lib.hid (by simp only [maxLen]; omega)
      have HMB : Hid ((us.length + 1) * 24 ≤ 140737488355328) := Lib.hid (by omega)
      have HMC : Hid (ci.length + 1 ≤ maxLen) := Lib.hid (by simp only [maxLen]; omega)
      have HMD : Hid ((ci.length + 1) * 8 ≤ 140737488355328) := Lib.hid (by omega)
      have HLI := Lib.hid hli; clear hli hci hle hrem
      have HC8 : Hid (c % 8 < 256) := Lib.hid (by omega)
      obtain ⟨c2, rfl⟩ : ∃ c2, cp = some c2 := by
        obtain ⟨c2, e, _⟩ := HC.out.at_ (by rintro e; rw [e] at h2; simp at h2)
        exact ⟨c2, e⟩
      go_wp2_with fail
      have HST : ∀ n m v v' W, (∀ i, (i ∈ [3, 4, 16] ∨ i ∈ [13, 14, 18]) → v i = v' i) → (stL w tb (w.heap.size + 1) (.slice vgp g.length vgc) vk vc (.slice up l.length uc) us ls l g ci (c % 8)) n m v W → (stL w tb (w.heap.size + 1) (.slice vgp g.length vgc) vk vc (.slice up l.length uc) us ls l g ci (c % 8)) n m v' W := fun n m v v' W e h => h.vals e
      have HCN : ∀ j, (j ∈ [3, 4, 16] ∨ j ∈ [13, 14, 18]) → (cvL tb i cs.length c2 cc (.slice up l.length uc) vk vc c) j = none := fun j hj => by
        simp only [List.mem_cons, List.not_mem_nil, or_false] at hj
        rcases hj with (rfl | rfl | rfl) | (rfl | rfl | rfl) <;> rfl
      have HKL : Hid (∀ L1 vals W, (TwoCh [3, 4, 16] [13, 14, 18] (cvL tb i cs.length c2 cc (.slice up l.length uc) vk vc c) (stL w tb (w.heap.size + 1) (.slice vgp g.length vgc) vk vc (.slice up l.length uc) us ls l g ci (c % 8))) L1 vals W → L1 16 = false → W.cell? ⟨tb, 1, none⟩ = some vk) := Lib.hid fun L1 vals W hJ h16 => by
        obtain ⟨_, n, m, hn, hm, h3, _, hst⟩ := hJ
        have hn2 : n ≤ 2 := by
          have := h3 2 16 rfl
          rw [h16] at this
          simp at this; omega
        obtain ⟨y2, h4⟩ := hst.task2 hn2
        simp only [World.cell?, h4]; rfl
      have HCL : Hid (∀ L1 vals W, (TwoCh [3, 4, 16] [13, 14, 18] (cvL tb i cs.length c2 cc (.slice up l.length uc) vk vc c) (stL w tb (w.heap.size + 1) (.slice vgp g.length vgc) vk vc (.slice up l.length uc) us ls l g ci (c % 8))) L1 vals W → L1 18 = false → W.cell? ⟨tb, 2, none⟩ = some vc) := Lib.hid fun L1 vals W hJ h18 => by
        obtain ⟨_, n, m, hn, hm, _, h3, hst⟩ := hJ
        have hn2 : m ≤ 2 := by
          have := h3 2 18 rfl
          rw [h18] at this
          simp at this; omega
        obtain ⟨y2, h4⟩ := hst.task1 hn2
        simp only [World.cell?, h4]; rfl
      have HCC2 : Hid (∀ L1 vals W, (TwoCh [3, 4, 16] [13, 14, 18] (cvL tb i cs.length c2 cc (.slice up l.length uc) vk vc c) (stL w tb (w.heap.size + 1) (.slice vgp g.length vgc) vk vc (.slice up l.length uc) us ls l g ci (c % 8))) L1 vals W → W.cell? (c2.add i) = some (.int .u8 c)) := Lib.hid fun L1 vals W hJ => by
        obtain ⟨_, n, m, _, _, _, _, hst⟩ := hJ
        obtain ⟨c3, e, hca⟩ := (HC.out.below hst.cm.below).at_ (by rintro e; rw [e] at h2; simp at h2)
        cases e
        have := hca.at_ i c HCC.out 0 (.int .u8 c) rfl
        simpa [RU] using this
      refine wp_region_joint 70 (by kernel_rfl) (by kernel_rfl) rfl ((TwoCh [3, 4, 16] [13, 14, 18] (cvL tb i cs.length c2 cc (.slice up l.length uc) vk vc c) (stL w tb (w.heap.size + 1) (.slice vgp g.length vgc) vk vc (.slice up l.length uc) us ls l g ci (c % 8)))) (TwoCh.start (fun v => (HST0.out v).keep ((Below.refl _ W0).drew)) _) ?_ ?_
      · refine ⟨?_, ?_, ?_, ?_, ?_, ?_, ?_, ?_, ?_, ?_, ?_, ?_, ?_, ?_, ?_, ?_, ?_, ?_, ?_, trivial⟩
        · intro L1 b W vals hL hD hC K hJ
          have e9 : b.eval (.tmp 9) = (.pointer (some ⟨tb, 0, none⟩)) := (K.was 9 (by kernel_rfl)).trans rfl
          refine lu_v (I := Instr.fieldAt 34 (b.eval (.tmp 9)) 1) rfl ?_ (hJ.other HST (by decide) rfl)
          rw [e9]; kernel_rfl
        · intro L1 b W vals hL hD hC K hJ
          obtain ⟨e49, _⟩ := K.val 0 49 (by kernel_rfl)
          have f49 := hJ.pure_ 0 _ rfl (hD 0 (by kernel_rfl))
          have n16 : L1 16 = false := joint_no hC hL (by decide) (by kernel_rfl)
          refine lu_v (I := Instr.loadAt 29 (b.eval (.tmp 49))) rfl ?_ (hJ.other HST (by decide) rfl)
          rw [e49, f49]; exact run_loadAt_cell Tryz.isAgg29 (HKL.out L1 vals W hJ n16)
        · intro L1 b W vals hL hD hC K hJ
          have e11 : b.eval (.tmp 11) = (.slice up l.length uc) := (K.was 11 (by kernel_rfl)).trans rfl
          refine lu_move rfl ?_
          rw [e11]; exact hJ.other HST (by decide) rfl
        · intro L1 b W vals hL hD hC K hJ
          obtain ⟨e51, _⟩ := K.val 2 51 (by kernel_rfl)
          have f51 := hJ.pure_ 2 _ rfl (hD 2 (by kernel_rfl))
          obtain ⟨iI, hiI, hzI, hsI, hbI⟩ := info_parts infoQs
          refine run_build1_exec rfl (e51.trans f51) Tryz.underlying29 hiI hzI (by rw [hsI]; decide) (by rw [hsI]; decide) (cells := ([.slice up l.length uc] : List Value).toArray) (by rw [hsI]; exact Great.fill_flat [.slice up l.length uc] _ (fun v hv => by simp only [List.mem_singleton] at hv; subst hv; rfl) (by simp)) ?_
          exact hJ.stepA (by decide) HCN (n := 0) rfl (by decide) (fun _ h => absurd h (by decide)) hL (fun m hst => hst.buildA)
        · intro L1 b W vals hL hD hC K hJ
          obtain ⟨e50, _⟩ := K.val 1 50 (by kernel_rfl)
          have f50 := hJ.pure_ 1 _ rfl (hD 1 (by kernel_rfl))
          obtain ⟨e52, _⟩ := K.val 3 52 (by kernel_rfl)
          have h3 : L1 3 = true := hD 3 (by kernel_rfl)
          obtain ⟨m0, hst⟩ := hJ.atA 1 (fun k _ hk => by simp at hk; subst hk; exact h3) (by decide) (fun k hk => by simp at hk; subst hk; exact hL)
          obtain ⟨gn, hv, hgn⟩ := hst.a1
          obtain ⟨iI, hiI, hzI, hsI, hbI⟩ := info_parts infoQs
          obtain ⟨v', W', hr, ho, hgr, _, hat⟩ := run_append_own_at (P := Tryz.prog) W w.heap.size 29 29 22 iI _ 1 24 Tryz.underlying29 hiI hzI hsI hbI rfl (by decide) vk us.length us hst.a0 ⟨gn, 0, none⟩ 1 1 [.slice up l.length uc] rfl (block_cells hgn) (fun x hx => by simp only [List.mem_singleton] at hx; subst hx; rfl) HMA.out HMB.out hst.cm.below.size
          refine run_append_exec rfl (e50.trans f50) (e52.trans hv) hr ?_
          exact hJ.stepA (by decide) HCN (n := 1) rfl (by decide) (fun k _ hk => by simp at hk; subst hk; exact h3) hL (fun m hst => hst.appendA hgr ho)
        · intro L1 b W vals hL hD hC K hJ
          have e9 : b.eval (.tmp 9) = (.pointer (some ⟨tb, 0, none⟩)) := (K.was 9 (by kernel_rfl)).trans rfl
          refine lu_v (I := Instr.fieldAt 34 (b.eval (.tmp 9)) 2) rfl ?_ (hJ.other HST (by decide) rfl)
          rw [e9]; kernel_rfl
        · intro L1 b W vals hL hD hC K hJ
          obtain ⟨e54, _⟩ := K.val 5 54 (by kernel_rfl)
          have f54 := hJ.pure_ 5 _ rfl (hD 5 (by kernel_rfl))
          have n18 : L1 18 = false := joint_no hC hL (by decide) (by kernel_rfl)
          refine lu_v (I := Instr.loadAt 30 (b.eval (.tmp 54))) rfl ?_ (hJ.other HST (by decide) rfl)
          rw [e54, f54]; exact run_loadAt_cell Tryz.isAgg30 (HCL.out L1 vals W hJ n18)
        · intro L1 b W vals hL hD hC K hJ
          have e2 : b.eval (.tmp 2) = (.slice (some c2) cs.length cc) := (K.was 2 (by kernel_rfl)).trans rfl
          refine lu_move rfl ?_
          rw [e2]; exact hJ.other HST (by decide) rfl
        · intro L1 b W vals hL hD hC K hJ
          have e10 : b.eval (.tmp 10) = (.int .i64 i) := (K.was 10 (by kernel_rfl)).trans rfl
          refine lu_move rfl ?_
          rw [e10]; exact hJ.other HST (by decide) rfl
        · intro L1 b W vals hL hD hC K hJ
          obtain ⟨e56, _⟩ := K.val 7 56 (by kernel_rfl)
          have f56 := hJ.pure_ 7 _ rfl (hD 7 (by kernel_rfl))
          obtain ⟨e57, _⟩ := K.val 8 57 (by kernel_rfl)
          have f57 := hJ.pure_ 8 _ rfl (hD 8 (by kernel_rfl))
          refine lu_v (I := Instr.indexAt 37 (b.eval (.tmp 56)) (b.eval (.tmp 57))) rfl ?_ (hJ.other HST (by decide) rfl)
          rw [e56, f56, e57, f57]; exact index_u8 W c2 h2
        · intro L1 b W vals hL hD hC K hJ
          obtain ⟨e58, _⟩ := K.val 9 58 (by kernel_rfl)
          have f58 := hJ.pure_ 9 _ rfl (hD 9 (by kernel_rfl))
          refine lu_v (I := Instr.loadAt 5 (b.eval (.tmp 58))) rfl ?_ (hJ.other HST (by decide) rfl)
          rw [e58, f58]; exact run_loadAt_cell Tryz.isAgg5 (HCC2.out L1 vals W hJ)
        · intro L1 b W vals hL hD hC K hJ
          obtain ⟨e59, _⟩ := K.val 10 59 (by kernel_rfl)
          have f59 := hJ.pure_ 10 _ rfl (hD 10 (by kernel_rfl))
          exact lu_rem8 rfl (e59.trans f59) (hJ.other HST (by decide) rfl)
        · intro L1 b W vals hL hD hC K hJ
          obtain ⟨e60, _⟩ := K.val 11 60 (by kernel_rfl)
          have f60 := hJ.pure_ 11 _ rfl (hD 11 (by kernel_rfl))
          exact lu_conv8 rfl (e60.trans f60) HC8.out (hJ.other HST (by decide) rfl)
        · intro L1 b W vals hL hD hC K hJ
          obtain ⟨e61, _⟩ := K.val 12 61 (by kernel_rfl)
          have f61 := hJ.pure_ 12 _ rfl (hD 12 (by kernel_rfl))
          obtain ⟨iI, hiI, hzI, hsI, hbI⟩ := info_parts infoI3
          refine run_build1_exec rfl (e61.trans f61) Tryz.underlying30 hiI hzI (by rw [hsI]; decide) (by rw [hsI]; decide) (cells := ([.int .i64 (c % 8 : Nat)] : List Value).toArray) (by rw [hsI]; exact Great.fill_flat [.int .i64 (c % 8 : Nat)] _ (fun v hv => by simp only [List.mem_singleton] at hv; subst hv; rfl) (by simp)) ?_
          exact hJ.stepB (by decide) HCN (n := 0) rfl (by decide) (fun _ h => absurd h (by decide)) hL (fun m hst => hst.buildB)
        · intro L1 b W vals hL hD hC K hJ
          obtain ⟨e55, _⟩ := K.val 6 55 (by kernel_rfl)
          have f55 := hJ.pure_ 6 _ rfl (hD 6 (by kernel_rfl))
          obtain ⟨e62, _⟩ := K.val 13 62 (by kernel_rfl)
          have h13 : L1 13 = true := hD 13 (by kernel_rfl)
          obtain ⟨m0, hst⟩ := hJ.atB 1 (fun k _ hk => by simp at hk; subst hk; exact h13) (by decide) (fun k hk => by simp at hk; subst hk; exact hL)
          obtain ⟨gn, hv, hgn⟩ := hst.b1
          obtain ⟨iI, hiI, hzI, hsI, hbI⟩ := info_parts infoI3
          obtain ⟨v', W', hr, ho, hgr, _, hat⟩ := run_append_own_at (P := Tryz.prog) W w.heap.size 30 30 3 iI _ 1 8 Tryz.underlying30 hiI hzI hsI hbI rfl (by decide) vc ci.length (RI.cells ci) hst.b0 ⟨gn, 0, none⟩ 1 1 [.int .i64 (c % 8 : Nat)] rfl (block_cells hgn) (RI.one ((c % 8 : Nat) : Int)) HMC.out HMD.out hst.cm.below.size
          refine run_append_exec rfl (e55.trans f55) (e62.trans hv) hr ?_
          exact hJ.stepB (by decide) HCN (n := 1) rfl (by decide) (fun k _ hk => by simp at hk; subst hk; exact h13) hL (fun m hst => hst.appendB hgr (RI.own_snoc ho))
        · intro L1 b W vals hL hD hC K hJ
          have e9 : b.eval (.tmp 9) = (.pointer (some ⟨tb, 0, none⟩)) := (K.was 9 (by kernel_rfl)).trans rfl
          refine lu_v (I := Instr.fieldAt 34 (b.eval (.tmp 9)) 1) rfl ?_ (hJ.other HST (by decide) rfl)
          rw [e9]; kernel_rfl
        · intro L1 b W vals hL hD hC K hJ
          obtain ⟨e64, _⟩ := K.val 15 64 (by kernel_rfl)
          have f64 := hJ.pure_ 15 _ rfl (hD 15 (by kernel_rfl))
          obtain ⟨e53, _⟩ := K.val 4 53 (by kernel_rfl)
          have h4 : L1 4 = true := hD 4 (by kernel_rfl)
          obtain ⟨m0, hst⟩ := hJ.atA 2 (fun k _ hk => by simp at hk; subst hk; exact h4) (by decide) (fun k hk => by simp at hk; subst hk; exact hL)
          obtain ⟨y2, htk⟩ := hst.task2 (by decide)
          obtain ⟨qv, nv, hsv⟩ := own_slice hst.a2
          refine lu_store rfl (e64.trans f64) e53 (run_storeAt_one Tryz.isAgg29 htk rfl Tryz.sizeOf29 (by rw [hsv]; rfl)) ?_
          exact hJ.stepA (by decide) HCN (n := 2) rfl (by decide) (fun k _ hk => by simp at hk; subst hk; exact h4) hL (fun m hst => hst.storeA)
        · intro L1 b W vals hL hD hC K hJ
          have e9 : b.eval (.tmp 9) = (.pointer (some ⟨tb, 0, none⟩)) := (K.was 9 (by kernel_rfl)).trans rfl
          refine lu_v (I := Instr.fieldAt 34 (b.eval (.tmp 9)) 2) rfl ?_ (hJ.other HST (by decide) rfl)
          rw [e9]; kernel_rfl
        · intro L1 b W vals hL hD hC K hJ
          obtain ⟨e65, _⟩ := K.val 17 65 (by kernel_rfl)
          have f65 := hJ.pure_ 17 _ rfl (hD 17 (by kernel_rfl))
          obtain ⟨e63, _⟩ := K.val 14 63 (by kernel_rfl)
          have h14 : L1 14 = true := hD 14 (by kernel_rfl)
          obtain ⟨m0, hst⟩ := hJ.atB 2 (fun k _ hk => by simp at hk; subst hk; exact h14) (by decide) (fun k hk => by simp at hk; subst hk; exact hL)
          obtain ⟨y1, htk⟩ := hst.task1 (by decide)
          obtain ⟨qv, nv, hsv⟩ := own_slice hst.b2
          refine lu_store rfl (e65.trans f65) e63 (run_storeAt_one Tryz.isAgg30 htk rfl Tryz.sizeOf30 (by rw [hsv]; rfl)) ?_
          exact hJ.stepB (by decide) HCN (n := 2) rfl (by decide) (fun k _ hk => by simp at hk; subst hk; exact h14) hL (fun m hst => hst.storeB)
      · intro L1 vals W hL hJ
        have hst := hJ.both (fun k hk => by simp only [List.mem_cons, List.not_mem_nil, or_false] at hk; rcases hk with rfl | rfl | rfl <;> exact hL _ (by decide)) (fun k hk => by simp only [List.mem_cons, List.not_mem_nil, or_false] at hk; rcases hk with rfl | rfl | rfl <;> exact hL _ (by decide))
        have HS3 : Hid ((stL w tb (w.heap.size + 1) (.slice vgp g.length vgc) vk vc (.slice up l.length uc) us ls l g ci (c % 8)) 3 3 vals W) := Lib.hid hst
        clear hJ hL hst
        simp only [List.length_cons, List.length_nil, List.range_succ, List.range_zero, List.nil_append, List.cons_append, List.map_cons, List.map_nil, putAll, Act.put, List.setIfInBounds_toArray, List.set_cons_zero, List.set_cons_succ]
        go_wp2_with fail
        go_roundw
        case rel =>
          refine ⟨i + 1, vals 4, vals 14, us ++ [.slice up l.length uc], by omega, by go_num, Lib.hid ⟨?_, HS3.out.tk, ?_, by rw [List.length_append, HLI.out]; rfl, ?_⟩⟩
          · rw [take_snoc6 HKK.out, List.map_append, HLS.out]
            show LkC _ _ _ _ _ (ls ++ [shapeN k]) _ _
            rw [HLL.out]; exact HS3.out.cm
          · rw [List.length_append]; exact HS3.out.A2 (by decide)
          · rw [take_snoc6 HCC.out, List.map_append, HCI.out]; exact HS3.out.B2 (by decide)
        case measure => simp only [intOf]; omega
    · obtain rfl : i = nm := by omega
      have hcase : ¬ i < ks.length ∨ (i < ks.length ∧ ¬ i < cs.length) ∨ (i < ks.length ∧ i < cs.length ∧ ¬ i < 4) := by omega
      have hzz := HR.out.1.zero
      have htt := HR.out.2.1
      have hstk : (Tryz.prog.info? 34).map (·.size) = some (tkA (.slice vgp g.length vgc) vk vc).size := sizeTask
      obtain ⟨kp2, kc2, hvk⟩ := own_slice HR.out.2.2.1
      obtain ⟨cp2, cc2, hvc⟩ := own_slice HR.out.2.2.2.2
      have hone : (tkA (.slice vgp g.length vgc) vk vc).all (·.oneCell') = true := by rw [hvk, hvc]; simp [tkA, Value.oneCell']
      clear hvk hvc hnm
      have HD : Hid (decide ((g.length : Int) ≤ 48) = decide (g.length ≤ 48)) := Lib.hid (by rw [decide_eq_decide]; omega)
      rcases hcase with h1 | ⟨h1, h2⟩ | ⟨h1, h2, h3⟩
      all_goals
        go_wp2_with (first
          | (refine wpList_load_row rfl 34 _ rfl tb rfl 34 _ (0, 0) _ htt Tryz.underlying34 rfl hstk ?_)
          | (refine wpList_store_row rfl 34 _ _ rfl w.heap.size rfl 34 _ (tkA (.slice vgp g.length vgc) vk vc) rfl hzz hstk rfl hone ?_))
        refine bodyPost_ret (results_row_tmp rfl Tryz.underlying34 rfl _ _ w.heap.size (tkA (.slice vgp g.length vgc) vk vc) (0, 0) (.bool (decide ((g.length : Int) ≤ 48))) (setRow_heap _ _ _ _ _ _ hzz) hstk rfl rfl) rfl ?_
        rw [← HPO.out]
        have hmv : ∀ (j : Nat) (cs : Array Value) (T : TypeId), T ≠ 34 → wr.heap[j]? = some (.cells cs T (0, 0)) → (wr.setRow w.heap.size (tkA (.slice vgp g.length vgc) vk vc)).heap[j]? = wr.heap[j]? := fun j cs T hT hc => setRow_other _ _ _ _ fun e => by
          subst e
          rw [hzz] at hc
          simp only [Option.some.injEq, Obj.cells.injEq] at hc
          exact hT hc.2.1.symm
        have hoq : ∀ x m, OwnQ wr w.heap.size x m → OwnQ (wr.setRow w.heap.size (tkA (.slice vgp g.length vgc) vk vc)) w.heap.size x m := fun x m hx => owns_move hx fun j hj => by
          obtain ⟨_, _, cs, hc⟩ := owns_lt hx hj
          exact hmv j cs _ (by decide) hc
        have hn : numN ks cs = i := HNM.out
        refine ⟨.slice vgp g.length vgc, vk, vc, us, by rw [HD.out]; rfl, hoq _ _ HR.out.1.ground, ⟨owns_move HR.out.2.2.1 fun j hj => ?_, ?_, ?_⟩, ?_, setRow_below HR.out.1.below (Nat.le_refl _) _⟩
        · obtain ⟨_, _, cs, hc⟩ := owns_lt HR.out.2.2.1 hj
          exact hmv j cs _ (by decide) hc
        · show us.length = ((ks.take (numN ks cs)).map shapeN).length
          rw [hn, HR.out.2.2.2.1, List.length_map, List.length_take]
          unfold numN at hn; omega
        · show ∀ (j : Nat) (x : Value) (m : List Q), us[j]? = some x → ((ks.take (numN ks cs)).map shapeN)[j]? = some m → _
          rw [hn]
          exact fun j x m hx hm => hoq x m (HR.out.1.each j x m hx hm)
        · show RI.Own _ _ _ ((cs.take (numN ks cs)).map fun c => ((c % 8 : Nat) : Int))
          rw [hn]
          exact owns_move HR.out.2.2.2.2 fun j hj => by
            obtain ⟨_, _, cs, hc⟩ := owns_lt HR.out.2.2.2.2 hj
            exact hmv j cs _ (by decide) hc
end Go.Proofs.YtiinlplgloaanaaGreatDoor

/- Plain: what is counted of the two tasks that the document tells. -/
namespace Go.Proofs.YtiinlplgloaanaaGreatDoor
set_option linter.all false
set_option linter.unusedSimpArgs false
set_option linter.unusedVariables false
open Go.RowKit

def greatB : ByteArray := ⟨#[103, 114, 101, 97, 116]⟩
def oblongB : ByteArray := ⟨#[111, 98, 108, 111, 110, 103]⟩
def halfB : ByteArray := ⟨#[104, 97, 108, 102]⟩
def squareB : ByteArray := ⟨#[115, 113, 117, 97, 114, 101]⟩
def taskG : Tk := ⟨(kindC greatB).1, [(kindC oblongB).1], [2], [], []⟩
def taskS : Tk := ⟨(kindC squareB).1, [(kindC halfB).1], [2], [], []⟩
set_option maxRecDepth 100000 in
theorem known_codes : (kindC greatB).2 = 0 ∧ (kindC oblongB).2 = 0 ∧ (kindC halfB).2 = 0 ∧ (kindC squareB).2 = 0 := by decide +kernel
set_option maxRecDepth 100000 in
theorem count_great : countT taskG = (2, 1, 5, 0) := by decide +kernel
set_option maxRecDepth 100000 in
theorem count_square : countT taskS = (2, 1, 5, 0) := by decide +kernel
set_option maxRecDepth 100000 in
theorem ok_great : OkT taskG := (okT_iff rfl).2 (by decide +kernel)
set_option maxRecDepth 100000 in
theorem ok_square : OkT taskS := (okT_iff rfl).2 (by decide +kernel)
end Go.Proofs.YtiinlplgloaanaaGreatDoor

/- knownTilings; and a count of one task with one kind of brick. -/
namespace Go.Proofs.YtiinlplgloaanaaGreatDoor
set_option linter.all false
set_option linter.unusedSimpArgs false
set_option linter.unusedVariables false
open Go.RowKit
attribute [local go_sem] Oper.semAt_some

theorem ownQQ_has {W : World} {base : Nat} {v : Value} {vs : List Value} {ls : List (List Q)} (h : OwnQQ W base v vs ls) : HasQQ W v ls := by
  have hl := h.len
  rcases h.row.2 with ⟨rfl, h0⟩ | ⟨g, cap, cur, rfl, h1, h2, h3, h4, h5⟩
  · exact .inl ⟨rfl, List.length_eq_zero_iff.1 (by omega)⟩
  · exact .inr ⟨⟨g, 0, none⟩, cap, vs, by rw [hl], by rw [← hl]; exact h3, h4, ⟨(h.row.lt g rfl).2, fun i u hu => World.ownsRow.cells h.row (g := g) rfl i u hu⟩, hl, fun i u l hu hl => (h.each i u l hu hl).has⟩
theorem own_one (W : World) {base : Nat} (hb : base ≤ W.heap.size) (x : Value) (T : TypeId) : (W.alloc (.cells #[x] T)).ownsRow base T 1 (.slice (some ⟨W.heap.size, 0, none⟩) 1 1) 1 [x] :=
  ⟨rfl, .inr ⟨W.heap.size, 1, #[x], rfl, hb, World.alloc_heap_new W _, Nat.le_refl _, by decide, rfl, rfl⟩⟩
/-- What is counted of a ground and one kind, built on the spot. -/
theorem count_one (t : Tk) (hf : t.fixed = []) (hb : t.below = []) (l : List Q) (hl : t.kinds = [l]) (n : Int) (hn : t.counts = [n]) (hok : OkT t) (W : World) (u v : Value) (hu : HasQ W u t.ground) (hv : OwnQ W 0 v l) (htb : TbAt W) (r : Nat × Nat × Nat × Nat) (hr : countT t = r) :
    Calls Tryz.prog 11 #[.agg #[u, .slice (some ⟨W.heap.size, 0, none⟩) 1 1, .slice (some ⟨W.heap.size + 1, 0, none⟩) 1 1, .slice none 0 0, .slice none 0 0]] ((W.alloc (.cells #[v] 22)).alloc (.cells #[.int .i64 n] 3)) fun e w' =>
      e = .returned (.tuple #[.int .i64 r.1, .int .i64 r.2.1, .int .i64 r.2.2.1, .int .i64 r.2.2.2]) ∧ Below W.heap.size W w' := by
  have h1 : Below W.heap.size W (W.alloc (.cells #[v] 22)) := (Below.refl _ W).alloc (Nat.le_refl _) _
  have hs : (W.alloc (.cells #[v] 22)).heap.size = W.heap.size + 1 := World.size_alloc _ _
  have h2 : Below (W.heap.size + 1) (W.alloc (.cells #[v] 22)) ((W.alloc (.cells #[v] 22)).alloc (.cells #[.int .i64 n] 3)) := by
    have := (Below.refl _ (W.alloc (.cells #[v] 22))).alloc (Nat.le_refl _) (.cells #[.int .i64 n] 3)
    rwa [hs] at this
  have h3 : Below W.heap.size W ((W.alloc (.cells #[v] 22)).alloc (.cells #[.int .i64 n] 3)) := h1.trans (h2.mono (Nat.le_succ _))
  have hk : OwnQQ ((W.alloc (.cells #[v] 22)).alloc (.cells #[.int .i64 n] 3)) 0 (.slice (some ⟨W.heap.size, 0, none⟩) 1 1) [v] [l] := by
    refine ⟨owns_below (own_one W (Nat.zero_le _) v _) (by rw [hs]; exact h2), rfl, fun i x m hx hm => ?_⟩
    cases i with
    | succ i => simp at hx
    | zero =>
      simp only [List.getElem?_cons_zero, Option.some.injEq] at hx hm
      subst hx; subst hm
      exact hv.below h3
  have hc : RI.Own ((W.alloc (.cells #[v] 22)).alloc (.cells #[.int .i64 n] 3)) 0 (.slice (some ⟨W.heap.size + 1, 0, none⟩) 1 1) [n] := by
    have := own_one (W.alloc (.cells #[v] 22)) (base := 0) (Nat.zero_le _) (.int .i64 n) 3
    rw [hs] at this; exact this
  refine (count_task (t := t) hb hf _ u (.slice (some ⟨W.heap.size, 0, none⟩) 1 1) (.slice (some ⟨W.heap.size + 1, 0, none⟩) 1 1) (.slice none 0 0) (hu.below h3) (by rw [hl]; exact ownQQ_has hk) (by rw [hn]; exact REnc.Own.has hc) rfl (by rw [hf]; exact .inl ⟨rfl, rfl⟩) (by rw [hn]; simp) (htb.below h3)).mono ?_
  rintro e w' ⟨all, unl, nodes, code, rfl, hB, h4, _⟩
  have h5 := h4 hok
  rw [hr] at h5
  subst h5
  exact ⟨rfl, h3.trans (hB.mono h3.size)⟩

set_option maxRecDepth 100000 in
set_option maxHeartbeats 4000000 in
theorem known_til (w : World) (hK : KindsAt w) (hsh : w.ShapedOpen Tryz.prog) (htb : TbAt w) : Calls Tryz.prog 14 #[] w fun e w' => e = .returned (.bool true) ∧ Below w.heap.size w w' := by
  have HK := Lib.hid hK; clear hK
  have HSH := Lib.hid hsh; clear hsh
  have HTB := Lib.hid htb; clear htb
  go_enter Tryz.func14, Tryz.ntmps14
  go_wp2_with fail
  refine (Kind_own greatB w HK.out HSH.out).mono ?_
  rintro e w1 ⟨u1, rfl, hu1, hb1⟩
  rw [known_codes.1]
  obtain ⟨p1, c1, rfl⟩ := own_slice hu1
  have HU1 := Lib.hid hu1; clear hu1
  have HB1 := Lib.hid hb1; clear hb1
  go_wp2_with fail
  refine (Kind_own oblongB w1 (HK.out.below HB1.out) (shaped_below HSH.out HB1.out)).mono ?_
  rintro e w2 ⟨u2, rfl, hu2, hb2⟩
  rw [known_codes.2.1]
  obtain ⟨p2, c2, rfl⟩ := own_slice hu2
  have HU2 := Lib.hid hu2; clear hu2
  have HB2 := Lib.hid (HB1.out.trans (hb2.mono HB1.out.size))
  have HU1' := Lib.hid (HU1.out.below hb2); clear hb2
  have HCT := Lib.hid (count_one taskG rfl rfl (kindC oblongB).1 rfl 2 rfl ok_great w2 _ _ HU1'.out.has (HU2.out.mono (Nat.zero_le _)) (HTB.out.below HB2.out) _ count_great)
  go_wp2_with fail
  refine HCT.out.mono ?_
  rintro e w3 ⟨rfl, hb3⟩
  have HB3 := Lib.hid (HB2.out.trans (hb3.mono HB2.out.size)); clear hb3 HCT
  go_wp2_with fail
  first
    | exact ⟨rfl, HB3.out⟩
    | (go_ret2; exact ⟨rfl, HB3.out⟩)
    | (go_ret; exact ⟨rfl, HB3.out⟩)
end Go.Proofs.YtiinlplgloaanaaGreatDoor
