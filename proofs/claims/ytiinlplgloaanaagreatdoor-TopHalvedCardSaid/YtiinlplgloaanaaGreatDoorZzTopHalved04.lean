/- A region that draws its order, under one joint fact; a list with one more element in its midst: append(append(append([]T{}, l[:at]...), x), l[at:]...). -/
import Derived.Maps.AppendAt
import Derived.Great.BuildSlice
import Derived.Test.YtiinlplgloaanaaGreatDoorZzTopHalved01

/- A region that draws its order, under one joint fact; a list with one more element in its midst: append(append(append([]T{}, l[:at]...), x), l[at:]...). -/
namespace Go.Proofs.YtiinlplgloaanaaGreatDoor
set_option linter.all false
set_option linter.unusedSimpArgs false
set_option linter.unusedVariables false
open Go.RowKit

section
variable {P : Program} {ops : Array Oper}

/-- What the kernel checks. -/
def jqB (ops : Array Oper) (m : Nat) : Bool :=
  (ops.all fun o => o.guard == none) &&
  ((List.range ops.size).all fun i => match ops[i]? with | some o => o.after.all fun e => !Region.binds .any e || decide (e.on < i) | none => true) &&
  ((List.range ops.size).all fun i => (List.range ops.size).all fun j => match ops[i]?, ops[j]? with
    | some oi, some oj => (match oj.dst with
      | some d => (i == j || oi.dst != some d) && decide (d < m)
      | none => true)
    | _, _ => true)
structure JQ (ops : Array Oper) (m : Nat) : Prop where
  nogd : ∀ (i : Nat) (o : Oper), ops[i]? = some o → o.guard = none
  back : ∀ (i : Nat) (o : Oper), ops[i]? = some o → ∀ e ∈ o.after, Region.binds .any e = true → e.on < i
  uniq : ∀ (i j d : Nat) (oi oj : Oper), ops[i]? = some oi → ops[j]? = some oj → oi.dst = some d → oj.dst = some d → i = j
  dst : ∀ (j d : Nat) (oj : Oper), ops[j]? = some oj → oj.dst = some d → d < m
theorem jq_of {m : Nat} (h : jqB ops m = true) : JQ ops m := by
  simp only [jqB, Bool.and_eq_true, List.all_eq_true, List.mem_range] at h
  obtain ⟨⟨h4, h5⟩, h9⟩ := h
  have pair : ∀ (i j d : Nat) (oi oj : Oper), ops[i]? = some oi → ops[j]? = some oj → oj.dst = some d → (i = j ∨ oi.dst ≠ some d) ∧ d < m := fun i j d oi oj hoi hoj hd => by
    have := h9 i (Array.getElem?_eq_some_iff.1 hoi).1 j (Array.getElem?_eq_some_iff.1 hoj).1
    rw [hoi, hoj] at this
    simp only [hd, Bool.and_eq_true, Bool.or_eq_true, beq_iff_eq, bne_iff_ne, decide_eq_true_eq] at this
    exact this
  refine ⟨fun i o ho => ?_, fun i o ho e he hb => ?_, fun i j d oi oj hoi hoj h1 h2 => ?_, fun j d oj hoj h1 => (pair j j d oj oj hoj hoj h1).2⟩
  · have := Array.all_eq_true_iff_forall_mem.1 h4 o (Array.mem_of_getElem? ho)
    exact beq_iff_eq.1 this
  · have := h5 i (Array.getElem?_eq_some_iff.1 ho).1
    rw [ho] at this
    have := Array.all_eq_true_iff_forall_mem.1 this e he
    simpa [hb] using this
  · rcases (pair i j d oi oj hoi hoj h2).1 with h | h
    · exact h
    · exact absurd h1 h
theorem Fill.putJ {a b : Act} {s : Nat → Bool} {val : Nat → Value} {m : Nat} (g : JQ ops m) (h : Fill ops a s val b) {i : Nat} {o : Oper} (ho : ops[i]? = some o) (hsi : s i = false) (v : Value) :
    Fill ops a (fun j => s j || j == i) (fun j => if j = i then v else val j) (b.put o.dst v) := by
  refine ⟨by rw [put_defs]; exact h.defs, by rw [put_size]; exact h.size, fun j d oj hoj hd hsj hlt => ?_, fun d hd => ?_⟩
  · rw [put_get]
    by_cases hji : j = i
    · subst hji
      rw [ho] at hoj; cases hoj
      rw [if_pos hd, if_pos (by have := h.size; omega), if_pos rfl]
    · have hne : o.dst ≠ some d := fun e => hji (g.uniq j i d oj o hoj ho hd e)
      rw [if_neg hne, if_neg hji]
      exact h.hit j d oj hoj hd (by simpa [hji] using hsj) hlt
  · have hne : o.dst ≠ some d := fun e => by have := hd i o ho e; simp at this
    rw [put_get, if_neg hne]
    exact h.miss d fun j oj hoj hd' => by have := hd j oj hoj hd'; simp at this; exact this.1
theorem waitsJ_lt {m : Nat} (g : JQ ops m) {i j : Nat} (h : waits ops i j = true) : j < i := by
  obtain ⟨oi, hoi, e, he, hb, hon⟩ := waits_spec h
  rw [← hon]; exact g.back i oi hoi e he hb
/-- The frame, written out. -/
theorem fill_putAllJ {a b : Act} {m : Nat} {vals : Nat → Value} (h : Fill ops a (fun i => decide (i < ops.size)) vals b) (hq : JQ ops m) : b = putAll ops.toList ((List.range ops.size).map vals) a := by
  have key : ∀ k, k ≤ ops.size → Fill ops a (fun i => decide (i < k)) vals (Proofs.YtiinlplgloaanaaGreatDoor.putAll (ops.toList.take k) ((List.range k).map vals) a) := by
    intro k
    induction k with
    | zero => intro _; simp only [List.take_zero, List.range_zero, List.map_nil, Proofs.YtiinlplgloaanaaGreatDoor.putAll]; exact (Fill.start a vals).congr (fun i _ => by simp) (fun _ _ _ => rfl)
    | succ k ih =>
      intro hk
      have h1 := ih (by omega)
      obtain ⟨o, ho⟩ : ∃ o, ops[k]? = some o := ⟨_, Array.getElem?_eq_getElem (by omega)⟩
      have e : Proofs.YtiinlplgloaanaaGreatDoor.putAll (ops.toList.take (k + 1)) ((List.range (k + 1)).map vals) a = (Proofs.YtiinlplgloaanaaGreatDoor.putAll (ops.toList.take k) ((List.range k).map vals) a).put o.dst (vals k) := by
        have hsn : ∀ (l : List Oper) (vs : List Value) (a : Act) (o : Oper) (v : Value), l.length = vs.length → Proofs.YtiinlplgloaanaaGreatDoor.putAll (l ++ [o]) (vs ++ [v]) a = (Proofs.YtiinlplgloaanaaGreatDoor.putAll l vs a).put o.dst v := by
          intro l
          induction l with
          | nil => intro vs a o v hl; obtain rfl := List.length_eq_zero_iff.1 hl.symm; rfl
          | cons x l ih =>
            intro vs a o v hl
            cases vs with
            | nil => simp at hl
            | cons u vs => exact ih vs _ o v (by simpa using hl)
        have ht : ops.toList.take (k + 1) = ops.toList.take k ++ [o] := by
          have hl : ops.toList[k]? = some o := by simpa using ho
          obtain ⟨hh, he⟩ := List.getElem?_eq_some_iff.1 hl
          rw [List.take_succ_eq_append_getElem hh, he]
        rw [ht, List.range_succ, List.map_append]
        exact hsn _ _ _ _ _ (by simp; omega)
      rw [e]
      refine (h1.putJ hq ho (by simp) (vals k)).congr (fun i _ => ?_) (fun i _ _ => ?_)
      · rw [Bool.eq_iff_iff]; simp; omega
      · split
        · rename_i h; rw [h]
        · rfl
  have := h.unique (key ops.size (Nat.le_refl _))
  rwa [List.take_of_length_le (by simp)] at this
/-- What an operation knows of the frame. -/
structure JK (ops : Array Oper) (a : Act) (i : Nat) (L : Nat → Bool) (b : Act) (vals : Nat → Value) : Prop where
  old : ∀ d : Nat, (∀ (j : Nat) (o : Oper), ops[j]? = some o → o.dst = some d → waits ops j i = true) → b.tmps[d]? = a.tmps[d]?
  new : ∀ (j d : Nat) (o : Oper), waits ops i j = true → ops[j]? = some o → o.dst = some d → b.tmps[d]? = some (vals j)
theorem JK.val {a : Act} {i : Nat} {L : Nat → Bool} {b : Act} {vals : Nat → Value} (h : JK ops a i L b vals) (j d : Nat) (hn : newOf ops i j d = true) : b.eval (.tmp d) = vals j ∧ True := by
  simp only [newOf, Bool.and_eq_true] at hn
  obtain ⟨hw, hd⟩ := hn
  cases ho : ops[j]? with
  | none => rw [ho] at hd; cases hd
  | some o =>
    rw [ho] at hd
    have := h.new j d o hw ho (beq_iff_eq.1 hd)
    exact ⟨by simp [Act.eval, this], trivial⟩
def wasOf (ops : Array Oper) (i d : Nat) : Bool := (List.range ops.size).all fun j => match ops[j]? with | some o => o.dst != some d || waits ops j i | none => true
theorem JK.was {a : Act} {i : Nat} {L : Nat → Bool} {b : Act} {vals : Nat → Value} (h : JK ops a i L b vals) (d : Nat) (hn : wasOf ops i d = true) : b.eval (.tmp d) = a.eval (.tmp d) := by
  have := h.old d (fun j o hj hd => by
    have := List.all_eq_true.1 hn j (List.mem_range.2 (Array.getElem?_eq_some_iff.1 hj).1)
    simpa [hj, hd] using this)
  simp [Act.eval, this]

/-- An operation, under the joint fact. -/
def jointOne (P : Program) (ops : Array Oper) (a : Act) (J : (Nat → Bool) → (Nat → Value) → World → Prop) (i : Nat) (o : Oper) : Prop :=
  ∀ (L : Nat → Bool) (b : Act) (W : World) (vals : Nat → Value), L i = false → (∀ j, waits ops i j = true → L j = true) → (∀ j k, j < ops.size → L j = true → waits ops j k = true → L k = true) →
    JK ops a i L b vals → J L vals W → loudUpon P (fun v W' => J (fun j => L j || j == i) (fun j => if j = i then v else vals j) W') ((execOp b.eval o).run P W)
def jointFrom (P : Program) (ops : Array Oper) (a : Act) (J : (Nat → Bool) → (Nat → Value) → World → Prop) : Nat → List Oper → Prop
  | _, [] => True
  | i, o :: rest => jointOne P ops a J i o ∧ jointFrom P ops a J (i + 1) rest
theorem jointFrom_get {a : Act} {J : (Nat → Bool) → (Nat → Value) → World → Prop} (l : List Oper) : ∀ (k i : Nat) (o : Oper), jointFrom P ops a J k l → l[i]? = some o → jointOne P ops a J (k + i) o := by
  induction l with
  | nil => intro k i o h ho; simp at ho
  | cons x l ih =>
    intro k i o h ho
    obtain ⟨h1, h2⟩ := h
    cases i with
    | zero =>
      rw [List.getElem?_cons_zero, Option.some.injEq] at ho
      rw [← ho, Nat.add_zero]; exact h1
    | succ i =>
      rw [List.getElem?_cons_succ] at ho
      have := ih (k + 1) i o h2 ho
      rwa [show k + 1 + i = k + (i + 1) by omega] at this
/-- **A region that draws its order, all of whose operations are told by one joint fact.** -/
theorem wp_region_joint {id : Nat} {Q : Exit → Act → World → Prop} {a : Act} {w : World} {l : List Oper} (m : Nat) (hm : P.follows .mixedOrders = true) (hB : jqB l.toArray m = true) (hsz : a.tmps.size = m)
    (J : (Nat → Bool) → (Nat → Value) → World → Prop) (h0 : J (fun _ => false) (fun _ => undef) w.drew) (hall : jointFrom P l.toArray a J 0 l)
    (hdone : ∀ (L : Nat → Bool) (vals : Nat → Value) (W : World), (∀ i, i < l.length → L i = true) → J L vals W → Q .normal (putAll l ((List.range l.length).map vals) a) W) :
    (Code.region id l.toArray true).wp P Q a w := by
  subst hsz
  have g := jq_of hB
  have hsize : l.toArray.size = l.length := by simp
  refine wp_region_any hm (wpAny_anyG _ _ _ _ ?_)
  refine any_inv (ops := l.toArray) (S := fun i K => wpOp P l.toArray Q i K) (fun L b W => ∃ (L0 : Nat → Bool) (vals : Nat → Value), (∀ i, i < l.toArray.size → L i = L0 i) ∧ Fill l.toArray a L0 vals b ∧ J L0 vals W) g.back (fun i K K' a w hk => wpOp_mono hk) ?_ ?_ ?_ l.toArray.size _ a w.drew ⟨fun _ => false, fun _ => undef, fun i _ => getD_rep _ _, Fill.start a (fun _ => undef), h0⟩ (by simp) (count_false _) (fun j oj _ hl => by rw [getD_rep] at hl; cases hl)
  · rintro L L' b W hLL ⟨L0, vals, h1, h2, h3⟩
    exact ⟨L0, vals, fun i hi => by rw [hLL i hi]; exact h1 i hi, h2, h3⟩
  · rintro L b W i o ⟨L0, vals, h1, h2, h3⟩ hcl hi ho hdeps
    have hlt : i < l.toArray.size := (Array.getElem?_eq_some_iff.1 ho).1
    have hi0 : L0 i = false := by rw [← h1 i hlt]; exact hi
    have hdep : ∀ j, waits l.toArray i j = true → L0 j = true := fun j hw => by
      have := waits_dep (ops := l.toArray) (L := L) ho hdeps hw
      rw [← h1 j (by have := waitsJ_lt g hw; omega)]; exact this
    have hclo : ∀ j k, j < l.toArray.size → L0 j = true → waits l.toArray j k = true → L0 k = true := fun j k hj hlj hw => by
      obtain ⟨oj, hoj, e, he, hb, hon⟩ := waits_spec hw
      rw [← h1 j hj] at hlj
      have := hcl j oj hoj hlj e he hb
      rw [hon] at this
      rw [← h1 k (by have := waitsJ_lt g hw; omega)]; exact this
    have hkn : JK l.toArray a i L0 b vals := ⟨fun d hd => h2.miss d (fun j o hj hjd => by
      cases hl : L0 j with
      | false => rfl
      | true => rw [hclo j i (Array.getElem?_eq_some_iff.1 hj).1 hl (hd j o hj hjd)] at hi0; cases hi0), fun j d oj hw hoj hd => h2.hit j d oj hoj hd (hdep j hw) (g.dst j d oj hoj hd)⟩
    have hone := jointFrom_get l 0 i o hall (by simpa using ho)
    rw [Nat.zero_add] at hone
    have hl := hone L0 b W vals hi0 hdep hclo hkn h3
    have hnext : ∀ v W', J (fun j => L0 j || j == i) (fun j => if j = i then v else vals j) W' → ∃ (L1 : Nat → Bool) (vals1 : Nat → Value), (∀ j, j < l.toArray.size → (L j || j == i) = L1 j) ∧ Fill l.toArray a L1 vals1 (b.put o.dst v) ∧ J L1 vals1 W' := fun v W' hJ =>
      ⟨_, _, fun j hj => by rw [h1 j hj], h2.putJ g ho hi0 v, hJ⟩
    unfold wpOp
    simp only [ho, Region.wanted, g.nogd i o ho, if_true, Oper.wp]
    refine .inl ?_
    revert hl
    cases (execOp b.eval o).run P W with
    | halt x w' => exact fun h => h.elim
    | ok x w' =>
      cases x <;> simp only [loudUpon, Oper.upon] <;> first | exact fun h => h.elim | exact fun h => hnext _ _ h | skip
      case enter f args =>
        refine fun hc => hc.mono fun e w'' => ?_
        cases e with
        | returned v => exact fun h => hnext _ _ h
        | _ => exact fun h => h.elim
  · rintro L b W ⟨L0, vals, h1, h2, h3⟩ hL
    have hL0 : ∀ i, i < l.length → L0 i = true := fun i hi => by rw [← h1 i (by omega)]; exact hL i (by omega)
    have hf : Fill l.toArray a (fun i => decide (i < l.toArray.size)) vals b := h2.congr (fun i hi => by rw [hL0 i (by omega)]; simp; omega) (fun _ _ _ => rfl)
    have e := fill_putAllJ hf g
    rw [hsize] at e
    rw [e]
    exact hdone L0 vals W hL0 h3

/-! ### The list with one more element in its midst -/
structure InsJ (W1 : World) (e : TypeId) (size k1 k2 : Nat) (pre news suf : List Value) (c : Nat → Option Value) (L : Nat → Bool) (vals : Nat → Value) (W : World) : Prop where
  below : Below W1.heap.size W1 W
  pure_ : ∀ i v, c i = some v → L i = true → vals i = v
  at0 : L 0 = true → L 4 = false → W.ownsRow W1.heap.size e size (vals 0) 0 []
  at4 : L 4 = true → L 7 = false → W.ownsRow W1.heap.size e size (vals 4) k1 pre
  at7 : L 7 = true → L 11 = false → W.ownsRow W1.heap.size e size (vals 7) (k1 + 1) (pre ++ news)
  at11 : L 11 = true → W.ownsRow W1.heap.size e size (vals 11) (k1 + 1 + k2) (pre ++ news ++ suf)
  at12 : L 12 = true → vals 12 = vals 11
  at6 : L 6 = true → L 7 = false → ∃ g, vals 6 = .slice (some ⟨g, 0, none⟩) 1 1 ∧ g < W.heap.size ∧ W1.heap.size ≤ g ∧ W.heap[g]? = some (.cells news.toArray e (0, 0)) ∧ (L 0 = true → L 4 = false → (vals 0).ownBlock ≠ some g) ∧ (L 4 = true → (vals 4).ownBlock ≠ some g)

variable {W1 W : World} {e : TypeId} {size k1 k2 : Nat} {pre news suf : List Value} {c : Nat → Option Value} {L : Nat → Bool} {vals : Nat → Value}
theorem or_ne {L : Nat → Bool} {i j : Nat} (h : j ≠ i) : (L j || j == i) = L j := by simp [h]
theorem InsJ.other (h : InsJ W1 e size k1 k2 pre news suf c L vals W) {i : Nat} {v : Value} (hi : i ≠ 0 ∧ i ≠ 4 ∧ i ≠ 6 ∧ i ≠ 7 ∧ i ≠ 11 ∧ i ≠ 12) (hv : c i = some v) :
    InsJ W1 e size k1 k2 pre news suf c (fun j => L j || j == i) (fun j => if j = i then v else vals j) W := by
  obtain ⟨n0, n4, n6, n7, n11, n12⟩ := hi
  have q0 := or_ne (L := L) (Ne.symm n0)
  have q4 := or_ne (L := L) (Ne.symm n4)
  have q6 := or_ne (L := L) (Ne.symm n6)
  have q7 := or_ne (L := L) (Ne.symm n7)
  have q11 := or_ne (L := L) (Ne.symm n11)
  have q12 := or_ne (L := L) (Ne.symm n12)
  refine ⟨h.below, fun j u hj hl => ?_, ?_, ?_, ?_, ?_, ?_, ?_⟩
  · by_cases e : j = i
    · subst e; rw [if_pos rfl]; rw [hv] at hj; exact Option.some.inj hj
    · rw [if_neg e]; exact h.pure_ j u hj (by simpa [e] using hl)
  · simp only [q0, q4, if_neg (Ne.symm n0)]; exact h.at0
  · simp only [q4, q7, if_neg (Ne.symm n4)]; exact h.at4
  · simp only [q7, q11, if_neg (Ne.symm n7)]; exact h.at7
  · simp only [q11, if_neg (Ne.symm n11)]; exact h.at11
  · simp only [q12, if_neg (Ne.symm n11), if_neg (Ne.symm n12)]; exact h.at12
  · simp only [q0, q4, q6, q7, if_neg (Ne.symm n0), if_neg (Ne.symm n4), if_neg (Ne.symm n6)]; exact h.at6
theorem InsJ.zero (h : InsJ W1 e size k1 k2 pre news suf c L vals W) (hc : c 0 = none) (h4 : L 4 = false) (h7 : L 7 = false) (h11 : L 11 = false) :
    InsJ W1 e size k1 k2 pre news suf c (fun j => L j || j == 0) (fun j => if j = 0 then .slice (some ⟨W.heap.size, 0, none⟩) 0 0 else vals j) (W.alloc (.cells #[] e)) := by
  refine ⟨h.below.alloc h.below.size _, fun j u hj hl => ?_, fun _ _ => ?_, ?_, ?_, ?_, ?_, ?_⟩
  · by_cases e : j = 0
    · subst e; rw [hc] at hj; cases hj
    · rw [if_neg e]; exact h.pure_ j u hj (by simpa [e] using hl)
  · rw [if_pos rfl]
    exact ⟨by simp, .inr ⟨W.heap.size, 0, #[], rfl, h.below.size, World.alloc_heap_new W _, Nat.le_refl _, by decide, by simp, by simp⟩⟩
  · intro h'; simp [h4] at h'
  · intro h'; simp [h7] at h'
  · intro h'; simp [h11] at h'
  · intro h'
    simp only [Nat.reduceBEq, Bool.or_false] at h'
    simp only [show ¬ ((12 : Nat) = 0) by decide, show ¬ ((11 : Nat) = 0) by decide, if_false]
    exact h.at12 h'
  · intro h6 _
    simp only [Nat.reduceBEq, Bool.or_false] at h6
    obtain ⟨g, g1, g2, g3, g4, g5, g6⟩ := h.at6 h6 h7
    refine ⟨g, by simpa using g1, by rw [World.size_alloc]; omega, g3, (Below.heap_alloc _ _ _ g2).trans g4, fun _ _ => ?_, fun h' => by simp [h4] at h'⟩
    simp only [if_true, Value.ownBlock]
    intro he
    have := Option.some.inj he
    omega
theorem InsJ.six (h : InsJ W1 e size k1 k2 pre news suf c L vals W) (hc : c 6 = none) (h7 : L 7 = false) (h11 : L 11 = false) :
    InsJ W1 e size k1 k2 pre news suf c (fun j => L j || j == 6) (fun j => if j = 6 then .slice (some ⟨W.heap.size, 0, none⟩) 1 1 else vals j) (W.alloc (.cells news.toArray e)) := by
  have hal : Below W.heap.size W (W.alloc (.cells news.toArray e)) := (Below.refl _ W).alloc (Nat.le_refl _) _
  refine ⟨h.below.alloc h.below.size _, fun j u hj hl => ?_, fun h0 h4 => ?_, fun h4 _ => ?_, ?_, ?_, ?_, fun _ _ => ?_⟩
  · by_cases e : j = 6
    · subst e; rw [hc] at hj; cases hj
    · rw [if_neg e]; exact h.pure_ j u hj (by simpa [e] using hl)
  · exact owns_below (h.at0 (by simpa using h0) (by simpa using h4)) hal
  · exact owns_below (h.at4 (by simpa using h4) h7) hal
  · intro h'; simp [h7] at h'
  · intro h'; simp [h11] at h'
  · intro h'
    simp only [Nat.reduceBEq, Bool.or_false] at h'
    simp only [show ¬ ((12 : Nat) = 6) by decide, show ¬ ((11 : Nat) = 6) by decide, if_false]
    exact h.at12 h'
  · refine ⟨W.heap.size, by simp, by rw [World.size_alloc]; omega, h.below.size, World.alloc_heap_new W _, fun h0 h4 => ?_, fun h4 => ?_⟩
    · simp only [show ¬ ((0 : Nat) = 6) by decide, if_false]
      intro he
      have := ((h.at0 (by simpa using h0) (by simpa using h4)).lt _ he).2
      omega
    · simp only [show ¬ ((4 : Nat) = 6) by decide, if_false]
      intro he
      have := ((h.at4 (by simpa using h4) h7).lt _ he).2
      omega
section
variable {T ty : TypeId} {i : TypeInfo} {z : Value} {bytes : Nat} (ht : P.underlying T = some (.slice e)) (hi : P.info? e = some i) (hz : i.zero = some z) (hsize : i.size = size) (hby : i.bytes = bytes) (hzs : z.cells.size = size) (hsz : 0 < size)
include ht hi hz hsize hby hzs hsz
end
theorem joint_no {ops : Array Oper} {L : Nat → Bool} (hC : ∀ j k, j < ops.size → L j = true → waits ops j k = true → L k = true) {i j : Nat} (hi : L i = false) (hj : j < ops.size) (hw : waits ops j i = true) : L j = false := by
  cases h : L j with
  | false => rfl
  | true => rw [hC j i hj h hw] at hi; cases hi
/-! ### The operations -/
theorem run_append_exec {o : Oper} {s x : Operand} {T : TypeId} {b : Act} {W W' : World} {v u y : Value} {next : Value → World → Prop} (ho : o.op = .call { callee := .builtin .append, args := #[s, x], argTypes := #[T, T] })
    (hs : b.eval s = u) (hx : b.eval x = y) (hr : (Builtin.append_ #[T, T] o.type #[u, y]).run P W = .ok v W') (hn : next v W') : loudUpon P next ((execOp b.eval o).run P W) := by
  refine lu_value (v := v) (W' := W') ?_ hn
  unfold execOp
  simp only [ho, resolve, invoke, builtin, Sem.run_bind, Sem.run_pure, Result.andThen_ok, List.map_toArray, List.map_cons, List.map_nil, hs, hx, hr]
theorem run_build1_exec {o : Oper} {T e : TypeId} {b : Act} {W : World} {x : Operand} {u : Value} {ie : TypeInfo} {z : Value} {cells : Array Value} {next : Value → World → Prop} (ho : o.op = .buildSlice T 1 #[(0, x)]) (hx : b.eval x = u)
    (hu : P.underlying T = some (.slice e)) (hie : P.info? e = some ie) (hz : ie.zero = some z) (hsmall : ¬ 1 * ie.size > 2 ^ 24) (hpos : ¬ 1 * ie.size = 0)
    (h : Instr.fill (fun i => some (i * ie.size, ie.size)) ((Array.range (1 * ie.size)).map (z.cells[· % z.cells.size]!)) [(0, u)] = some cells)
    (hn : next (.slice (some ⟨W.heap.size, 0, none⟩) 1 1) (W.alloc (.cells cells e))) : loudUpon P next ((execOp b.eval o).run P W) := by
  refine lu_value (v := .slice (some ⟨W.heap.size, 0, none⟩) 1 1) (W' := W.alloc (.cells cells e)) ?_ hn
  unfold execOp
  simp only [ho, Sem.run_bind]
  rw [run_buildSlice W T e 1 _ cells ie z hu hie hz hsmall hpos (by simpa [hx] using h)]
  simp only [Result.andThen_ok, Sem.run_pure]
end
end Go.Proofs.YtiinlplgloaanaaGreatDoor
