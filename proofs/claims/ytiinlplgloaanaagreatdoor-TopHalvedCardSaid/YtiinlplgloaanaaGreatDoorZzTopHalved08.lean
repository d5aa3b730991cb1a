/- Chapter 7 in the heap: whether the bricks have the area of the ground. -/
import Derived.Maps.AppendAt
import Derived.Test.YtiinlplgloaanaaGreatDoorZzTopHalved06
import Derived.Test.YtiinlplgloaanaaGreatDoorZzTopHalved05
import Derived.Test.YtiinlplgloaanaaGreatDoorZzTopHalved04
import Derived.Test.YtiinlplgloaanaaGreatDoorZzTopHalved03

/- Chapter 7 in the heap: a tiling is found: its bricks are sorted, and it is appended to the list. -/
namespace Go.Proofs.YtiinlplgloaanaaGreatDoor
set_option linter.all false
set_option linter.unusedSimpArgs false
set_option linter.unusedVariables false
open Go.RowKit

theorem infoSt : (Tryz.prog.info? 108).map (fun i => (i.zero, i.size, i.bytes)) = some (some (.agg #[.slice none 0 0, .int .u64 0, .int .u64 0, .int .u64 0, .int .u64 0, .int .u64 0, .int .u64 0, .int .u64 0, .int .i64 0, .int .i64 0, .int .i64 0, .int .i64 0, .int .i64 0, .int .i64 0, .int .i64 0, .int .i64 0]), 16, 144) := by kernel_rfl
theorem snoc_get {α : Type} {l : List α} {x y : α} {i : Nat} (h : (l ++ [x])[i]? = some y) : l[i]? = some y ∨ (i = l.length ∧ y = x) := by
  by_cases hi : i < l.length
  · rw [List.getElem?_append_left hi] at h; exact .inl h
  · rw [List.getElem?_append_right (by omega)] at h
    obtain ⟨h1, h2⟩ := List.getElem?_eq_some_iff.1 h
    simp at h1
    exact .inr ⟨by omega, by simpa using h2.symm⟩

set_option maxRecDepth 100000 in
set_option maxHeartbeats 2000000 in
theorem found_any {g : List Q} {L : List E} (hg64 : g.length ≤ 64) {lb base : Nat} {F : Nat → Prop} {Ts : List (List Pc)} {S : HS} {T : List Pc} {W : World} (hj : TJ W g L lb base F Ts) (hst : StT g L T S)
    (hs : RP.Own W base S.laid (T.map (hpT g L))) (hnF : ∀ k, S.laid.ownBlock = some k → ¬ F k) (hT : TbAt W) (hTg : 1 < base) (ha : ApartT T) (hin : ∀ p ∈ T, ∃ q ∈ g, q ∈ p.qs) (hne : T ≠ []) (hTl : T.length ≤ 64)
    (hlen : Ts.length ≤ 1000000000) (hbase : base ≤ W.heap.size) :
    Calls Tryz.prog 90 #[RS.val S, .pointer (some ⟨lb, 0, none⟩)] W fun e W' => (∃ v, e = .returned v) ∧ ∃ F' : Nat → Prop, TJ W' g L lb base F' (Ts ++ [T]) ∧
      (∀ k, F' k → F k ∨ S.laid.ownBlock = some k ∨ W.heap.size ≤ k) ∧ Fr (fun k => F k ∨ S.laid.ownBlock = some k) W W' := by
  obtain ⟨v, Ss, h1, h2, h3, h4, h5, h6, h7, h8⟩ := hj
  obtain ⟨vp, vc, rfl⟩ : ∃ vp vc, v = .slice vp Ss.length vc := (REnc.Own.has (R := RS) h2).slice
  have hlb := h8 lb h5
  have hW := Lib.hid (rfl : W.heap.size = W.heap.size)
  have hq1 : RP.Own (W.alloc (.cells (hsVals S).toArray 108)) base S.laid (T.map (hpT g L)) := owns_below hs ((Below.refl _ W).alloc (Nat.le_refl _) _)
  have hT1 : TbAt (W.alloc (.cells (hsVals S).toArray 108)) := hT.below ((Below.refl _ W).alloc (Nat.le_refl _) _)
  have hA1 := World.alloc_heap_new W (.cells (hsVals S).toArray 108)
  obtain ⟨hperm, hsort⟩ := sorted_T (L := L) hg64 ha hin
  have hC := sortPc_any base S.laid (T.map (hpT g L)) ((sortP g T).map (hpT g L)) _ hT1 hTg hq1 (by simpa using hne) (by rw [List.length_map]; omega) (fun p hp => by
    obtain ⟨r, _, rfl⟩ := List.mem_map.1 hp
    exact Nat.lt_of_lt_of_le (setG_lt _ g) (Nat.pow_le_pow_right (by decide) hg64)) hperm hsort
  have hlaid : ∀ k, S.laid.ownBlock = some k → k < W.heap.size := fun k hk => (owns_lt hs hk).2.1
  have HST := Lib.hid hst; clear hst
  have HNF := Lib.hid hnF; clear hnF
  have H2 := Lib.hid h2; clear h2
  have H3 := Lib.hid h3; clear h3
  have H4 := Lib.hid h4; clear h4
  have H6 := Lib.hid h6; clear h6
  have H7 := Lib.hid h7; clear h7
  have H8 := Lib.hid h8; clear h8
  have HLAID := Lib.hid hlaid; clear hlaid
  clear hs hperm hsort hne hTl ha hin hT hT1 hq1
  have c0 : (W.alloc (.cells (hsVals S).toArray 108)).cell? ⟨W.heap.size, 0, none⟩ = some (.slice S.lp S.ln S.lc) := by simp only [World.cell?, hA1]; rfl
  show Calls _ _ #[.agg (hsVals S).toArray, _] _ _
  have HC := Lib.hid hC; clear hC
  go_enter Tryz.func90, Tryz.ntmps90
  go_wp2_with fail
  refine HC.out.mono ?_
  rintro e w2 ⟨rfl, ho2, hz2, hos2, htp2, hout2, hk2⟩
  clear HC c0
  -- the blocks behind the sort
  have hal : Below W.heap.size W (W.alloc (.cells (hsVals S).toArray 108)) := (Below.refl _ W).alloc (Nat.le_refl _) _
  have hsz : (W.alloc (.cells (hsVals S).toArray 108)).heap.size = W.heap.size + 1 := World.size_alloc _ _
  have hbk : ∀ k, k < W.heap.size → S.laid.ownBlock ≠ some k → w2.heap[k]? = W.heap[k]? := fun k hk hne => (hk2 k (by omega) hne).trans (hal.block k hk)
  have hA2 : w2.heap[W.heap.size]? = some (.cells (hsVals S).toArray 108 (0, 0)) := (hk2 _ (by omega) fun e => by have := HLAID.out _ e; omega).trans hA1
  have hlb2 : w2.heap[lb]? = some (.cells #[.slice vp Ss.length vc] 96 (0, 0)) := (hbk lb (Array.getElem?_eq_some_iff.1 h1).1 fun e => HNF.out _ e h5).trans h1
  have hown2 : RS.Own w2 base (.slice vp Ss.length vc) Ss := owns_move H2.out fun k e => hbk k (owns_lt H2.out e).2.1 fun e' => HNF.out _ e' (H6.out k e)
  have hz : W.heap.size + 1 ≤ w2.heap.size := by omega
  have hos : w2.os = W.os := hos2.trans hal.os
  have htp : w2.tape = W.tape := htp2.trans hal.tape
  have hout : w2.output = W.output := hout2.trans hal.output
  clear hA1 hk2 hsz hz2 hos2 htp2 hout2
  obtain ⟨k0, k1, k2, k3, k4, k5, k6, k7, k8, k9, k10, k11, k12, k13, k14, k15⟩ := hs_cells hA2
  have a0 : w2.cell? ⟨lb, 0, none⟩ = some (.slice vp Ss.length vc) := by simp [World.cell?, hlb2]
  have HO2 := Lib.hid ho2; clear ho2
  have HBK := Lib.hid hbk; clear hbk
  have HFX := Lib.hid (And.intro hos (And.intro htp (And.intro hout hz))); clear hos htp hout hz
  clear hA2 hal
  obtain ⟨iS, hiS, hzS, hsS, hbS⟩ := info_parts infoSt
  have HM1 : Hid (Ss.length + 1 ≤ maxLen) := Lib.hid (by simp only [maxLen]; have := H3.out; omega)
  have HM2 : Hid ((Ss.length + 1) * 144 ≤ 140737488355328) := Lib.hid (by have := H3.out; omega)
  have hbs2 : base ≤ w2.heap.size := by have := HFX.out.2.2.2; omega
  have hown3 := owns_below hown2 ((Below.refl _ w2).alloc (Nat.le_refl _) (.cells (hsVals S).toArray 108))
  have hlb3 := heapO (.cells (hsVals S).toArray 108) hlb2
  have hcells := block_cells (World.alloc_heap_new w2 (.cells (hsVals S).toArray 108))
  have hne : ∀ k, (Value.slice vp Ss.length vc).ownBlock = some k → k ≠ lb := fun k e e' => by
    obtain ⟨_, _, cur, hc⟩ := owns_lt hown2 e
    rw [e', hlb2] at hc
    simp only [Option.some.injEq, Obj.cells.injEq] at hc
    exact absurd hc.2.1 (by decide)
  have hgr0 : ∀ (w1 : World), (w2.alloc (.cells (hsVals S).toArray 108)).grownBy w1 (Value.slice vp Ss.length vc).ownBlock → w1.heap[lb]? = some (.cells #[.slice vp Ss.length vc] 96 (0, 0)) := fun w1 hg =>
    (hg.block lb (Array.getElem?_eq_some_iff.1 hlb3).1 fun e => hne lb e.symm rfl).trans hlb3
  have HG0 := Lib.hid hgr0; clear hgr0
  have HNE := Lib.hid hne; clear hne
  have HOW3 := Lib.hid hown3; clear hown3
  have HCE := Lib.hid hcells; clear hcells
  have HL2 := Lib.hid hlb2; clear hlb2 hown2 hlb3 h1
  go_wp2_with (first
    | (at_builtin; refine wpList_append_own_at (P := Tryz.prog) _ rfl _ _ 96 rfl base 108 iS _ 16 144 Tryz.underlying96 hiS hzS hsS hbS rfl (by decide) (.slice vp Ss.length vc) Ss.length (RS.cells Ss) rfl HOW3.out ⟨w2.heap.size, 0, none⟩ 1 1 (hsVals S) rfl rfl HCE.out (RS.one S) HM1.out HM2.out (by rw [World.size_alloc]; omega) ?_; intro v' w1 hown' hgrow _ hat; obtain ⟨p', c', rfl⟩ := own_slice hown'; have hb1 : Boxed w1 lb 96 (.slice vp Ss.length vc) := HG0.out _ hgrow; have c1 := hb1.cell; have f1 := hb1.frozen))
  have hgrow' : (w2.alloc (.cells (hsVals S).toArray 108)).grownBy w1 (Value.slice vp Ss.length vc).ownBlock := hgrow
  have hat' : (Value.slice p' (Ss.length + 1) c').ownBlock = (Value.slice vp Ss.length vc).ownBlock ∨ (Value.slice p' (Ss.length + 1) c').ownBlock = some (w2.heap.size + 1) := by
    rcases hat with h | h
    · exact .inl h
    · exact .inr (h.trans (by rw [World.size_alloc]))
  have hown4 : RS.Own w1 base (.slice p' (Ss.length + 1) c') (Ss ++ [S]) := RS.own_snoc hown'
  clear hgrow hat hown' c1 f1
  have hlbs := (Array.getElem?_eq_some_iff.1 HL2.out).1
  have hz2 := HFX.out.2.2.2
  have hsz2 : (w2.alloc (.cells (hsVals S).toArray 108)).heap.size = w2.heap.size + 1 := World.size_alloc _ _
  have hal2 : Below w2.heap.size w2 (w2.alloc (.cells (hsVals S).toArray 108)) := (Below.refl _ w2).alloc (Nat.le_refl _) _
  have hkeep : ∀ k, k < w2.heap.size → k ≠ lb → (Value.slice vp Ss.length vc).ownBlock ≠ some k → (w1.setCell ⟨lb, 0, none⟩ (.slice p' (Ss.length + 1) c')).heap[k]? = w2.heap[k]? := fun k hk hne hv =>
    (heap_setCell_other _ _ _ _ hne).trans ((hgrow'.block k (by omega) fun e => hv e.symm).trans (hal2.block k hk))
  have hvs : ∀ k, (Value.slice vp Ss.length vc).ownBlock = some k → ∃ cur, (w2.alloc (.cells (hsVals S).toArray 108)).heap[k]? = some (.cells cur 108 (0, 0)) := fun k e => (owns_lt HOW3.out e).2.2
  have hmv : ∀ (k : Nat) (cs : Array Value), w2.heap[k]? = some (.cells cs 152 (0, 0)) → (w1.setCell ⟨lb, 0, none⟩ (.slice p' (Ss.length + 1) c')).heap[k]? = w2.heap[k]? := fun k cs hc => by
    have hk := (Array.getElem?_eq_some_iff.1 hc).1
    refine hkeep k hk (fun e => ?_) (fun e => ?_)
    · subst e; rw [HL2.out] at hc
      simp only [Option.some.injEq, Obj.cells.injEq] at hc
      exact absurd hc.2.1 (by decide)
    · obtain ⟨cur, hcur⟩ := hvs k e
      rw [hal2.block k hk, hc] at hcur
      simp only [Option.some.injEq, Obj.cells.injEq] at hcur
      exact absurd hcur.2.1 (by decide)
  have hown5 : RS.Own (w1.setCell ⟨lb, 0, none⟩ (.slice p' (Ss.length + 1) c')) base (.slice p' (Ss.length + 1) c') (Ss ++ [S]) := owns_move hown4 fun k e => heap_setCell_other _ _ _ _ (by
    rcases hat' with h | h
    · exact HNE.out k (h ▸ e)
    · rw [h] at e; cases e; exact fun e => by simp only at e; omega)
  go_end0
  refine ⟨⟨_, rfl⟩, fun k => (F k ∧ (Value.slice vp Ss.length vc).ownBlock ≠ some k) ∨ S.laid.ownBlock = some k ∨ (Value.slice p' (Ss.length + 1) c').ownBlock = some k,
    ⟨.slice p' (Ss.length + 1) c', Ss ++ [S], hb1.set _, hown5, by rw [List.length_append, List.length_append, H3.out]; rfl, ?_, .inl ⟨h5, fun e => HNE.out _ e rfl⟩, fun k e => .inr (.inr e), ?_, ?_⟩, ?_, ?_⟩
  · intro i S' T' hS' hT'
    rcases snoc_get hS' with hS1 | ⟨hi, rfl⟩
    · rcases snoc_get hT' with hT1 | ⟨hi, rfl⟩
      · obtain ⟨a, b⟩ := H4.out i S' T' hS1 hT1
        refine ⟨a, owns_move b fun k e => ?_⟩
        obtain ⟨_, hk, cur, hc⟩ := owns_lt b e
        have hFk := H7.out S' (List.mem_of_getElem? hS1) k e
        have h2 := HBK.out k hk fun e' => HNF.out _ e' hFk
        exact (hmv k cur (h2.trans hc)).trans h2
      · have := (List.getElem?_eq_some_iff.1 hS1).1
        have := H3.out
        omega
    · rcases snoc_get hT' with hT1 | ⟨_, rfl⟩
      · have := (List.getElem?_eq_some_iff.1 hT1).1
        have := H3.out
        omega
      · refine ⟨HST.out, owns_move HO2.out fun k e => ?_⟩
        obtain ⟨_, _, cur, hc⟩ := owns_lt HO2.out e
        exact hmv k cur hc
  · intro S' hS' k e
    rcases List.mem_append.1 hS' with h | h
    · refine .inl ⟨H7.out S' h k e, fun e' => ?_⟩
      obtain ⟨i, hi⟩ := List.getElem?_of_mem h
      obtain ⟨T', hT'⟩ : ∃ T', Ts[i]? = some T' := ⟨_, List.getElem?_eq_getElem (by rw [← H3.out]; exact (List.getElem?_eq_some_iff.1 hi).1)⟩
      obtain ⟨_, _, cur, hc⟩ := owns_lt (H4.out i S' T' hi hT').2 e
      obtain ⟨_, _, cur', hc'⟩ := owns_lt H2.out e'
      rw [hc] at hc'
      simp only [Option.some.injEq, Obj.cells.injEq] at hc'
      exact absurd hc'.2.1 (by decide)
    · rw [List.mem_singleton] at h; subst h; exact .inr (.inl e)
  · rintro k (⟨hF, hv⟩ | e | e)
    · obtain ⟨hb, cs, T', hc⟩ := H8.out k hF
      by_cases hkl : k = lb
      · subst hkl; exact ⟨hb, _, _, hb1.set _⟩
      · have hk := (Array.getElem?_eq_some_iff.1 hc).1
        have h2 := HBK.out k hk fun e' => HNF.out _ e' hF
        exact ⟨hb, cs, T', (hkeep k (by omega) hkl hv).trans (h2.trans hc)⟩
    · obtain ⟨hb, _, cur, hc⟩ := owns_lt HO2.out e
      exact ⟨hb, _, _, (hmv k cur hc).trans hc⟩
    · obtain ⟨hb, _, cur, hc⟩ := owns_lt hown5 e
      exact ⟨hb, _, _, hc⟩
  · rintro k (⟨hF, _⟩ | e | e)
    · exact .inl hF
    · exact .inr (.inl e)
    · rcases hat' with h | h
      · exact .inl (H6.out k (h ▸ e))
      · rw [h] at e; cases e; exact .inr (.inr (by omega))
  · have hsz4 : (w1.setCell ⟨lb, 0, none⟩ (.slice p' (Ss.length + 1) c')).heap.size = w1.heap.size := by simp
    refine ⟨?_, ?_, ?_, ?_, ?_⟩
    · have := (Below.setCell (Below.refl lb w1) (Nat.le_refl _) (Value.slice p' (Ss.length + 1) c') (p := ⟨lb, 0, none⟩)).os
      exact this.trans (hgrow'.os.trans (hal2.os.trans HFX.out.1))
    · have := (Below.setCell (Below.refl lb w1) (Nat.le_refl _) (Value.slice p' (Ss.length + 1) c') (p := ⟨lb, 0, none⟩)).tape
      exact this.trans (hgrow'.tape.trans (hal2.tape.trans HFX.out.2.1))
    · have := (Below.setCell (Below.refl lb w1) (Nat.le_refl _) (Value.slice p' (Ss.length + 1) c') (p := ⟨lb, 0, none⟩)).output
      exact this.trans (hgrow'.output.trans (hal2.output.trans HFX.out.2.2.1))
    · have := hgrow'.size
      omega
    · intro k hk hn
      have h2 := HBK.out k hk fun e => hn (.inr e)
      exact (hkeep k (by omega) (fun e => hn (.inl (e ▸ h5))) fun e => hn (.inl (H6.out k e))).trans h2
end Go.Proofs.YtiinlplgloaanaaGreatDoor

/- A region that draws its order under one joint fact, inside a round. -/
namespace Go.Proofs.YtiinlplgloaanaaGreatDoor
set_option linter.all false
set_option linter.unusedSimpArgs false
set_option linter.unusedVariables false
open Go.RowKit
section
variable {P : Program} {ops : Array Oper}
/-- **.. inside a round (or outside).** -/
theorem wpIn_region_joint {ro : Option Nat} {id : Nat} {Q : Exit → Act → World → Prop} {a : Act} {w : World} {l : List Oper} (m : Nat) (hm : P.follows .mixedOrders = true) (hB : jqB l.toArray m = true) (hD : noDefer l.toArray = true) (hsz : a.tmps.size = m)
    (J : (Nat → Bool) → (Nat → Value) → World → Prop) (h0 : J (fun _ => false) (fun _ => undef) w.drew) (hall : jointFrom P l.toArray a J 0 l)
    (hdone : ∀ (L : Nat → Bool) (vals : Nat → Value) (W : World), (∀ i, i < l.length → L i = true) → J L vals W → Q .normal (putAll l ((List.range l.length).map vals) a) W) :
    (Code.region id l.toArray true).wpIn (FW ro) 0 P Q a w := by
  subst hsz
  have g := jq_of hB
  have hsize : l.toArray.size = l.length := by simp
  have hnd : ∀ (i : Nat) (o : Oper), l.toArray[i]? = some o → ∀ c, o.op ≠ .defer c := fun i o ho c hc => by
    have := Array.all_eq_true_iff_forall_mem.1 hD o (Array.mem_of_getElem? ho)
    simp [hc] at this
  refine wpIn_region_any hm (wpAnyIn_anyG _ _ _ _ ?_)
  refine any_inv (ops := l.toArray) (S := fun i K => wpOpIn (FW ro) 0 P l.toArray Q i K) (fun L b W => ∃ (L0 : Nat → Bool) (vals : Nat → Value), (∀ i, i < l.toArray.size → L i = L0 i) ∧ Fill l.toArray a L0 vals b ∧ J L0 vals W) g.back (fun i K K' a w hk => wpOpIn_mono hk) ?_ ?_ ?_ l.toArray.size _ a w.drew ⟨fun _ => false, fun _ => undef, fun i _ => getD_rep _ _, Fill.start a (fun _ => undef), h0⟩ (by simp) (count_false _) (fun j oj _ hl => by rw [getD_rep] at hl; cases hl)
  · rintro L L' b W hLL ⟨L0, vals, h1, h2, h3⟩
    exact ⟨L0, vals, fun i hi => by rw [hLL i hi]; exact h1 i hi, h2, h3⟩
  · rintro L b W i o ⟨L0, vals, h1, h2, h3⟩ hcl hi ho hdeps
    have hlt : i < l.toArray.size := (Array.getElem?_eq_some_iff.1 ho).1
    have hi0 : L0 i = false := by rw [← h1 i hlt]; exact hi
    have hdep : ∀ j, waits l.toArray i j = true → L0 j = true := fun j hw => by
      have := waits_dep (ops := l.toArray) (L := L) ho hdeps hw
      rw [← h1 j (by have := waitsJ_lt g hw; omega)]; exact this
    have hclo : ∀ j k, j < l.toArray.size → L0 j = true → waits l.toArray j k = true → L0 k = true := fun j k hj hlj hw => by
      obtain ⟨oj, hoj, e, he, hb, hon⟩ := waits_spec hw
      rw [← h1 j hj] at hlj
      have := hcl j oj hoj hlj e he hb
      rw [hon] at this
      rw [← h1 k (by have := waitsJ_lt g hw; omega)]; exact this
    have hkn : JK l.toArray a i L0 b vals := ⟨fun d hd => h2.miss d (fun j o hj hjd => by
      cases hl : L0 j with
      | false => rfl
      | true => rw [hclo j i (Array.getElem?_eq_some_iff.1 hj).1 hl (hd j o hj hjd)] at hi0; cases hi0), fun j d oj hw hoj hd => h2.hit j d oj hoj hd (hdep j hw) (g.dst j d oj hoj hd)⟩
    have hone := jointFrom_get l 0 i o hall (by simpa using ho)
    rw [Nat.zero_add] at hone
    have hl := hone L0 b W vals hi0 hdep hclo hkn h3
    have hnext : ∀ v W', J (fun j => L0 j || j == i) (fun j => if j = i then v else vals j) W' → ∃ (L1 : Nat → Bool) (vals1 : Nat → Value), (∀ j, j < l.toArray.size → (L j || j == i) = L1 j) ∧ Fill l.toArray a L1 vals1 (b.put o.dst v) ∧ J L1 vals1 W' := fun v W' hJ =>
      ⟨_, _, fun j hj => by rw [h1 j hj], h2.putJ g ho hi0 v, hJ⟩
    unfold wpOpIn
    simp only [ho, Region.wanted, g.nogd i o ho, if_true]
    refine ⟨fun _ _ => trivial, ?_⟩
    rw [Oper.semAt_eq _ _ _ (hnd i o ho)]
    revert hl
    cases (execOp b.eval o).run P W with
    | halt x w' => exact fun h => h.elim
    | ok x w' =>
      cases x <;> simp only [loudUpon, Oper.uponIn] <;> first | exact fun h => h.elim | exact fun h => hnext _ _ h | skip
      case enter f args =>
        refine fun hc => ⟨fun h => by simp at h, callsIn_FW.2 (hc.mono fun e w'' => ?_)⟩
        cases e with
        | returned v => exact fun h => hnext _ _ h
        | _ => exact fun h => h.elim
  · rintro L b W ⟨L0, vals, h1, h2, h3⟩ hL
    have hL0 : ∀ i, i < l.length → L0 i = true := fun i hi => by rw [← h1 i (by omega)]; exact hL i (by omega)
    have hf : Fill l.toArray a (fun i => decide (i < l.toArray.size)) vals b := h2.congr (fun i hi => by rw [hL0 i (by omega)]; simp; omega) (fun _ _ _ => rfl)
    have e := fill_putAllJ hf g
    rw [hsize] at e
    rw [e]
    exact hdone L0 vals W hL0 h3

end
end Go.Proofs.YtiinlplgloaanaaGreatDoor

/- A region that draws its order and holds one call that changes memory, and one store behind it ('x += f(..)'). -/
namespace Go.Proofs.YtiinlplgloaanaaGreatDoor
set_option linter.all false
set_option linter.unusedSimpArgs false
set_option linter.unusedVariables false
open Go.RowKit
attribute [local go_sem] Oper.semAt_some

/-- What is known when the operations L are done: the call is operation k, the store operation s; c: the values. -/
structure CallJ (k s : Nat) (c : Nat → Option Value) (Pre Post Fin : World → Prop) (L : Nat → Bool) (vals : Nat → Value) (W : World) : Prop where
  pure_ : ∀ i v, c i = some v → L i = true → vals i = v
  pre : L k = false → Pre W
  post : L k = true → L s = false → Post W
  fin : L s = true → Fin W
section
variable {k s : Nat} {c : Nat → Option Value} {Pre Post Fin : World → Prop} {L : Nat → Bool} {vals : Nat → Value} {W W' : World}
theorem CallJ.start (h : Pre W) (v : Nat → Value) : CallJ k s c Pre Post Fin (fun _ => false) v W := ⟨fun _ _ _ h => by simp at h, fun _ => h, fun h => by simp at h, fun h => by simp at h⟩
theorem CallJ.other (h : CallJ k s c Pre Post Fin L vals W) {i : Nat} {v : Value} (hi : i ≠ k ∧ i ≠ s) (hv : c i = some v) : CallJ k s c Pre Post Fin (fun j => L j || j == i) (fun j => if j = i then v else vals j) W := by
  have q1 : (k == i) = false := by simp only [beq_eq_false_iff_ne, ne_eq]; exact Ne.symm hi.1
  have q2 : (s == i) = false := by simp only [beq_eq_false_iff_ne, ne_eq]; exact Ne.symm hi.2
  refine ⟨fun j u hj hl => ?_, fun hl => h.pre (by simpa [q1] using hl), fun hl hs => h.post (by simpa [q1] using hl) (by simpa [q2] using hs), fun hs => h.fin (by simpa [q2] using hs)⟩
  by_cases e : j = i
  · subst e; rw [if_pos rfl]; rw [hv] at hj; exact Option.some.inj hj
  · rw [if_neg e]; exact h.pure_ j u hj (by simpa [e] using hl)
theorem CallJ.call (h : CallJ k s c Pre Post Fin L vals W) (hks : k ≠ s) (hs : L s = false) {v : Value} (hv : c k = some v) (hp : Post W') : CallJ k s c Pre Post Fin (fun j => L j || j == k) (fun j => if j = k then v else vals j) W' := by
  have q2 : (s == k) = false := by simp only [beq_eq_false_iff_ne, ne_eq]; exact Ne.symm hks
  refine ⟨fun j u hj hl => ?_, fun hl => by simp at hl, fun _ _ => hp, fun hl => by simp [q2, hs] at hl⟩
  by_cases e : j = k
  · subst e; rw [if_pos rfl]; rw [hv] at hj; exact Option.some.inj hj
  · rw [if_neg e]; exact h.pure_ j u hj (by simpa [e] using hl)
theorem CallJ.store (h : CallJ k s c Pre Post Fin L vals W) (hk : L k = true) (hv : c s = none) (hf : Fin W') : CallJ k s c Pre Post Fin (fun j => L j || j == s) (fun j => if j = s then undef else vals j) W' := by
  refine ⟨fun j u hj hl => ?_, fun hl => by simp [hk] at hl, fun _ hl => by simp at hl, fun _ => hf⟩
  by_cases e : j = s
  · subst e; rw [hv] at hj; cases hj
  · rw [if_neg e]; exact h.pure_ j u hj (by simpa [e] using hl)
end
section
variable {P : Program}
theorem lu_add {next : Value → World → Prop} {o : Oper} {x y : Operand} {T T2 : TypeId} (hop : o.op = .binOp .add T x y T2) {b : Act} {W : World} {m n : Int} (hx : b.eval x = .int .i64 m) (hy : b.eval y = .int .i64 n) (hr : IntKind.i64.wrap (m + n) = m + n)
    (hn : next (.int .i64 (m + n)) W) : loudUpon P next ((execOp b.eval o).run P W) := by
  refine lu_value (W' := W) (v := .int .i64 (m + n)) ?_ hn
  unfold execOp
  simp only [hop, hx, hy]
  simp [go_sem, hr]
theorem lu_store {next : Value → World → Prop} {o : Oper} {p u : Operand} {T : TypeId} (hop : o.op = .store T p u) {b : Act} {W W' : World} {q : Addr} {v : Value} (hp : b.eval p = .pointer (some q)) (hu : b.eval u = v)
    (hrun : (Instr.storeAt T (.pointer (some q)) v).run P W = .ok () W') (hn : next undef W') : loudUpon P next ((execOp b.eval o).run P W) := by
  refine lu_skip (W' := W') ?_ hn
  unfold execOp
  simp only [hop, hp, hu, Sem.run_bind, hrun, Result.andThen_ok, Sem.run_pure]
end
end Go.Proofs.YtiinlplgloaanaaGreatDoor

/- Chapter 7 in the heap: whether the bricks have the area of the ground. -/
namespace Go.Proofs.YtiinlplgloaanaaGreatDoor
set_option linter.all false
set_option linter.unusedSimpArgs false
set_option linter.unusedVariables false
open Go.RowKit

def sumF (t : Tk) (k : Nat) : Int := (((t.counts.zip t.kinds).take k).map fun x => x.1 * (x.2.length : Int)).sum
theorem sumF_snoc {t : Tk} {k : Nat} {c : Int} {s : List Q} (hc : t.counts[k]? = some c) (hs : t.kinds[k]? = some s) : sumF t (k + 1) = sumF t k + c * s.length := by
  unfold sumF
  have hz : (t.counts.zip t.kinds)[k]? = some (c, s) := by rw [List.getElem?_zip_eq_some]; exact ⟨hc, hs⟩
  rw [List.take_add_one, hz, List.map_append, List.sum_append]
  simp
theorem sumF_all {t : Tk} (h : t.counts.length = t.kinds.length) : fitsT t = decide (sumF t t.counts.length = (t.ground.length : Int)) := by
  unfold fitsT sumF
  rw [List.take_of_length_le (by rw [List.length_zip]; omega)]
theorem sumF_le {t : Tk} (h : OkT t) : ∀ k, k ≤ t.counts.length → 0 ≤ sumF t k ∧ sumF t k ≤ 256 * k
  | 0, _ => by simp [sumF]
  | k + 1, hk => by
    have ih := sumF_le h k (by omega)
    have hc : t.counts[k]? = some t.counts[k] := List.getElem?_eq_getElem (by omega)
    have hk2 : k < t.kinds.length := by rw [← h.clen]; omega
    have hs : t.kinds[k]? = some t.kinds[k] := List.getElem?_eq_getElem hk2
    rw [sumF_snoc hc hs]
    have h1 := h.cnt _ (List.mem_of_getElem? hc)
    have h2 := h.kind16 _ (List.mem_of_getElem? hs)
    have h3 : (0 : Int) ≤ t.counts[k] * (t.kinds[k].length : Int) := Int.mul_nonneg h1.1 (by omega)
    have h4 : t.counts[k] * (t.kinds[k].length : Int) ≤ 16 * 16 := Int.mul_le_mul h1.2 (by omega) (by omega) (by omega)
    omega
theorem RI.at_cell {W : World} {a : Addr} {l : List Int} (h : RI.At W a l) {i : Nat} {c : Int} (hc : l[i]? = some c) : W.cell? (a.add i) = some (.int .i64 c) := by
  have := h.at_ i c hc 0 (.int .i64 c) rfl
  simpa [RI] using this

theorem HasQQ.at {W : World} {p : Option Addr} {n c : Nat} {ls : List (List Q)} (h : HasQQ W (.slice p n c) ls) {k : Nat} {l : List Q} (hk : ls[k]? = some l) :
    ∃ a x, p = some a ∧ W.cell? (a.add k) = some x ∧ HasQ W x l := by
  rcases h with ⟨_, h⟩ | ⟨a, c, vs, h1, _, _, h4, h5, h6⟩
  · rw [h] at hk; simp at hk
  · simp only [Value.slice.injEq] at h1
    obtain ⟨x, hx⟩ : ∃ u, vs[k]? = some u := ⟨_, List.getElem?_eq_getElem (by rw [h5]; exact (List.getElem?_eq_some_iff.1 hk).1)⟩
    exact ⟨a, x, h1.1, h4.at_ k x hx, h6 k x l hx hk⟩

set_option maxRecDepth 100000 in
set_option maxHeartbeats 2000000 in
theorem fits_any (w : World) (bb : Nat) (bv : BV) (t : Tk) (L : List E) (ps : List (List HP)) (bel : W3) (hb : BdAt w bb bv t L ps bel) (ho : OkT t) :
    Calls Tryz.prog 66 #[.pointer (some ⟨bb, 0, none⟩)] w fun e w' => e = .returned (.bool (fitsT t)) ∧ w' = w := by
  obtain ⟨hblk, hgr, hki, hco, _, _, _, _, _, _⟩ := hb
  obtain ⟨vg, vk, vc, vf, vb, qm, em, pv, pvs⟩ := bv
  simp only at hblk hgr hki hco
  obtain ⟨gp, gc, rfl⟩ := hgr.slice
  obtain ⟨kp, kc, rfl⟩ := hki.slice
  obtain ⟨cp, cc, rfl⟩ := hco.slice
  have HK := Lib.hid hki; clear hki
  have HC := Lib.hid hco; clear hco
  have HO := Lib.hid ho
  have HL := Lib.hid ho.clen
  have h8 : t.counts.length ≤ 8 := by rw [ho.clen]; exact ho.klen.2
  have h64 := ho.g64
  clear ho hgr
  have b0 : w.cell? ⟨bb, 0, none⟩ = some (.slice gp t.ground.length gc) := by simp [World.cell?, hblk]
  have b1 : w.cell? ⟨bb, 1, none⟩ = some (.slice kp t.kinds.length kc) := by simp [World.cell?, hblk]
  have b2 : w.cell? ⟨bb, 2, none⟩ = some (.slice cp t.counts.length cc) := by simp [World.cell?, hblk]
  clear hblk
  rw [sumF_all HL.out]
  go_enter Tryz.func66, Tryz.ntmps66
  go_wp2_with fail
  go_loopw [3, 12] (fun u z wr => ∃ k : Nat, k ≤ t.counts.length ∧ u = .int .i64 (sumF t k) ∧ z = .int .i64 k ∧ wr = w) (fun _ z _ => t.counts.length - (intOf z).toNat)
  case atStart => exact ⟨0, by omega, rfl, rfl, rfl⟩
  case round =>
    obtain ⟨k, hk, rfl, rfl, rfl⟩ := hrel
    have hs := sumF_le HO.out k hk
    by_cases hlt : k < t.counts.length
    · have hk2 : k < t.kinds.length := by rw [← HL.out]; exact hlt
      obtain ⟨c, hc⟩ : ∃ c, t.counts[k]? = some c := ⟨_, List.getElem?_eq_getElem hlt⟩
      obtain ⟨s, hs'⟩ : ∃ s, t.kinds[k]? = some s := ⟨_, List.getElem?_eq_getElem hk2⟩
      have h1 := HO.out.cnt _ (List.mem_of_getElem? hc)
      have h2 := HO.out.kind16 _ (List.mem_of_getElem? hs')
      have hsn := sumF_snoc hc hs'
      have hs2 := sumF_le HO.out (k + 1) hlt
      obtain ⟨ka, kx, rfl, k0, hkx⟩ := HK.out.at hs'
      obtain ⟨xp, xc, rfl⟩ := hkx.slice
      obtain ⟨ca, rfl, hca⟩ := HC.out.at_ (by rintro e; rw [e] at hc; simp at hc)
      have c0 := RI.at_cell hca hc
      have hm : (0 : Int) ≤ c * (s.length : Int) := Int.mul_nonneg h1.1 (by omega)
      have hm2 : c * (s.length : Int) ≤ 256 := by
        have : c * (s.length : Int) ≤ 16 * 16 := Int.mul_le_mul h1.2 (by omega) (by omega) (by omega)
        omega
      generalize hp : c * (s.length : Int) = p at hm hm2 hsn
      have HSN := Lib.hid hsn; clear hsn
      have HP := Lib.hid hp
      clear hs' hc hca hkx
      go_wp2_with fail
      go_roundw
      case rel => exact ⟨k + 1, by omega, by rw [HSN.out], by go_num, trivial⟩
      case measure => simp [intOf]; omega
    · obtain rfl : k = t.counts.length := by omega
      have he : ((sumF t t.counts.length) == (t.ground.length : Int)) = decide (sumF t t.counts.length = (t.ground.length : Int)) := by rw [Bool.eq_iff_iff]; simp
      go_wp2_with fail
      go_ret
      exact ⟨ret_bool he, rfl⟩
end Go.Proofs.YtiinlplgloaanaaGreatDoor
