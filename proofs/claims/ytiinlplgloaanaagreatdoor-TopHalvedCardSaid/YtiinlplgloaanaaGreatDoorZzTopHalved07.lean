/- Chapter 7 in the heap: next, the iterator over the children of a state. -/
import Derived.Test.YtiinlplgloaanaaGreatDoorZzTopHalved05
import Derived.Lib.Zigzag
import Derived.Test.YtiinlplgloaanaaGreatDoorZzTopHalved06

/- Chapter 7 in the heap: next, the iterator over the children of a state. -/
namespace Go.Proofs.YtiinlplgloaanaaGreatDoor
set_option linter.all false
set_option linter.unusedSimpArgs false
set_option linter.unusedVariables false
open Go.RowKit
attribute [local go_sem] Oper.semAt_some

def pcsT (t : Tk) (L : List E) : List (List HP) := (piecesT t).map fun l => l.map (hpT t.ground L)
def belT (t : Tk) (L : List E) : W3 := wordsE (fun e => decide (e ∈ t.below)) L
theorem set64 {g : List Q} (hg : g.length ≤ 64) (P : Q → Bool) : setG P g < 2 ^ 64 := Nat.lt_of_lt_of_le (setG_lt P g) (Nat.pow_le_pow_right (by decide) hg)
theorem nodup_lt {n : Nat} : ∀ {l : List Nat}, l.Nodup → (∀ x ∈ l, x < n) → l.length ≤ n := by
  induction n with
  | zero => intro l _ h; cases l with | nil => simp | cons a l => have := h a (by simp); omega
  | succ n ih =>
    intro l hn h
    by_cases hm : n ∈ l
    · have := ih (l := l.erase n) (hn.erase n) fun x hx => by
        have h1 := h x (List.mem_of_mem_erase hx)
        have : x ≠ n := fun e => by subst e; exact (hn.not_mem_erase) hx
        omega
      rw [List.length_erase_of_mem hm] at this
      omega
    · have := ih hn fun x hx => by
        have h1 := h x hx
        have : x ≠ n := fun e => hm (e ▸ hx)
        omega
      omega
/-- No more bricks than quarters. -/
theorem good_length {t : Tk} {s : List Pc} (hg : GoodT t s) (hin : ∀ p ∈ s, ∃ q ∈ t.ground, q ∈ p.qs) : s.length ≤ t.ground.length := by
  have h1 := leasts_ne hg.apart hin
  have h2 : (s.map (leastP t.ground)).Nodup := by
    unfold List.Nodup
    rw [List.pairwise_map]
    exact h1
  have := nodup_lt (n := t.ground.length) h2 fun x hx => by
    obtain ⟨p, hp, rfl⟩ := List.mem_map.1 hx
    obtain ⟨i, q, _, ei, gi, _⟩ := leastP_get (hin p hp)
    rw [ei]
    exact (List.getElem?_eq_some_iff.1 gi).1
  simpa using this
theorem many_le (s : List Pc) (k : Int) : manyT s k ≤ s.length := List.length_filter_le _ _
theorem TkOk.hits {t : Tk} {L : List E} (ok : TkOk t L) {s : List Pc} (hg : GoodT t s) : ∀ p ∈ s, ∃ q ∈ t.ground, q ∈ p.qs := fun p hp => by
  have h1 := hg.mem p hp
  obtain ⟨q, hq⟩ := List.exists_mem_of_ne_nil _ (ok.ne p h1)
  exact ⟨q, ok.inG p h1 q hq, hq⟩
theorem TkOk.len64 {t : Tk} {L : List E} (ok : TkOk t L) {s : List Pc} (hg : GoodT t s) : s.length ≤ 64 := Nat.le_trans (good_length hg (ok.hits hg)) ok.g64

/-- What the iterator needs between two rounds. -/
structure NxN (t : Tk) (L : List E) (s : List Pc) (S : HS) (sb bx bb : Nat) (bv : BV) (base : Nat) (W : World) : Prop where
  sbx : W.heap[sb]? = some (.cells (hsVals S).toArray 108 (0, 0))
  bxx : W.heap[bx]? = some (.cells #[.pointer (some ⟨bb, 0, none⟩)] 94 (0, 0))
  bd : BdAt W bb bv t L (pcsT t L) (belT t L)
  own : RP.Own W base S.laid (s.map (hpT t.ground L))
  tb : TbAt W
theorem NxN.below {t : Tk} {L : List E} {s : List Pc} {S : HS} {sb bx bb : Nat} {bv : BV} {base : Nat} {W W' : World} (h : NxN t L s S sb bx bb bv base W) (e : Below W.heap.size W W') : NxN t L s S sb bx bb bv base W' :=
  ⟨(e.block _ (Array.getElem?_eq_some_iff.1 h.sbx).1).trans h.sbx, (e.block _ (Array.getElem?_eq_some_iff.1 h.bxx).1).trans h.bxx, h.bd.keep e, owns_below h.own e, h.tb.below e⟩
def NxX (t : Tk) (L : List E) (s : List Pc) (k : Nat) (args : Array Value) (W0 W1 : World) : Prop :=
  ∃ (S' : HS) (c : List Pc), (childrenT t s)[k]? = some c ∧ args = #[RS.val S'] ∧ StT t.ground L c S' ∧ RP.Own W1 W0.heap.size S'.laid (c.map (hpT t.ground L))

/-- put, at a piece of the board. -/
theorem put_T {t : Tk} {L : List E} (ok : TkOk t L) {s : List Pc} {S : HS} (hst : StT t.ground L s S) (hg : GoodT t s) {k : Nat} {l : List Pc} (hl : (piecesT t)[k]? = some l) {p : Pc} (hp : p ∈ l)
    {w : World} {bb : Nat} {bv : BV} (hb : BdAt w bb bv t L (pcsT t L) (belT t L)) {base : Nat} (hs : RP.Own w base S.laid (s.map (hpT t.ground L))) :
    Calls Tryz.prog 112 #[.pointer (some ⟨bb, 0, none⟩), RS.val S, RP.val (hpT t.ground L p)] w fun e w' =>
      ∃ (S' : HS) (b : Bool), e = .returned (.tuple #[RS.val S', .bool b]) ∧ (b = true → putT t s p = some (s ++ [p]) ∧ StT t.ground L (s ++ [p]) S' ∧ RP.Own w' w.heap.size S'.laid ((s ++ [p]).map (hpT t.ground L))) ∧ (b = false → putT t s p = none) ∧ Below w.heap.size w w' := by
  have hpf : p ∈ (piecesT t).flatten := List.mem_flatten.2 ⟨l, List.mem_of_getElem? hl, hp⟩
  have hk := ok.kind k l hl p hp
  have hlt : k < t.kinds.length := by rw [← pieces_length]; exact (List.getElem?_eq_some_iff.1 hl).1
  obtain ⟨c, hc⟩ : ∃ c, t.counts[k]? = some c := ⟨_, List.getElem?_eq_getElem (by rw [ok.clen]; exact hlt)⟩
  have h8 : k < 8 := Nat.lt_of_lt_of_le hlt ok.k8
  have hlen := ok.len64 hg
  have hcan := can_iff (p := p) hst (ok.inG p hpf) (ok.inL p hpf) ok.l192 hk hc
  refine (put_any7 w bb bv t L (pcsT t L) (belT t L) hb (wordsE_lt _ _) S (s.map (hpT t.ground L)) base hs (by rw [hst.set]; exact set64 ok.g64 _) (by rw [hst.bord]; exact wordsE_lt _ _) (by rw [hst.joint]; exact wordsE_lt _ _)
    (fun j => by rw [hst.many]; exact Nat.le_trans (many_le _ _) hlen) (by rw [List.length_map]; exact hlen) (hpT t.ground L p) (set64 ok.g64 _) (wordsE_lt _ _) k hk c hc (ok.cnt k c hc) h8).mono ?_
  rintro e w' ⟨S', b, rfl, h1, h2, h3, h4⟩
  refine ⟨S', b, rfl, fun hb => ?_, fun hb => ?_, h4⟩
  · obtain ⟨a1, a2, a3, a4, a5⟩ := h3 hb
    refine ⟨hcan.1 (h1.1 hb), st_snoc hst hk a1 a2 a3 a4, ?_⟩
    rw [List.map_append]; exact a5
  · refine putT_none_of fun hp' => ?_
    have := h1.2 (hcan.2 hp')
    rw [hb] at this; cases this

theorem xor64 {n : Nat} (h : n < 2 ^ 64) : bits .xor .u64 IntKind.u64.max (n : Int) = ((2 ^ 64 - 1 - n : Nat) : Int) := by
  have h1 := bits_xor_u64_nat (2 ^ 64 - 1) n (by decide) (by omega)
  rw [Lib.xor_ones64 n h] at h1
  exact h1
theorem free_get {t : Tk} {s : List Pc} {q : Q} (hf : freeT t s = some q) : ∃ fi : Nat, t.ground.findIdx? (fun q => !covT s q) = some fi ∧ t.ground[fi]? = some q := by
  cases h : t.ground.findIdx? (fun q => !covT s q) with
  | none =>
    rw [List.findIdx?_eq_none_iff] at h
    obtain ⟨a, b⟩ := freeT_spec hf
    have := h q a
    simp [b] at this
  | some i =>
    refine ⟨i, rfl, ?_⟩
    obtain ⟨hi, a, b⟩ := List.findIdx?_eq_some_iff_getElem.1 h
    rw [List.getElem?_eq_getElem hi]
    have : t.ground.find? (fun q => !covT s q) = some t.ground[i] := by
      rw [List.find?_eq_some_iff_getElem]
      exact ⟨a, i, hi, rfl, fun j hj => by have := b j hj; simpa using this⟩
    unfold freeT at hf
    rw [this] at hf
    exact hf
/-- Which pieces have the free quarter. -/
theorem has_free {g : List Q} {L : List E} (hg : g.length ≤ 64) {p : Pc} {fi : Nat} {q : Q} (h : g[fi]? = some q) (hin : ∃ q ∈ g, q ∈ p.qs) : (hpT g L p).set.testBit fi = decide (q ∈ p.qs) ∧ (fi < leastH (hpT g L p) → q ∉ p.qs) := by
  refine ⟨by unfold hpT; simp only; rw [setG_bit, h], fun hl hq => ?_⟩
  rw [leastH_T hg hin] at hl
  obtain ⟨i, r, h1, h2, h3, h4⟩ := leastP_get hin
  rw [h2] at hl
  obtain ⟨hi, _, h5⟩ := List.findIdx?_eq_some_iff_getElem.1 h1
  have := h5 fi hl
  have hfi := (List.getElem?_eq_some_iff.1 h)
  rw [hfi.2] at this
  simp [hq] at this

theorem shr_bit {n : Nat} (h : n < 2 ^ 64) (i : Nat) : (bits .and .u64 ((n : Int) / 2 ^ i) 1 == 0) = !(n.testBit i) := by
  have e : ((n : Int) / 2 ^ i) = ((n / 2 ^ i : Nat) : Int) := by norm_cast
  have h1 : n / 2 ^ i < 2 ^ 64 := Nat.lt_of_le_of_lt (Nat.div_le_self _ _) h
  have h2 := and64 h1 (show 1 < 2 ^ 64 by decide)
  rw [e]
  rw [show (1 : Int) = ((1 : Nat) : Int) from rfl, h2, Nat.and_one_is_mod, Nat.testBit_eq_decide_div_mod_eq]
  rcases (by omega : n / 2 ^ i % 2 = 0 ∨ n / 2 ^ i % 2 = 1) with h | h <;> rw [h] <;> rfl
set_option maxRecDepth 100000 in
set_option maxHeartbeats 4000000 in
theorem next_iter {t : Tk} {L : List E} (ok : TkOk t L) {s : List Pc} {S : HS} (hst : StT t.ground L s S) (hgd : GoodT t s) {q : Q} (hf : freeT t s = some q) (sb bx bb : Nat) (bv : BV) (base : Nat) :
    IterP Tryz.prog 154 (fun y => #[y, .pointer (some ⟨sb, 0, none⟩), .pointer (some ⟨bx, 0, none⟩)]) (childrenT t s).length (NxN t L s S sb bx bb bv base) (NxX t L s) := by
  intro l J Jx W hJ hJx hN hY h0
  obtain ⟨vg, vk, vc, vf, vb, qm, em, pv, pvs⟩ := bv
  have HN0 := hN 0 W (Nat.zero_le _) h0
  obtain ⟨pp, pc, hpv⟩ := HN0.bd.pieces.slice
  simp only at hpv
  subst hpv
  obtain ⟨fi, hfi, hq⟩ := free_get hf
  have hset : S.set < 2 ^ 64 := by rw [hst.set]; exact set64 ok.g64 _
  have hfl : fi < 64 := Nat.lt_of_lt_of_le (List.getElem?_eq_some_iff.1 hq).1 ok.g64
  have hctz : Lib.ctz 64 (2 ^ 64 - 1 - S.set) = fi := by rw [hst.set]; exact ctz_free ok.g64 hfi
  have htz : ∀ w, TbAt w → Calls Tryz.prog 126 #[.int .u64 (2 ^ 64 - 1 - S.set : Nat)] w fun e w' => e = .returned (.int .i64 fi) ∧ w' = w := fun w hw => by
    have := tz64_any (2 ^ 64 - 1 - S.set) (by omega) w hw
    rwa [hctz] at this
  have hxor := xor64 hset
  have HCT := Lib.hid hctz; clear hctz
  have hns : IntKind.u64.signed = false := rfl
  revert htz hxor
  generalize 2 ^ 64 - 1 - S.set = ns
  intro htz hxor
  have HTZ := Lib.hid htz; clear htz
  have HOK := Lib.hid ok; clear ok
  have HST := Lib.hid hst; clear hst
  have HGD := Lib.hid hgd; clear hgd
  have HF := Lib.hid hf; clear hf
  have HJ := Lib.hid hJ; clear hJ
  have HJx := Lib.hid hJx; clear hJx
  have HN := Lib.hid hN; clear hN
  have HY := Lib.hid hY; clear hY
  have H0 := Lib.hid h0; clear h0
  have HFI := Lib.hid hfi; clear hfi
  have HQ := Lib.hid hq; clear hq
  have HSET := Lib.hid hset; clear hset
  have s1 : W.cell? ⟨sb, 1, none⟩ = some (.int .u64 S.set) := by simp [World.cell?, HN0.sbx, hsVals]
  have b0 : W.cell? ⟨bx, 0, none⟩ = some (.pointer (some ⟨bb, 0, none⟩)) := by simp [World.cell?, HN0.bxx]
  have b7 : W.cell? ⟨bb, 7, none⟩ = some (.slice pp (pcsT t L).length pc) := by simp [World.cell?, HN0.bd.blk]
  have HNN := Lib.hid HN0; clear HN0
  have hn8 : (pcsT t L).length ≤ 8 := by unfold pcsT; rw [List.length_map, pieces_length]; exact HOK.out.k8
  refine callsIn_of_wp Tryz.func154 rfl trivial ?_ rfl
  simp only [Tryz.ntmps154, List.size_toArray, List.length_cons, List.length_nil, Nat.reduceAdd, Nat.reduceSub, Array.replicate_succ, Array.replicate_zero, List.push_toArray, List.append_toArray, List.nil_append, List.cons_append]
  gi_wp2_with (refine callsIn_FW.2 ((HTZ.out _ HNN.out.tb).mono ?_); rintro e w' ⟨rfl, rfl⟩)
  clear s1 b0 b7 hxor hns
  gi_loopw [20] (fun v wr => ∃ i : Nat, i ≤ (pcsT t L).length ∧ v = .int .i64 i ∧ Hid (J (kidsT t s q (upT (piecesT t) i 0)).length wr)) (fun v _ => (pcsT t L).length - (intOf v).toNat)
  case atStart => exact ⟨0, by omega, rfl, by rw [up_zero]; exact H0⟩
  case round =>
    obtain ⟨i, hi, rfl, HR⟩ := hrel
    by_cases hlt : i < (pcsT t L).length
    · obtain ⟨lp, hlp⟩ : ∃ lp, (piecesT t)[i]? = some lp := ⟨_, List.getElem?_eq_getElem (by unfold pcsT at hlt; rwa [List.length_map] at hlt)⟩
      obtain ⟨m, hm⟩ : ∃ m, m = lp.map (hpT t.ground L) := ⟨_, rfl⟩
      have hpm : (pcsT t L)[i]? = some m := by unfold pcsT; rw [List.getElem?_map, hlp, hm]; rfl
      have hN1 := HN.out _ wr (kids_le HF.out i 0) HR.out
      obtain ⟨a, v, rfl, _, hv, hcv, hmv⟩ := hN1.bd.pieces.get hpm
      have hml : m.length ≤ 9223372036854775807 := by
        rcases hmv with ⟨_, h⟩ | ⟨_, _, _, h1, h2, _⟩
        · rw [h]; decide
        · simp only [maxLen] at h2; omega
      obtain ⟨xp, xc, rfl⟩ := hmv.slice
      have HLP := Lib.hid hlp; clear hlp
      have HM := Lib.hid hm; clear hm
      have HPM := Lib.hid hpm; clear hpm
      have HV := Lib.hid hv; clear hv
      clear hN1 hmv
      gi_wp2_with fail
      clear hcv
      gi_loopw [26] (fun v wr => ∃ j : Nat, j ≤ m.length ∧ v = .int .i64 j ∧ Hid (J (kidsT t s q (upT (piecesT t) i j)).length wr)) (fun v _ => m.length - (intOf v).toNat)
      case atStart => exact ⟨0, by omega, rfl, HR⟩
      case round =>
        clear HR
        obtain ⟨j, hj, rfl, HR⟩ := hrel
        by_cases hjl : j < m.length
        · obtain ⟨p, hp⟩ : ∃ p, lp[j]? = some p := ⟨_, List.getElem?_eq_getElem (by rw [HM.out, List.length_map] at hjl; exact hjl)⟩
          obtain ⟨h, hh⟩ : ∃ h, h = hpT t.ground L p := ⟨_, rfl⟩
          have hmh : m[j]? = some h := by rw [HM.out, List.getElem?_map, hp, hh]; rfl
          have hN1 := HN.out _ wr (kids_le HF.out i j) HR.out
          obtain ⟨a', v', ea, _, hv', _, hmv⟩ := hN1.bd.pieces.get HPM.out
          have ev : v' = .slice xp m.length xc := Option.some.inj (hv'.symm.trans HV.out)
          subst ev
          obtain ⟨xa, rfl, hat⟩ := hmv.at_ (by rintro e; rw [e] at hjl; simp at hjl)
          have hld := run_load_elem (P := Tryz.prog) Tryz.underlying152 rfl sizeP hat hmh
          have HNR := Lib.hid hN1
          have hhs : h.set < 2 ^ 64 := by rw [hh]; exact set64 HOK.out.g64 _
          have HHS := Lib.hid hhs; clear hhs
          have HP := Lib.hid hp; clear hp
          have HH := Lib.hid hh; clear hh
          have hsz : (Tryz.prog.info? 152).map (·.size) = some (hpVals h).toArray.size := sizeP
          have hone : (hpVals h).toArray.all (·.oneCell') = true := by simp [hpVals, Value.oneCell']
          clear hmh hv' hmv hat hN1 ea
          gi_upto_region 7 with (first
            | (refine wpListIn_load_is rfl 152 _ rfl rfl hld ?_)
            | (refine wpListIn_store_row rfl 152 _ _ rfl wr.heap.size rfl 152 _ (hpVals h).toArray rfl (World.alloc_heap_new wr _) hsz rfl hone ?_; rw [World.setRow_alloc_new]))
          have hP := World.alloc_heap_new wr (.cells (hpVals h).toArray 152)
          have hB1 : Below wr.heap.size wr (wr.alloc (.cells (hpVals h).toArray 152)) := (Below.refl _ wr).alloc (Nat.le_refl _) _
          revert hP hB1
          generalize wr.alloc (.cells (hpVals h).toArray 152) = w1
          intro hP hB1
          have hleast := least_any h HHS.out w1 (HNR.out.below hB1).tb
          obtain ⟨lh, hlh⟩ : ∃ lh, leastH h = lh := ⟨_, rfl⟩
          rw [hlh] at hleast
          have HL := Lib.hid hleast; clear hleast
          have HLH := Lib.hid hlh; clear hlh
          have HFR := Lib.hid (has_free (p := p) (L := L) HOK.out.g64 HQ.out (by
            have hpf : p ∈ (piecesT t).flatten := List.mem_flatten.2 ⟨lp, List.mem_of_getElem? HLP.out, List.mem_of_getElem? HP.out⟩
            obtain ⟨r, hr⟩ := List.exists_mem_of_ne_nil _ (HOK.out.ne p hpf)
            exact ⟨r, HOK.out.inG p hpf r hr, hr⟩))
          rw [← HH.out] at HFR
          rw [HLH.out] at HFR
          have hno : q ∉ p.qs → (kidsT t s q (upT (piecesT t) i (j + 1))).length = (kidsT t s q (upT (piecesT t) i j)).length := fun hq => by
            rw [kids_step HLP.out HP.out]; unfold kidT; rw [if_neg hq]; rfl
          have HNO := Lib.hid hno; clear hno
          gi_wp2_with (refine wpListIn_load_row rfl 152 _ rfl wr.heap.size rfl 152 _ (0, 0) _ hP Tryz.underlying152 rfl hsz ?_)
          refine callsIn_FW.2 (HL.out.mono ?_)
          rintro e w2 ⟨rfl, hG⟩
          have hP2 := (hG.below.block _ (Array.getElem?_eq_some_iff.1 hP).1).trans hP
          have hB2 : Below wr.heap.size wr w2 := hB1.trans (hG.below.mono hB1.size)
          clear hP hB1 hG HL
          by_cases hgt : fi < lh
          · have hd : decide (fi < lh) = true := by rw [decide_eq_true_eq]; omega
            have HNQ := Lib.hid (HFR.out.2 hgt)
            clear hgt
            gi_wp2_with fail
            go_roundw
            case rel => exact ⟨j + 1, by omega, by go_num, Lib.hid (by rw [HNO.out HNQ.out]; exact HJ.out _ _ _ HR.out hB2)⟩
            case measure => simp [intOf]; omega
          · have hd : decide (fi < lh) = false := by rw [decide_eq_false_iff_not]; omega
            have c5 : w2.cell? ⟨wr.heap.size, 5, none⟩ = some (.int .u64 h.set) := by simp only [World.cell?, hP2]; rfl
            have hf0 : (0 : Int) ≤ fi := by omega
            have hf1 : (fi : Int) ≤ 64 := by omega
            clear hgt
            have hbit := shr_bit HHS.out fi
            rw [HFR.out.1] at hbit
            by_cases hqp : q ∈ p.qs
            case neg =>
              rw [decide_eq_false hqp, Bool.not_false] at hbit
              have HNQ := Lib.hid hqp; clear hqp
              gi_wp2_with fail
              go_roundw
              case rel => exact ⟨j + 1, by omega, by go_num, Lib.hid (by rw [HNO.out HNQ.out]; exact HJ.out _ _ _ HR.out hB2)⟩
              case measure => simp [intOf]; omega
            rw [decide_eq_true hqp, Bool.not_true] at hbit
            have HQP := Lib.hid hqp; clear hqp
            have HN2 := Lib.hid (HNR.out.below hB2)
            have b0 : w2.cell? ⟨bx, 0, none⟩ = some (.pointer (some ⟨bb, 0, none⟩)) := by simp [World.cell?, HN2.out.bxx]
            have hsb := HN2.out.sbx
            have hput := put_T HOK.out HST.out HGD.out HLP.out (List.mem_of_getElem? HP.out) HN2.out.bd HN2.out.own
            rw [← HH.out] at hput
            have HPUT := Lib.hid hput; clear hput
            have hss : (Tryz.prog.info? 108).map (·.size) = some (hsVals S).toArray.size := sizeS
            gi_wp2_with (first
              | (refine wpListIn_load_row rfl 108 _ rfl sb rfl 108 _ (0, 0) _ hsb Tryz.underlying108 rfl hss ?_)
              | (refine wpListIn_load_row rfl 152 _ rfl wr.heap.size rfl 152 _ (0, 0) _ hP2 Tryz.underlying152 rfl hsz ?_))
            refine callsIn_FW.2 (HPUT.out.mono ?_)
            rintro e w3 ⟨S', b, rfl, h1, h2, hB3⟩
            have hB4 := hB2.trans (hB3.mono hB2.size)
            have H1 := Lib.hid h1; clear h1
            have H2 := Lib.hid h2; clear h2
            have hss' : (Tryz.prog.info? 108).map (·.size) = some (hsVals S').toArray.size := sizeS
            have hone' : (hsVals S').toArray.all (·.oneCell') = true := by simp [hsVals, Value.oneCell']
            clear b0 hsb HPUT
            gi_upto_region 9 with (refine wpListIn_store_row rfl 108 _ _ rfl w3.heap.size rfl 108 _ (hsVals S').toArray rfl (World.alloc_heap_new w3 _) hss' rfl hone' ?_; rw [World.setRow_alloc_new])
            have hC := World.alloc_heap_new w3 (.cells (hsVals S').toArray 108)
            have hB5 : Below wr.heap.size wr (w3.alloc (.cells (hsVals S').toArray 108)) := hB4.alloc hB4.size _
            have hB6 : Below w3.heap.size w3 (w3.alloc (.cells (hsVals S').toArray 108)) := (Below.refl _ w3).alloc (Nat.le_refl _) _
            revert hC hB5 hB6
            generalize w3.alloc (.cells (hsVals S').toArray 108) = w4
            intro hC hB5 hB6
            cases b with
            | false =>
              have HNK : Hid ((kidsT t s q (upT (piecesT t) i (j + 1))).length = (kidsT t s q (upT (piecesT t) i j)).length) := Lib.hid (by
                rw [kids_step HLP.out HP.out]; unfold kidT; rw [if_pos HQP.out, H2.out rfl]; rfl)
              gi_wp2_with fail
              go_roundw
              case rel => exact ⟨j + 1, by omega, by go_num, Lib.hid (by rw [HNK.out]; exact HJ.out _ _ _ HR.out hB5)⟩
              case measure => simp [intOf]; omega
            | true =>
              obtain ⟨g1, g2, g3⟩ := H1.out rfl
              have hkid : kidT t s q p = some (s ++ [p]) := by unfold kidT; rw [if_pos HQP.out]; exact g1
              have HNK : Hid ((kidsT t s q (upT (piecesT t) i (j + 1))).length = (kidsT t s q (upT (piecesT t) i j)).length + 1) := Lib.hid (by
                rw [kids_step HLP.out HP.out, hkid]; rfl)
              have hch := kid_at HF.out HLP.out HP.out hkid
              have hyy : YieldAt (FW none) 0 Tryz.prog l #[.agg (hsVals S').toArray] w4 _ := HY.out _ _ wr w4 (List.getElem?_eq_some_iff.1 hch).1 HR.out hB5 ⟨S', s ++ [p], hch, rfl, g2, owns_weak (owns_below g3 hB6) hB2.size⟩
              obtain ⟨fn, tmps, assign, body, hyl, hR⟩ := hyy
              clear g1 g2 g3 hkid hch
              have hyl2 : (Instr.yield l #[.agg #[.slice S'.lp S'.ln S'.lc, .int .u64 S'.set, .int .u64 S'.bord.1, .int .u64 S'.bord.2.1, .int .u64 S'.bord.2.2, .int .u64 S'.joint.1, .int .u64 S'.joint.2.1, .int .u64 S'.joint.2.2, .int .i64 (S'.many 0), .int .i64 (S'.many 1), .int .i64 (S'.many 2), .int .i64 (S'.many 3), .int .i64 (S'.many 4), .int .i64 (S'.many 5), .int .i64 (S'.many 6), .int .i64 (S'.many 7)]]).run Tryz.prog w4 = .ok (.round l fn tmps assign body) w4 := hyl
              clear hyl
              obtain ⟨k0, k1, k2, k3, k4, k5, k6, k7, k8, k9, k10, k11, k12, k13, k14, k15⟩ := hs_cells hC
              gi_wp2
              refine hR.mono ?_
              rintro e W5 (⟨rfl, hJ5⟩ | ⟨rfl, hJx5⟩)
              · gi_wp2
                go_roundw
                case rel => exact ⟨j + 1, by omega, by go_num, Lib.hid (by rw [HNK.out]; exact hJ5)⟩
                case measure => simp [intOf]; omega
              · gi_wp2
                refine bodyPost_ret (results_none rfl _ _ _) rfl ?_
                exact ⟨⟨_, rfl⟩, .inr hJx5⟩
        · obtain rfl : j = m.length := by omega
          gi_wp2_with fail
          go_roundw
          case rel => exact ⟨i + 1, by omega, by go_num, Lib.hid (by
            have := HR.out
            rw [HM.out, List.length_map, up_next HLP.out] at this
            exact this)⟩
          case measure => simp [intOf]; omega
    · obtain rfl : i = (pcsT t L).length := by omega
      gi_wp2_with fail
      go_end0
      refine ⟨⟨_, rfl⟩, .inl ?_⟩
      have := HR.out
      unfold pcsT at this
      rw [List.length_map, up_end, kids_all HF.out] at this
      exact this
end Go.Proofs.YtiinlplgloaanaaGreatDoor
