/- Chapter 7 in the heap: the images of the ground on itself: what is needed beside the walk. -/
import Derived.Test.YtiinlplgloaanaaGreatDoorZzTopHalved10
import Derived.Test.YtiinlplgloaanaaGreatDoorZzTopHalved11
import Derived.Deep.RegionHeld3
import Derived.Test.YtiinlplgloaanaaGreatDoorRg

/- Chapter 7 in the heap: the piece of a brick that is laid. -/
namespace Go.Proofs.YtiinlplgloaanaaGreatDoor
set_option linter.all false
set_option linter.unusedSimpArgs false
set_option linter.unusedVariables false
open Go.RowKit
attribute [local go_sem] Oper.semAt_some

/-- The edges of a ground, numbered. -/
structure LOk (g : List Q) (L : List E) : Prop where
  nodup : L.Nodup
  mem : ∀ e, e ∈ L ↔ ∃ q ∈ g, e ∈ edgesQ q
theorem numQ_mem {g : List Q} {q : Q} {i : Nat} (h : g[i]? = some q) : (q, Value.int .i64 i) ∈ numQ g := by
  unfold numQ
  exact List.mem_map.2 ⟨(q, i), List.mem_zipIdx_iff_getElem?.2 h, rfl⟩
theorem numQ_keys (g : List Q) : (numQ g).map (·.1) = g := by
  unfold numQ
  rw [List.map_map]
  exact List.zipIdx_map_fst 0 g
theorem numE_mem {g : List E} {q : E} {i : Nat} (h : g[i]? = some q) : (q, Value.int .i64 i) ∈ numE g := by
  unfold numE
  exact List.mem_map.2 ⟨(q, i), List.mem_zipIdx_iff_getElem?.2 h, rfl⟩
theorem numE_keys (g : List E) : (numE g).map (·.1) = g := by
  unfold numE
  rw [List.map_map]
  exact List.zipIdx_map_fst 0 g

theorem withW_words {L : List E} (hn : L.Nodup) (h192 : L.length ≤ 192) {n : Nat} {e : E} (h : L[n]? = some e) (P : E → Bool) : withW (wordsE P L) n = wordsE (fun x => P x || decide (x = e)) L := by
  have hnl := (List.getElem?_eq_some_iff.1 h).1
  have hsep : ∀ (i j : Nat), i ≠ j → L[i]? = some e → L[j]? = some e → False := fun i j hij h1 h2 => by
    obtain ⟨l1, e1⟩ := List.getElem?_eq_some_iff.1 h1
    obtain ⟨l2, e2⟩ := List.getElem?_eq_some_iff.1 h2
    exact hij ((List.getElem_inj hn).1 (e1.trans e2.symm))
  have hout : ∀ (a b : Nat), ¬ (a ≤ n ∧ n < a + b) → setG (fun x => P x || decide (x = e)) ((L.drop a).take b) = setG P ((L.drop a).take b) := fun a b hab => setG_eq fun x hx => by
    have : x ≠ e := by
      rintro rfl
      obtain ⟨j, hj⟩ := List.getElem?_of_mem hx
      rw [List.getElem?_take] at hj
      split at hj
      · rw [List.getElem?_drop] at hj
        exact hsep n (a + j) (by omega) h hj
      · cases hj
    simp [this]
  have hin : ∀ (a b : Nat), a ≤ n → n < a + b → setG P ((L.drop a).take b) ||| (1 <<< (n - a)) = setG (fun x => P x || decide (x = e)) ((L.drop a).take b) := fun a b h1 h2 => by
    have hg : ((L.drop a).take b)[n - a]? = some e := by
      rw [List.getElem?_take, if_pos (by omega), List.getElem?_drop, show a + (n - a) = n by omega]; exact h
    rw [setG_one (((hn.sublist (List.drop_sublist a L))).sublist (List.take_sublist b _)) hg, setG_or]
  unfold withW wordsE
  simp only
  by_cases h1 : n < 64
  · rw [if_pos h1]
    have e0 := hin 0 64 (by omega) (by omega)
    have e1 := hout 64 64 (by omega)
    have e2 := hout 128 64 (by omega)
    simp only [List.drop_zero, Nat.sub_zero] at e0
    rw [← e0, ← e1, ← e2]
  · rw [if_neg h1]
    by_cases h2 : n < 128
    · rw [if_pos h2]
      have e0 := hout 0 64 (by omega)
      have e1 := hin 64 64 (by omega) (by omega)
      have e2 := hout 128 64 (by omega)
      simp only [List.drop_zero] at e0
      rw [e0, ← e1, e2]
    · rw [if_neg h2]
      have e0 := hout 0 64 (by omega)
      have e1 := hout 64 64 (by omega)
      have e2 := hin 128 64 (by omega) (by omega)
      simp only [List.drop_zero] at e0
      rw [e0, e1, ← e2]
theorem take_mem_snoc {α : Type} [DecidableEq α] {l : List α} {j : Nat} {q : α} (h : l[j]? = some q) (x : α) : (decide (x ∈ l.take j) || decide (x = q)) = decide (x ∈ l.take (j + 1)) := by
  rw [take_snoc6 h, Bool.eq_iff_iff]; simp
theorem set_take {g qs : List Q} (hn : g.Nodup) {j i : Nat} {q : Q} (hj : qs[j]? = some q) (hi : g[i]? = some q) : setG (fun r => decide (r ∈ qs.take j)) g ||| (1 <<< i) = setG (fun r => decide (r ∈ qs.take (j + 1))) g := by
  rw [setG_one hn hi, setG_or]
  exact setG_eq fun r _ => take_mem_snoc hj r
theorem words_take {L es : List E} (hn : L.Nodup) (h192 : L.length ≤ 192) {j n : Nat} {e : E} (hj : es[j]? = some e) (h : L[n]? = some e) : withW (wordsE (fun x => decide (x ∈ es.take j)) L) n = wordsE (fun x => decide (x ∈ es.take (j + 1))) L := by
  rw [withW_words hn h192 h]
  exact wordsE_eq fun x _ => take_mem_snoc hj x
theorem put_check {l g : List Q} (hc : checkN l = 0) (hg : ∀ q ∈ g, inQ q) {p : Plc} (hp : p ∈ placesL l g) : checkN (putP l p) = 0 := by
  obtain ⟨_, h2, h3⟩ := put_place hc hp
  obtain ⟨h, hl, hlen⟩ := checkN_ok hc
  have ol : ∀ q ∈ l, okS q := fun q hq => (h.1 q hq).okS
  have hpos : 0 < l.length := List.length_pos_iff.2 hl
  unfold checkN
  rw [if_neg (by omega), if_pos ⟨⟨fun q hq => hg q (h3 q hq), srt_sh _ _ (srt_imgL (Srt.nodup h.2) ol p.m p.t)⟩, fun e => by rw [e] at h2; simp at h2; omega⟩]
/-- What the loops of piece keep. -/
structure PieI (w : World) (r p : Nat) (l : Ld) (st : Nat) (b : W3) (wr : World) : Prop where
  blk : wr.heap[p]? = some (.cells #[.int .i64 l.kind, .bool l.m, .int .i64 l.t, .int .i64 l.x, .int .i64 l.y, .int .u64 st, .int .u64 b.1, .int .u64 b.2.1, .int .u64 b.2.2] 152 (0, 0))
  res : wr.heap[r]? = some (.cells #[.int .i64 0, .bool false, .int .i64 0, .int .i64 0, .int .i64 0, .int .u64 0, .int .u64 0, .int .u64 0, .int .u64 0] 152 (0, 0))
  below : Below w.heap.size w wr
theorem PieI.keep {w : World} {r p : Nat} {l : Ld} {st : Nat} {b : W3} {wr W : World} (h : PieI w r p l st b wr) (e : Below wr.heap.size wr W) : PieI w r p l st b W :=
  ⟨(e.block _ (Array.getElem?_eq_some_iff.1 h.blk).1).trans h.blk, (e.block _ (Array.getElem?_eq_some_iff.1 h.res).1).trans h.res, h.below.trans (e.mono h.below.size)⟩

set_option maxRecDepth 100000 in
set_option maxHeartbeats 4000000 in
theorem piece_any {t : Tk} {L : List E} (hL : LOk t.ground L) (h192 : L.length ≤ 192) (h64 : t.ground.length ≤ 64) (hgq : checkN t.ground = 0) (w : World) (bb : Nat) (bv : BV) (ps : List (List HP)) (bel : W3) (hb : BdAt w bb bv t L ps bel) {k : Nat} {s : List Q} (hk : t.kinds[k]? = some s) (hc : checkN s = 0) {p : Plc} (hp : p ∈ placesL s t.ground) :
    Calls Tryz.prog 88 #[.pointer (some ⟨bb, 0, none⟩), .agg #[.int .i64 k, .bool p.m, .int .i64 p.t, .int .i64 p.x, .int .i64 p.y]] w fun e w' => e = .returned (RP.val (hpT t.ground L (pieceP k s p))) ∧ Below w.heap.size w w' := by
  obtain ⟨vg, vk, vc, vf, vb, qm, em, pv, pvs⟩ := bv
  obtain ⟨kp, kc, hkv⟩ := hb.kinds.slice
  simp only at hkv
  subst hkv
  obtain ⟨m, tt, x, y⟩ := p
  simp only
  have HB := Lib.hid hb; clear hb
  obtain ⟨hA, hR, hN, hB0, hz0⟩ := three_grew (Grew.refl (((w.alloc (.cells #[.int .i64 k, .bool m, .int .i64 tt, .int .i64 x, .int .i64 y] 50)).alloc (.cells #[.int .i64 0, .bool false, .int .i64 0, .int .i64 0, .int .i64 0, .int .u64 0, .int .u64 0, .int .u64 0, .int .u64 0] 152)).alloc (.cells #[.int .i64 k, .bool m, .int .i64 tt, .int .i64 x, .int .i64 y, .int .u64 0, .int .u64 0, .int .u64 0, .int .u64 0] 152)))
  go_enter Tryz.func88, Tryz.ntmps88
  go_wp2_with fail
  revert hA hR hN hB0 hz0
  generalize (((w.alloc (.cells #[.int .i64 k, .bool m, .int .i64 tt, .int .i64 x, .int .i64 y] 50)).alloc (.cells #[.int .i64 0, .bool false, .int .i64 0, .int .i64 0, .int .i64 0, .int .u64 0, .int .u64 0, .int .u64 0, .int .u64 0] 152)).alloc (.cells #[.int .i64 k, .bool m, .int .i64 tt, .int .i64 x, .int .i64 y, .int .u64 0, .int .u64 0, .int .u64 0, .int .u64 0] 152)) = W
  intro hA hR hN hB0 hz0
  have hbd := HB.out.keep hB0
  have hblk := hbd.blk
  simp only at hblk
  obtain ⟨ka, sv, rfl, hks, hsv⟩ := hbd.kinds.at hk
  obtain ⟨sp, sc, rfl⟩ := hsv.slice
  have HSV := Lib.hid hsv; clear hsv
  have b1 : W.cell? ⟨bb, 1, none⟩ = some (.slice (some ka) t.kinds.length kc) := by simp only [World.cell?, hblk]; rfl
  have l0 : W.cell? ⟨w.heap.size, 0, none⟩ = some (.int .i64 k) := by simp only [World.cell?, hA]; rfl
  have l1 : W.cell? ⟨w.heap.size, 1, none⟩ = some (.bool m) := by simp only [World.cell?, hA]; rfl
  have l2 : W.cell? ⟨w.heap.size, 2, none⟩ = some (.int .i64 tt) := by simp only [World.cell?, hA]; rfl
  have l3 : W.cell? ⟨w.heap.size, 3, none⟩ = some (.int .i64 x) := by simp only [World.cell?, hA]; rfl
  have l4 : W.cell? ⟨w.heap.size, 4, none⟩ = some (.int .i64 y) := by simp only [World.cell?, hA]; rfl
  have hkl : k < t.kinds.length := (List.getElem?_eq_some_iff.1 hk).1
  have hkl2 : t.kinds.length ≤ 9223372036854775807 := by
    rcases hbd.kinds with ⟨h, _⟩ | ⟨_, _, _, _, h1, h2, _⟩
    · cases h
    · simp only [maxLen] at h2; omega
  have hkeep : ∀ w', Below W.heap.size W w' → (w'.cell? ⟨bb, 1, none⟩ = some (.slice (some ka) t.kinds.length kc) ∧ w'.cell? (ka.add k) = some (.slice sp s.length sc) ∧ w'.cell? ⟨w.heap.size, 0, none⟩ = some (.int .i64 k) ∧ w'.cell? ⟨w.heap.size, 1, none⟩ = some (.bool m) ∧
      w'.cell? ⟨w.heap.size, 2, none⟩ = some (.int .i64 tt) ∧ w'.cell? ⟨w.heap.size, 3, none⟩ = some (.int .i64 x) ∧ w'.cell? ⟨w.heap.size, 4, none⟩ = some (.int .i64 y)) ∧ Below W.heap.size W w' := fun w' h => by
    have hc : ∀ (a : Addr) (v : Value), W.cell? a = some v → w'.cell? a = some v := fun a v hv => by
      have hlt : a.block < W.heap.size := by
        unfold World.cell? at hv
        cases hh : W.heap[a.block]? with
        | none => rw [hh] at hv; cases hv
        | some o => exact (Array.getElem?_eq_some_iff.1 hh).1
      rw [cell_of_block (h.block _ hlt)]; exact hv
    exact ⟨⟨hc _ _ b1, hc _ _ hks, hc _ _ l0, hc _ _ l1, hc _ _ l2, hc _ _ l3, hc _ _ l4⟩, h⟩
  have HK := Lib.hid hkeep; clear hkeep
  go_region_held3 (fun w' => (w'.cell? ⟨bb, 1, none⟩ = some (.slice (some ka) t.kinds.length kc) ∧ w'.cell? (ka.add k) = some (.slice sp s.length sc) ∧ w'.cell? ⟨w.heap.size, 0, none⟩ = some (.int .i64 k) ∧ w'.cell? ⟨w.heap.size, 1, none⟩ = some (.bool m) ∧
      w'.cell? ⟨w.heap.size, 2, none⟩ = some (.int .i64 tt) ∧ w'.cell? ⟨w.heap.size, 3, none⟩ = some (.int .i64 x) ∧ w'.cell? ⟨w.heap.size, 4, none⟩ = some (.int .i64 y)) ∧ Below W.heap.size W w') (first | exact HK.out _ (by assumption) | exact HK.out _ ((Below.refl _ W).drew))
    (first
      | (go_at_call 16; refine (put_any s (.slice sp s.length sc) m tt x y _ (HSV.out.below ((Below.refl _ W).drew))).mono ?_; rintro e w' ⟨u, rfl, ho, hBp⟩; have hBW : Below W.heap.size W w' := ((Below.refl _ W).drew).trans hBp))
  have hP2 : PieI w (w.heap.size + 1) (w.heap.size + 1 + 1) ⟨k, m, tt, x, y⟩ 0 (0, 0, 0) w' :=
    ⟨(hBW.block _ (Array.getElem?_eq_some_iff.1 hN).1).trans hN, (hBW.block _ (Array.getElem?_eq_some_iff.1 hR).1).trans hR, hB0.trans (hBW.mono hB0.size)⟩
  obtain ⟨hqs, hlen, hin⟩ := piece_qs hc hp k
  have HPD : Hid (pieceP k s ⟨m, tt, x, y⟩ = ⟨⟨k, m, tt, x, y⟩, (putC s m tt x y).1⟩) := Lib.hid rfl
  have hin' : ∀ q ∈ (putC s m tt x y).1, q ∈ t.ground := hin
  have hlen' : (putC s m tt x y).1.length = s.length := hlen
  obtain ⟨qs, hqe⟩ : ∃ qs, (putC s m tt x y).1 = qs := ⟨_, rfl⟩
  obtain ⟨cd, hcd⟩ : ∃ cd, (putC s m tt x y).2 = cd := ⟨_, rfl⟩
  rw [hqe] at HPD hin' hlen' ho
  rw [hcd]
  have hgn := (checkN_ok hgq).1.2.nodup
  have hgi := (checkN_ok hgq).1.1
  have hsl := (checkN_ok hc).2.2
  have hcq : checkN qs = 0 := by
    have h1 := put_check hc (checkN_ok hgq).1.1 hp
    have h2 : (putC s m tt x y).1 = putP s ⟨m, tt, x, y⟩ := hqs
    rw [← h2, hqe] at h1; exact h1
  have HO := Lib.hid (owns_weak ho (show W.heap.size ≤ W.drew.heap.size from Nat.le_refl _)); clear ho
  obtain ⟨up, uc, rfl⟩ := own_slice HO.out
  have HP2 := Lib.hid hP2; clear hP2
  have HIN := Lib.hid hin'; clear hin hin'
  have HGI := Lib.hid hgi; clear hgi
  have HGN := Lib.hid hgn; clear hgn
  have HCQ := Lib.hid hcq; clear hcq
  have HL := Lib.hid hL; clear hL
  have hq9 : qs.length ≤ 400 := by omega
  have hWw := hBW.size
  clear hqs hlen hqe hcd hlen' hsl hBp hN hR hA l0 l1 l2 l3 l4 b1 hks HK HSV hblk hbd hkl hkl2
  go_wp2_with fail
  go_loopw [33] (fun z wr => ∃ j : Nat, j ≤ qs.length ∧ z = .int .i64 j ∧ Hid (PieI w (w.heap.size + 1) (w.heap.size + 1 + 1) ⟨k, m, tt, x, y⟩ (setG (fun q => decide (q ∈ qs.take j)) t.ground) (0, 0, 0) wr ∧ OwnQ wr W.heap.size (.slice up qs.length uc) qs)) (fun z _ => qs.length - (intOf z).toNat)
  case atStart => exact ⟨0, by omega, rfl, Lib.hid ⟨by
    have e : setG (fun q => decide (q ∈ qs.take 0)) t.ground = 0 := by simp only [List.take_zero, List.not_mem_nil, decide_false]; exact setG_nil _
    rw [e]; exact HP2.out, HO.out⟩⟩
  case round =>
    obtain ⟨j, hj, rfl, HR⟩ := hrel
    by_cases hlt : j < qs.length
    · obtain ⟨q, hq⟩ : ∃ q, qs[j]? = some q := ⟨_, List.getElem?_eq_getElem hlt⟩
      obtain ⟨i, hi⟩ := List.getElem?_of_mem (HIN.out q (List.mem_of_getElem? hq))
      have hil : i < 64 := Nat.lt_of_lt_of_le (List.getElem?_eq_some_iff.1 hi).1 h64
      obtain ⟨xa, rfl, hat⟩ : ∃ xa, up = some xa ∧ QsAt wr xa qs := by
        rcases HR.out.2.has with ⟨_, h⟩ | ⟨a, c, h1, _, _, h4⟩
        · rw [h] at hlt; simp at hlt
        · simp only [Value.slice.injEq] at h1; exact ⟨a, h1.1, h4⟩
      have a0 := hat.at0 j q hq
      have a1 := hat.at1 j q hq
      have a2 := hat.at2 j q hq
      have HS := Lib.hid (set_take HGN.out hq hi)
      clear hat
      obtain ⟨qx, qy, qs'⟩ := q
      simp only at a0 a1 a2
      go_upto_region 6 with fail
      have hC := World.alloc_heap_new wr (.cells #[.int .i64 qx, .int .i64 qy, .int .i64 qs'] 56)
      have hB1 : Below wr.heap.size wr (wr.alloc (.cells #[.int .i64 qx, .int .i64 qy, .int .i64 qs'] 56)) := (Below.refl _ wr).alloc (Nat.le_refl _) _
      revert hC hB1
      generalize wr.alloc (.cells #[.int .i64 qx, .int .i64 qy, .int .i64 qs'] 56) = w1
      intro hC hB1
      have hP1 := HR.out.1.keep hB1
      have hO1 := owns_below HR.out.2 hB1
      have hbd1 := HB.out.keep hP1.below
      have hblk1 := hbd1.blk
      have hblk2 := hP1.blk
      simp only at hblk1 hblk2
      have d0 : ∀ d : SubW w1, d.1.cell? ⟨w.heap.size + 1 + 1, 5, none⟩ = some (.int .u64 (setG (fun q => decide (q ∈ qs.take j)) t.ground)) := fun d => by simp only [World.cell?, d.block hblk2]; rfl
      have d1 : ∀ d : SubW w1, d.1.cell? ⟨bb, 5, none⟩ = some (.map (some qm)) := fun d => by simp only [World.cell?, d.block hblk1]; rfl
      have d2 : ∀ d : SubW w1, d.1.cell? ⟨wr.heap.size, 0, none⟩ = some (.int .i64 qx) := fun d => by simp only [World.cell?, d.block hC]; rfl
      have d3 : ∀ d : SubW w1, d.1.cell? ⟨wr.heap.size, 1, none⟩ = some (.int .i64 qy) := fun d => by simp only [World.cell?, d.block hC]; rfl
      have d4 : ∀ d : SubW w1, d.1.cell? ⟨wr.heap.size, 2, none⟩ = some (.int .i64 qs') := fun d => by simp only [World.cell?, d.block hC]; rfl
      have d5 : ∀ d : SubW w1, (Instr.lookup 139 (.map (some qm)) (.agg #[.int .i64 qx, .int .i64 qy, .int .i64 qs']) false).run Tryz.prog d.1 = .ok (.int .i64 i) d.1 := fun d =>
        run_lookup_hit encQ Tryz.underlying139 (hbd1.quarter.below d.2) (fun p hp => HGI.out p.1 (by rw [← numQ_keys t.ground]; exact List.mem_map.2 ⟨p, hp, rfl⟩)) (by rw [numQ_keys]; exact HGN.out) (numQ_mem hi) false
      have hs := wrap_shl hil
      rw [Int.one_mul] at hs
      obtain ⟨st, hst⟩ : ∃ st, setG (fun q => decide (q ∈ qs.take j)) t.ground = st := ⟨_, rfl⟩
      have hst64 : st < 2 ^ 64 := by rw [← hst]; exact set64 h64 _
      have ho := or64 hst64 (shl64 hil)
      rw [hst] at d0 HS hP1
      have HST := Lib.hid hst; clear hst hst64
      obtain ⟨sh1, hsh⟩ : ∃ sh1, 1 <<< i = sh1 := ⟨_, rfl⟩
      rw [hsh] at hs ho HS
      clear hsh
      have hr0 : (0 : Int) ≤ i := by omega
      have hr1 : (i : Int) ≤ 64 := by omega
      have hwr : IntKind.i64.wrap (i : Int) = i := by rw [IntKind.wrap_i64]; omega
      have HP1 := Lib.hid hP1; clear hP1
      have HO1 := Lib.hid hO1; clear hO1
      clear hblk1 hblk2 hbd1 hC
      refine wp_region_qb 11 (by kernel_rfl) (by kernel_rfl) ?_
      simp only [List.take_succ_cons, List.take_zero, List.drop_succ_cons, List.drop_zero]
      repeat (go_big_quiet_step (fail))
      refine wpQuiet_nil ?_
      intro dq
      have hP3 := HP1.out.keep dq.2
      have hO3 := owns_below HO1.out dq.2
      revert hP3 hO3
      generalize dq.1 = w3
      intro hP3 hO3
      clear d0 d1 d2 d3 d4 d5
      have c5 : w3.cell? ⟨w.heap.size + 1 + 1, 5, none⟩ = some (.int .u64 st) := by have := hP3.blk; simp only [World.cell?, this]; rfl
      have f5 : w3.frozen? ⟨w.heap.size + 1 + 1, 5, none⟩ = false := frozen_of_row w3 _ 5 _ _ hP3.blk
      go_wp2_with fail
      go_roundw
      case rel =>
        refine ⟨j + 1, by omega, by go_num, Lib.hid ⟨⟨?_, ?_, ?_⟩, ?_⟩⟩
        · rw [← HS.out]; exact heap_setCell_same _ _ _ _ _ _ hP3.blk
        · exact (heap_setCell_other _ _ _ _ (by simp)).trans hP3.res
        · exact hP3.below.setCell (by simp; omega) _
        · exact owns_setCell hO3 (a := ⟨w.heap.size + 1 + 1, 5, none⟩) (by simp; omega) _
      case measure => simp [intOf]; omega
    · obtain rfl : j = qs.length := by omega
      rw [List.take_length] at HR
      have HBO := Lib.hid (Border_new qs _ wr HR.out.2.has)
      go_wp2_with fail
      refine HBO.out.mono ?_
      rintro e w4 ⟨v, es, rfl, hes, _, hperm, hB4, hnew⟩
      obtain ⟨hpe, _⟩ := hperm HCQ.out
      have hP4 := HR.out.1.keep hB4
      obtain ⟨ep, ec, rfl⟩ : ∃ p c, v = .slice p es.length c := by
        rcases hes with ⟨rfl, rfl⟩ | ⟨a, c, rfl, _⟩
        · exact ⟨_, _, rfl⟩
        · exact ⟨_, _, rfl⟩
      have hel : es.length ≤ 2000 := by
        have h1 := border_le (l := qs) (checkN_ok HCQ.out).1.1
        rw [hpe.length_eq]; omega
      have HES := Lib.hid hes; clear hes
      have HP4 := Lib.hid hP4; clear hP4
      have HPE := Lib.hid hpe; clear hpe hperm
      have HNEW : Hid (∀ a, ep = some a → a.block ≠ w.heap.size + 1 + 1) := Lib.hid fun a e e' => by
        have h1 := hnew a.block (by rw [e]; rfl)
        have h2 := (Array.getElem?_eq_some_iff.1 HR.out.1.blk).1
        omega
      clear hnew
      clear HBO HR hB4
      obtain ⟨st, hst⟩ : ∃ st, setG (fun q => decide (q ∈ qs)) t.ground = st := ⟨_, rfl⟩
      rw [hst] at HP4
      have HST := Lib.hid hst; clear hst
      go_wp2_with fail
      go_loopw [56] (fun z wr => ∃ j : Nat, j ≤ es.length ∧ z = .int .i64 j ∧ Hid (PieI w (w.heap.size + 1) (w.heap.size + 1 + 1) ⟨k, m, tt, x, y⟩ st (wordsE (fun e => decide (e ∈ es.take j)) L) wr ∧ HasEs wr (.slice ep es.length ec) es)) (fun z _ => es.length - (intOf z).toNat)
      case atStart => exact ⟨0, by omega, rfl, Lib.hid ⟨by
        have e : wordsE (fun e => decide (e ∈ es.take 0)) L = (0, 0, 0) := by
          simp only [List.take_zero, List.not_mem_nil, decide_false]; unfold wordsE; simp only [setG_nil]
        rw [e]; exact HP4.out, HES.out⟩⟩
      case round =>
        obtain ⟨j, hj, rfl, HR⟩ := hrel
        by_cases hlt : j < es.length
        · obtain ⟨e, he⟩ : ∃ e, es[j]? = some e := ⟨_, List.getElem?_eq_getElem hlt⟩
          have heb : e ∈ borderE qs := HPE.out.mem_iff.1 (List.mem_of_getElem? he)
          obtain ⟨q, hqm, heq⟩ := border_sub (fun q hq => HGI.out q (HIN.out q hq)) heb
          obtain ⟨n, hn⟩ := List.getElem?_of_mem ((HL.out.mem e).2 ⟨q, HIN.out q hqm, heq⟩)
          have hnl : n < 192 := Nat.lt_of_lt_of_le (List.getElem?_eq_some_iff.1 hn).1 h192
          obtain ⟨xa, rfl, hat⟩ : ∃ xa, ep = some xa ∧ EsAt wr xa es := by
            rcases HR.out.2 with ⟨_, h⟩ | ⟨a, c, h1, _, _, h4⟩
            · rw [h] at hlt; simp at hlt
            · simp only [Value.slice.injEq] at h1; exact ⟨a, h1.1, h4⟩
          have a0 := hat.at0 j e he
          have a1 := hat.at1 j e he
          have a2 := hat.at2 j e he
          have HW := Lib.hid (words_take HL.out.nodup h192 he hn)
          obtain ⟨X, hX⟩ : ∃ X, wordsE (fun e => decide (e ∈ es.take j)) L = X := ⟨_, rfl⟩
          have hXo : okW X := by rw [← hX]; exact wordsE_lt _ _
          rw [hX] at HR HW
          obtain ⟨Y, hY⟩ : ∃ Y, withW X n = Y := ⟨_, rfl⟩
          have hwith : ∀ W, Calls Tryz.prog 106 #[w3V X, .int .i64 n] W fun e w' => e = .returned (w3V Y) ∧ Below W.heap.size W w' := fun W => by
            have := with_any X n hXo hnl W
            rwa [hY] at this
          rw [hY] at HW
          clear hX hY hat heb hqm heq
          obtain ⟨x0, x1, x2⟩ := X
          obtain ⟨y0, y1, y2⟩ := Y
          obtain ⟨ex, ey, ek⟩ := e
          simp only at a0 a1 a2
          go_upto_region 12 with fail
          have hC := World.alloc_heap_new wr (.cells #[.int .i64 ex, .int .i64 ey, .int .i64 ek] 61)
          have hB1 : Below wr.heap.size wr (wr.alloc (.cells #[.int .i64 ex, .int .i64 ey, .int .i64 ek] 61)) := (Below.refl _ wr).alloc (Nat.le_refl _) _
          revert hC hB1
          generalize wr.alloc (.cells #[.int .i64 ex, .int .i64 ey, .int .i64 ek] 61) = w1
          intro hC hB1
          have hP1 := HR.out.1.keep hB1
          have hE1 := HR.out.2.below hB1
          have hbd1 := HB.out.keep hP1.below
          have hblk1 := hbd1.blk
          have hblk2 := hP1.blk
          simp only at hblk1 hblk2
          have d0 : ∀ d : SubW w1, d.1.cell? ⟨w.heap.size + 1 + 1, 6, none⟩ = some (.int .u64 x0) := fun d => by simp only [World.cell?, d.block hblk2]; rfl
          have d01 : ∀ d : SubW w1, d.1.cell? ⟨w.heap.size + 1 + 1, 7, none⟩ = some (.int .u64 x1) := fun d => by simp only [World.cell?, d.block hblk2]; rfl
          have d02 : ∀ d : SubW w1, d.1.cell? ⟨w.heap.size + 1 + 1, 8, none⟩ = some (.int .u64 x2) := fun d => by simp only [World.cell?, d.block hblk2]; rfl
          have d1 : ∀ d : SubW w1, d.1.cell? ⟨bb, 6, none⟩ = some (.map (some em)) := fun d => by simp only [World.cell?, d.block hblk1]; rfl
          have d2 : ∀ d : SubW w1, d.1.cell? ⟨wr.heap.size, 0, none⟩ = some (.int .i64 ex) := fun d => by simp only [World.cell?, d.block hC]; rfl
          have d3 : ∀ d : SubW w1, d.1.cell? ⟨wr.heap.size, 1, none⟩ = some (.int .i64 ey) := fun d => by simp only [World.cell?, d.block hC]; rfl
          have d4 : ∀ d : SubW w1, d.1.cell? ⟨wr.heap.size, 2, none⟩ = some (.int .i64 ek) := fun d => by simp only [World.cell?, d.block hC]; rfl
          have d5 : ∀ d : SubW w1, (Instr.lookup 147 (.map (some em)) (.agg #[.int .i64 ex, .int .i64 ey, .int .i64 ek]) false).run Tryz.prog d.1 = .ok (.int .i64 n) d.1 := fun d =>
            run_lookup_hit encE Tryz.underlying147 (hbd1.edge.below d.2) (fun p hp => by
              have h1 : p.1 ∈ L := by rw [← numE_keys L]; exact List.mem_map.2 ⟨p, hp, rfl⟩
              obtain ⟨q, hq, he⟩ := (HL.out.mem p.1).1 h1
              exact edges_ok (HGI.out q hq) _ he) (by rw [numE_keys]; exact HL.out.nodup) (numE_mem hn) false
          have HWC : Hid (∀ d : SubW w1, Calls Tryz.prog 106 #[.agg #[.int .u64 x0, .int .u64 x1, .int .u64 x2], .int .i64 n] d.1 fun e w' => e = .returned (.agg #[.int .u64 y0, .int .u64 y1, .int .u64 y2]) ∧ ∃ d' : SubW w1, w' = d'.1) := Lib.hid fun d => by
            refine (hwith d.1).mono ?_
            rintro e w' ⟨rfl, hb⟩
            exact ⟨rfl, ⟨⟨w', d.2.trans (hb.mono d.2.size)⟩, rfl⟩⟩
          have HP1 := Lib.hid hP1; clear hP1
          have HE1 := Lib.hid hE1; clear hE1
          clear hblk1 hblk2 hbd1 hC hwith hXo
          refine wp_region_qb 10 (by kernel_rfl) (by kernel_rfl) ?_
          simp only [List.take_succ_cons, List.take_zero, List.drop_succ_cons, List.drop_zero]
          repeat (go_big_quiet_step ((exact HWC.out _)))
          refine wpQuiet_nil ?_
          intro dq
          have hP3 := HP1.out.keep dq.2
          have hE3 := HE1.out.below dq.2
          revert hP3 hE3
          generalize dq.1 = w3
          intro hP3 hE3
          clear d0 d01 d02 d1 d2 d3 d4 d5
          have hb3 := hP3.blk
          simp only at hb3
          have g6 : w3.cell? ⟨w.heap.size + 1 + 1, 6, none⟩ = some (.int .u64 x0) := by simp only [World.cell?, hb3]; rfl
          have g7 : w3.cell? ⟨w.heap.size + 1 + 1, 7, none⟩ = some (.int .u64 x1) := by simp only [World.cell?, hb3]; rfl
          have g8 : w3.cell? ⟨w.heap.size + 1 + 1, 8, none⟩ = some (.int .u64 x2) := by simp only [World.cell?, hb3]; rfl
          have gf : ∀ j, w3.frozen? ⟨w.heap.size + 1 + 1, j, none⟩ = false := fun j => frozen_of_row w3 _ j _ _ hb3
          go_wp2_with fail
          go_roundw
          case rel =>
            refine ⟨j + 1, by omega, by go_num, Lib.hid ⟨⟨?_, ?_, ?_⟩, ?_⟩⟩
            · rw [← HW.out]; exact heap_setCell_same _ _ _ _ _ _ (heap_setCell_same _ _ _ _ _ _ (heap_setCell_same _ _ _ _ _ _ hb3))
            · exact ((heap_setCell_other _ _ _ _ (by simp)).trans ((heap_setCell_other _ _ _ _ (by simp)).trans (heap_setCell_other _ _ _ _ (by simp)))).trans hP3.res
            · exact ((hP3.below.setCell (by simp; omega) _).setCell (by simp; omega) _).setCell (by simp; omega) _
            · have hne := HNEW.out xa rfl
              have h3 : ∀ v6 v7 v8 : Value, (((w3.setCell ⟨w.heap.size + 1 + 1, 6, none⟩ v6).setCell ⟨w.heap.size + 1 + 1, 7, none⟩ v7).setCell ⟨w.heap.size + 1 + 1, 8, none⟩ v8).heap[xa.block]? = w3.heap[xa.block]? := fun v6 v7 v8 => (heap_setCell_other _ _ _ _ hne).trans ((heap_setCell_other _ _ _ _ hne).trans (heap_setCell_other _ _ _ _ hne))
              rcases hE3 with ⟨h, _⟩ | ⟨a, c, h1, h2, h4, h5⟩
              · cases h
              · simp only [Value.slice.injEq, Option.some.injEq] at h1
                obtain ⟨rfl, _, rfl⟩ := h1
                exact .inr ⟨_, _, rfl, h2, h4, h5.move (h3 _ _ _)⟩
          case measure => simp [intOf]; omega
        · obtain rfl : j = es.length := by omega
          rw [List.take_length] at HR
          have hX : wordsE (fun e => decide (e ∈ es)) L = wordsE (fun e => decide (e ∈ borderE qs)) L := wordsE_eq fun e _ => by
            rw [decide_eq_decide]; exact HPE.out.mem_iff
          have hP5 := HR.out.1
          have HF : Hid (RP.val (hpT t.ground L ⟨⟨k, m, tt, x, y⟩, qs⟩) = .agg #[.int .i64 k, .bool m, .int .i64 tt, .int .i64 x, .int .i64 y, .int .u64 st, .int .u64 (wordsE (fun e => decide (e ∈ es)) L).1, .int .u64 (wordsE (fun e => decide (e ∈ es)) L).2.1, .int .u64 (wordsE (fun e => decide (e ∈ es)) L).2.2]) := Lib.hid (by
            rw [hX, ← HST.out]; rfl)
          clear hX
          revert hP5 HF
          generalize wordsE (fun e => decide (e ∈ es)) L = X
          intro hP5 HF
          go_wp2_with (first
            | (refine wpList_load_row rfl 152 _ rfl (w.heap.size + 1 + 1) rfl 152 _ (0, 0) _ hP5.blk Tryz.underlying152 rfl sizeP ?_)
            | (refine wpList_store_row rfl 152 _ _ rfl (w.heap.size + 1) rfl 152 _ #[.int .i64 k, .bool m, .int .i64 tt, .int .i64 x, .int .i64 y, .int .u64 st, .int .u64 X.1, .int .u64 X.2.1, .int .u64 X.2.2] rfl hP5.res sizeP rfl (by simp [Value.oneCell']) ?_))
          refine bodyPost_ret (results_row rfl Tryz.underlying152 rfl _ _ (w.heap.size + 1) _ (0, 0) (setRow_heap _ _ _ _ _ _ hP5.res) sizeP rfl) rfl ?_
          refine ⟨?_, setRow_below hP5.below (Nat.le_succ _) _⟩
          rw [HPD.out, HF.out]
end Go.Proofs.YtiinlplgloaanaaGreatDoor

/- A range over a function whose iterator keeps a block of its own between two rounds and makes what it yields. -/
namespace Go.Proofs.YtiinlplgloaanaaGreatDoor
set_option linter.all false
set_option linter.unusedSimpArgs false
set_option linter.unusedVariables false
open Go.RowKit

/-- An iterator that yields n times what Xp says, and has a block b of its own that the rounds must leave alone; N is what it needs of the world. -/
def IterM (P : Program) (gf : Nat) (mk : Value → Array Value) (n : Nat) (N : World → Prop) (Xp : Nat → Array Value → World → Prop) : Prop :=
  ∀ (l : Nat) (J : Nat → Nat → World → Prop) (Jx : World → Prop) (W : World),
    (∀ b k W W', J b k W → Below W.heap.size W W' → J b k W') → (∀ W W', Jx W → Below W.heap.size W W' → Jx W') →
    (∀ b k W', J b k W' → N W') →
    (∀ b k args W1 o, k < n → Xp k args W1 → J b k W1 → W.heap.size ≤ b → W1.heap[b]? = some o → o.isCells = true →
      YieldAt (FW none) 0 P l args W1 fun e W' => (e = .returned (.bool true) ∧ J b (k + 1) W' ∧ W'.heap[b]? = some o) ∨ (e = .returned (.bool false) ∧ Jx W')) →
    (∀ b W', W.heap.size ≤ b → Below W.heap.size W W' → J b 0 W') → CallsIn (FW none) 0 P gf (mk (.func (.yield l) #[] #[])) W fun e W' => (∃ v, e = .returned v) ∧ ((∃ b, J b n W') ∨ Jx W')

theorem range_law_m {P : Program} {ro : Option Nat} {g : Operand} {ps : Array Tmp} {assign body : Code} {Q : Exit → Act → World → Prop} {a : Act} {w : World} {gf : Nat} {mk : Value → Array Value} {n : Nat} {N : World → Prop} {Xp : Nat → Array Value → World → Prop}
    (hro : ∀ l0, ro = some l0 → ∃ r0, w.heap[l0]? = some (.loop r0))
    (hg : ∀ (l : Nat) (W : World), ∃ d, (resolve a.eval (rangeCall g l) 0).run P W = .ok d W ∧ (invoke d.target d.args).run P W = .ok (.enter gf (mk (.func (.yield l) #[] #[]))) W)
    (hit : IterM P gf mk n N Xp) (hps : ∀ k x W, Xp k x W → x.size = ps.size)
    (I : Nat → Nat → World → Prop) (Ix : Code → World → Prop) (hI : ∀ b k, Stab w.heap.size (I b k)) (hIx : ∀ c, Stab w.heap.size (Ix c)) (h0 : ∀ b W', w.heap.size ≤ b → Ext w.heap.size w W' → I b 0 W')
    (hN : ∀ b k W, I b k W → N W)
    (hround : ∀ (b l k : Nat) (x : Array Value) (W : World) (o : Obj), k < n → Xp k x W → I b k W → w.heap.size ≤ l → l < b → (∃ r, W.heap[l]? = some (.loop r)) → W.heap[b]? = some o → o.isCells = true →
      assign.wpIn (FW (some l)) 0 P (Exit.then (fun a' W' => ∃ X : World → Prop, Stab w.heap.size X ∧ KeepsFrom w.heap.size W W' ∧ X W' ∧ W'.heap[b]? = some o ∧
          ∀ W2, X W2 → (∃ r, W2.heap[l]? = some (.loop r)) → W2.heap[b]? = some o → body.wpIn (FW (some l)) 0 P (rPostG w.heap.size I Ix b k o W2) a' W2) (fun _ _ _ => False))
        { tmps := (ps.zip x).foldl (fun t (p, v) => t.setIfInBounds p v) a.tmps, defers := [] } W)
    (hdone : ∀ b ds W, RMark w.heap.size ro ds W → I b n W → Q .normal { a with defers := ds ++ a.defers } W)
    (hstop : ∀ ds c W, RMark w.heap.size ro ds W → Ix c W → c.wpIn (FW ro) 0 P Q { a with defers := ds ++ a.defers } W) :
    (Code.rangeFunc g ps assign body).wpIn (FW ro) 0 P Q a w := by
  refine wpIn_rangeFunc ?_
  intro fn hfn
  -- the record's block, the block for the deferred calls
  obtain ⟨D, l, ds, W1, rec, hlen, hDl, henter, hL1, hE1, hM1, hrec⟩ : ∃ (D l : Nat) (ds : List Deferred) (W1 : World) (rec : LoopState → Option Code → Loop),
      (w.heap.size ≤ l) ∧ (D ≠ l) ∧ (Instr.enterLoop fn a.tmps ps assign body (FW ro).round).run P w = .ok (l, ds) W1 ∧ W1.heap[l]? = some (.loop (rec .ready none)) ∧ Ext w.heap.size w W1 ∧
      (∀ W, (ro = none → W.heap[D]? = some (.deferred (some []))) → RMark w.heap.size ro ds W) ∧
      ((ro = none → w.heap.size ≤ D ∧ W1.heap[D]? = some (.deferred (some []))) ∧ ∀ st pe, (rec st pe).state = st ∧ (rec st pe).pending = pe ∧ (rec st pe).fn = fn ∧ (rec st pe).tmps = a.tmps ∧ (rec st pe).params = ps ∧ (rec st pe).assign = assign ∧ (rec st pe).body = body ∧
        ∀ st' pe', { rec st pe with state := st', pending := pe' } = rec st' pe') := by
    cases ro with
    | none =>
      refine ⟨w.heap.size, w.heap.size + 1, [{ target := .collected w.heap.size, args := #[] }], _, fun st pe => { state := st, pending := pe, fn, tmps := a.tmps, params := ps, assign, body, defers := w.heap.size }, by omega, by omega, run_enterLoop_outer _ _ _ _ _, ?_, ?_, ?_, ?_, ?_⟩
      · have := World.alloc_heap_new (w.alloc (.deferred (some []))) (.loop { state := .ready, pending := none, fn, tmps := a.tmps, params := ps, assign, body, defers := w.heap.size }); rwa [World.size_alloc] at this
      · exact Ext.of_below (((Below.refl _ w).alloc (Nat.le_refl _) _).alloc (by simp) _)
      · intro W h; exact ⟨w.heap.size, Nat.le_refl _, rfl, h rfl⟩
      · intro _; exact ⟨Nat.le_refl _, (Below.heap_alloc _ _ _ (by simp)).trans (World.alloc_heap_new w _)⟩
      · intro st pe; exact ⟨rfl, rfl, rfl, rfl, rfl, rfl, rfl, fun _ _ => rfl⟩
    | some l0 =>
      obtain ⟨r0, hr0⟩ := hro l0 rfl
      refine ⟨w.heap.size + 1, w.heap.size, [], _, fun st pe => { state := st, pending := pe, fn, tmps := a.tmps, params := ps, assign, body, defers := r0.defers }, Nat.le_refl _, by omega, run_enterLoop_inner hr0 _ _ _ _ _, ?_, ?_, ?_, ?_, ?_⟩
      · exact World.alloc_heap_new w _
      · exact Ext.of_below ((Below.refl _ w).alloc (Nat.le_refl _) _)
      · intro W _; exact rfl
      · intro h; cases h
      · intro st pe; exact ⟨rfl, rfl, rfl, rfl, rfl, rfl, rfl, fun _ _ => rfl⟩
  obtain ⟨hK1, hrec⟩ := hrec
  obtain ⟨d, hres, hinv⟩ := hg l W1
  refine ⟨l, ds, W1, d, W1, gf, _, W1, henter, hres, fun _ _ => trivial, hinv, fun h => by simp at h, ?_⟩
  have hcall := hit l
    (fun b k W => I b k W ∧ W.heap[l]? = some (.loop (rec .ready none)) ∧ (ro = none → W.heap[D]? = some (.deferred (some []))))
    (fun W => ∃ c, Ix c W ∧ W.heap[l]? = some (.loop (rec .done (some c))) ∧ (ro = none → W.heap[D]? = some (.deferred (some []))))
    W1
    (fun b k W W' ⟨h1, h2, h3⟩ hb => ⟨hI b k W W' h1 (Ext.of_below hb), (hb.block l (Array.getElem?_eq_some_iff.1 h2).1).trans h2, fun e => (hb.block D (Array.getElem?_eq_some_iff.1 (h3 e)).1).trans (h3 e)⟩)
    (fun W W' ⟨c, h1, h2, h3⟩ hb => ⟨c, hIx c W W' h1 (Ext.of_below hb), (hb.block l (Array.getElem?_eq_some_iff.1 h2).1).trans h2, fun e => (hb.block D (Array.getElem?_eq_some_iff.1 (h3 e)).1).trans (h3 e)⟩)
    (fun b k W' ⟨h1, _⟩ => hN b k W' h1) ?_ (fun b W' hb hB => ⟨h0 b W' (Nat.le_trans hE1.size hb) (hE1.trans (Ext.of_below hB)), (hB.block l (Array.getElem?_eq_some_iff.1 hL1).1).trans hL1, fun e => (hB.block D (Array.getElem?_eq_some_iff.1 (hK1 e).2).1).trans (hK1 e).2⟩)
  · refine CallsIn.mono (F := FW ro) (R := _) hcall ?_
    rintro e W2 ⟨⟨v, rfl⟩, (⟨b, hi, hl, hk⟩ | ⟨c, hi, hl, hk⟩)⟩
    · have hend := run_endLoop (P := P) hl (by rw [(hrec _ _).1]; simp)
      rw [(hrec _ _).2.1] at hend
      refine ⟨none, _, hend, hdone b ds _ (hM1 _ fun e => ?_) (hI _ _ _ _ hi (Ext.putObj hl hlen rfl))⟩
      rw [World.putObj_heap_other hDl]; exact hk e
    · have hend := run_endLoop (P := P) hl (by rw [(hrec _ _).1]; simp)
      rw [(hrec _ _).2.1] at hend
      refine ⟨some c, _, hend, hstop ds c _ (hM1 _ fun e => ?_) (hIx _ _ _ hi (Ext.putObj hl hlen rfl))⟩
      rw [World.putObj_heap_other hDl]; exact hk e
  · -- one round
    rintro b k x W o hkn hx ⟨hi, hl, hk⟩ hbW hob hoc
    have hlb : l < b := Nat.lt_of_lt_of_le (Array.getElem?_eq_some_iff.1 hL1).1 hbW
    have hne : b ≠ l := by omega
    have hy := run_yield (P := P) (args := x) hl (by rw [(hrec _ _).2.2.2.2.1]; exact hps k x W hx)
    rw [(hrec _ _).2.2.1, (hrec _ _).2.2.2.1, (hrec _ _).2.2.2.2.1, (hrec _ _).2.2.2.2.2.1, (hrec _ _).2.2.2.2.2.2.1] at hy
    refine ⟨fn, _, assign, body, hy, roundIn_of_wpIn (F := FW none) hfn ?_⟩
    have hA := hround b l k x W o hkn hx hi hlen hlb ⟨_, hl⟩ hob hoc
    refine wpIn_mono hA ?_
    intro e a' Wa hp
    cases e with
    | normal =>
      obtain ⟨X, hX, hkeep, hXa, hoa, hbody⟩ := hp
      have hla := hkeep.same l _ hlen hl rfl
      have hka : ro = none → Wa.heap[D]? = some (.deferred (some [])) := fun e => hkeep.same D _ (hK1 e).1 (hk e) rfl
      refine ⟨_, run_beginRound hla (by rw [(hrec _ _).1]), ?_⟩
      have e1 : ({ rec .ready none with state := .busy } : Loop) = rec .busy none := by
        have h8 := (hrec .ready none).2.2.2.2.2.2.2 .busy none
        have h2 := (hrec .ready none).2.1
        simp only [h2]
        exact h8
      rw [e1]
      have hlt : l < Wa.heap.size := (Array.getElem?_eq_some_iff.1 hla).1
      have hl2 : (Wa.putObj l (.loop (rec .busy none))).heap[l]? = some (.loop (rec .busy none)) := World.putObj_heap_same hlt
      have hk2 : ro = none → (Wa.putObj l (.loop (rec .busy none))).heap[D]? = some (.deferred (some [])) := fun e => (World.putObj_heap_other hDl).trans (hka e)
      refine wpIn_mono (hbody _ (hX _ _ hXa (Ext.putObj hla hlen rfl)) ⟨_, hl2⟩ ((World.putObj_heap_other hne).trans hoa)) ?_
      have fin : ∀ (jump : Option Code) (W3 : World), KeepsFrom w.heap.size (Wa.putObj l (.loop (rec .busy none))) W3 →
          W3.heap[l]? = some (.loop (rec .busy none)) ∧
          (Instr.endRound l jump).run P W3 = .ok (.bool jump.isNone) (W3.putObj l (.loop (rec (if jump.isNone then .ready else .done) jump))) ∧
          (W3.putObj l (.loop (rec (if jump.isNone then .ready else .done) jump))).heap[l]? = some (.loop (rec (if jump.isNone then .ready else .done) jump)) ∧
          (ro = none → (W3.putObj l (.loop (rec (if jump.isNone then .ready else .done) jump))).heap[D]? = some (.deferred (some []))) := fun jump W3 hk3 => by
        have hl3 := hk3.same _ _ hlen hl2 rfl
        have h4 := run_endRound (P := P) jump hl3
        rw [(hrec .busy none).2.2.2.2.2.2.2] at h4
        exact ⟨hl3, h4, World.putObj_heap_same (Array.getElem?_eq_some_iff.1 hl3).1, fun e => (World.putObj_heap_other hDl).trans (hk3.same _ _ (hK1 e).1 (hk2 e) rfl)⟩
      intro e a3 W3 hp
      cases e with
      | normal =>
        obtain ⟨hk3, hi3, ho3⟩ := hp
        obtain ⟨hl3, hr, hl4, hk4⟩ := fin none W3 hk3
        exact ⟨_, _, hr, .inl ⟨rfl, ⟨hI _ _ _ _ hi3 (Ext.putObj hl3 hlen rfl), hl4, hk4⟩, (World.putObj_heap_other hne).trans ho3⟩⟩
      | ret =>
        obtain ⟨hk3, hi3⟩ := hp
        obtain ⟨hl3, hr, hl4, hk4⟩ := fin (some .ret) W3 hk3
        exact ⟨_, _, hr, .inr ⟨rfl, .ret, hIx _ _ _ hi3 (Ext.putObj hl3 hlen rfl), hl4, hk4⟩⟩
      | exit id =>
        obtain ⟨hk3, hi3⟩ := hp
        obtain ⟨hl3, hr, hl4, hk4⟩ := fin (some (.exit id)) W3 hk3
        exact ⟨_, _, hr, .inr ⟨rfl, .exit id, hIx _ _ _ hi3 (Ext.putObj hl3 hlen rfl), hl4, hk4⟩⟩
      | goto t =>
        obtain ⟨hk3, hi3⟩ := hp
        obtain ⟨hl3, hr, hl4, hk4⟩ := fin (some (.goto t)) W3 hk3
        exact ⟨_, _, hr, .inr ⟨rfl, .goto t, hIx _ _ _ hi3 (Ext.putObj hl3 hlen rfl), hl4, hk4⟩⟩
      | panic ch => exact hp.elim
      | outgrown => exact hp.elim
    | exit id => exact hp.elim
    | goto t => exact hp.elim
    | ret => exact hp.elim
    | panic ch => exact hp.elim
    | outgrown => exact hp.elim


end Go.Proofs.YtiinlplgloaanaaGreatDoor

/- Chapter 7 in the heap: the images of the ground on itself: what is needed beside the walk. -/
namespace Go.Proofs.YtiinlplgloaanaaGreatDoor
set_option linter.all false
set_option linter.unusedSimpArgs false
set_option linter.unusedVariables false
open Go.RowKit

def smallQ (q : Q) : Prop := (0 ≤ q.x ∧ q.x < 100) ∧ (0 ≤ q.y ∧ q.y < 100) ∧ 0 ≤ q.s ∧ q.s < 100
theorem small_in {q : Q} (h : inQ q) : smallQ q := by unfold inQ at h; unfold smallQ; omega
theorem encQw : KeyEnc Tryz.prog 56 Q.val smallQ where
  law := lawQ
  key q ok := by
    obtain ⟨d, hd⟩ := typesRoom
    obtain ⟨⟨h1, h2⟩, ⟨h3, h4⟩, h5, h6⟩ := ok
    refine keyOf_wide_ok (by kernel_rfl) (by kernel_rfl) (by rw [cellsQ]; rfl) ?_
    rw [hd]
    refine keyLits_struct_ok (d + 3) Tryz.underlying56 (by rw [cellsQ]; rfl) (by kernel_rfl) (fun f hf => ?_)
    simp only [List.mem_cons, List.not_mem_nil, or_false] at hf
    rcases hf with rfl | rfl | rfl
    · rw [cellsI]; exact keyLits_int_ok (d + 2) Tryz.underlying3 (wf_small h1 h2)
    · rw [cellsI]; exact keyLits_int_ok (d + 2) Tryz.underlying3 (wf_small h3 h4)
    · rw [cellsI]; exact keyLits_int_ok (d + 2) Tryz.underlying3 (wf_small h5 h6)
  inj x y _ _ h := by
    simp only [Q.val, Value.agg.injEq, Array.mk.injEq, List.cons.injEq, Value.int.injEq, true_and, and_true] at h
    exact Q.ext' h.1 h.2.1 h.2.2
/-! ### Bounds -/
def bdQ (q : Q) : Prop := (-15 ≤ q.x ∧ q.x ≤ 15) ∧ (-15 ≤ q.y ∧ q.y ≤ 15) ∧ 0 ≤ q.s ∧ q.s ≤ 3
theorem bd_in {q : Q} (h : inQ q) : bdQ q := by unfold inQ at h; unfold bdQ; omega
theorem bd_trM {q : Q} (h : bdQ q) : bdQ (trM q) := by unfold bdQ at *; unfold trM; simp only; omega
theorem bd_trT {q : Q} (h : bdQ q) : bdQ (trT q) := by unfold bdQ at *; unfold trT; simp only; omega
theorem bd_trN {q : Q} (h : bdQ q) : ∀ n, bdQ (trN n q)
  | 0 => h
  | n + 1 => bd_trT (bd_trN h n)
theorem bd_tr {q : Q} (h : bdQ q) (m : Bool) (n : Nat) : bdQ (tr m n q) := by
  unfold tr; split
  · exact bd_trN (bd_trM h) n
  · exact bd_trN h n
theorem foldl_min_int (f : Q → Int) : ∀ (l : List Q) (m : Int), (l.foldl (fun m q => min m (f q)) m ≤ m ∧ ∀ q ∈ l, l.foldl (fun m q => min m (f q)) m ≤ f q) ∧ (l.foldl (fun m q => min m (f q)) m = m ∨ ∃ q ∈ l, l.foldl (fun m q => min m (f q)) m = f q)
  | [], m => ⟨⟨Int.le_refl _, fun q hq => by cases hq⟩, .inl rfl⟩
  | a :: l, m => by
    obtain ⟨⟨h1, h2⟩, h3⟩ := foldl_min_int f l (min m (f a))
    simp only [List.foldl_cons]
    refine ⟨⟨by omega, fun q hq => ?_⟩, ?_⟩
    · rcases List.mem_cons.1 hq with rfl | hq
      · omega
      · exact h2 q hq
    · rcases h3 with h3 | ⟨q, hq, h3⟩
      · by_cases hm : m ≤ f a
        · left; omega
        · right; exact ⟨a, by simp, by omega⟩
      · right; exact ⟨q, by simp [hq], h3⟩
/-! ### The least, from 16 on -/
def low16 (f : Q → Int) (L : List Q) (i : Nat) : Int := (L.take i).foldl (fun m q => min m (f q)) 16
theorem low16_step {f : Q → Int} {L : List Q} {i : Nat} {q : Q} (h : L[i]? = some q) : low16 f L (i + 1) = min (low16 f L i) (f q) := by
  unfold low16; rw [take_snoc6 h, List.foldl_append]; rfl
theorem low16_bd {f : Q → Int} {L : List Q} (h : ∀ q ∈ L, -15 ≤ f q) (i : Nat) : -15 ≤ low16 f L i ∧ low16 f L i ≤ 16 := by
  obtain ⟨⟨h1, _⟩, h3⟩ := foldl_min_int f (L.take i) 16
  unfold low16
  refine ⟨?_, h1⟩
  rcases h3 with h3 | ⟨q, hq, h3⟩
  · omega
  · have := h q (List.mem_of_mem_take hq); omega
theorem low16_all {f : Q → Int} {L : List Q} (h0 : L ≠ []) (h : ∀ q ∈ L, f q ≤ 15) : low16 f L L.length = minL f L := by
  obtain ⟨⟨h1, h2⟩, h3⟩ := foldl_min_int f L 16
  unfold low16
  rw [List.take_length]
  refine (minL_eq ?_ h2).symm
  rcases h3 with h3 | ⟨q, hq, h3⟩
  · cases L with
    | nil => exact absurd rfl h0
    | cons a l =>
      have := h a (by simp)
      have := h2 a (by simp)
      omega
  · exact ⟨q, hq, h3.symm⟩
/-! ### Which images -/
def waysN (g : List Q) (i : Nat) : List (List Nat) := (List.range i).filterMap (wayT g)
theorem waysN_some {g : List Q} {i : Nat} {w : List Nat} (h : wayT g i = some w) : waysN g (i + 1) = waysN g i ++ [w] := by
  unfold waysN; rw [List.range_succ, List.filterMap_append]; simp [h]
theorem waysN_none {g : List Q} {i : Nat} (h : wayT g i = none) : waysN g (i + 1) = waysN g i := by
  unfold waysN; rw [List.range_succ, List.filterMap_append]; simp [h]
theorem waysN_le {g : List Q} {i j : Nat} (h : i ≤ j) : ∃ l, waysN g j = waysN g i ++ l := by
  induction j with
  | zero => obtain rfl : i = 0 := by omega
            exact ⟨[], by simp⟩
  | succ j ih =>
    by_cases e : i = j + 1
    · subst e; exact ⟨[], by simp⟩
    · obtain ⟨l, hl⟩ := ih (by omega)
      cases hw : wayT g j with
      | none => exact ⟨l, by rw [waysN_none hw, hl]⟩
      | some w => exact ⟨l ++ [w], by rw [waysN_some hw, hl, List.append_assoc]⟩
theorem waysN_get {g : List Q} {i : Nat} {w : List Nat} (hi : i < 8) (h : wayT g i = some w) : (waysT g)[(waysN g i).length]? = some w := by
  obtain ⟨l, hl⟩ := waysN_le (g := g) (show i + 1 ≤ 8 by omega)
  have : waysT g = waysN g 8 := rfl
  rw [this, hl, waysN_some h]
  simp
def imgT (g : List Q) (i : Nat) : List Q := g.map (tr (decide (4 ≤ i)) (i % 4))
def atT (g : List Q) (dx dy : Int) (q : Q) : Option Nat := g.findIdx? fun r => decide (r = sh dx dy q)
theorem wayT_eq (g : List Q) (i : Nat) : wayT g i = (imgT g i).mapM (atT g (leftL g - leftL (imgT g i)) (lowL g - lowL (imgT g i))) := rfl
theorem mapM_snoc {α β : Type} (f : α → Option β) (l : List α) (x : α) : (l ++ [x]).mapM f = (l.mapM f).bind fun a => (f x).map fun b => a ++ [b] := by
  rw [List.mapM_append]
  cases l.mapM f <;> cases h : f x <;> simp [h]
theorem mapM_take_none {α β : Type} {f : α → Option β} {l : List α} {i : Nat} (h : (l.take i).mapM f = none) : l.mapM f = none := by
  rw [← List.take_append_drop i l, List.mapM_append, h]; rfl
theorem mapM_some_len {α β : Type} {f : α → Option β} {l : List α} {T : List β} (h : l.mapM f = some T) : T.length = l.length := by
  induction l generalizing T with
  | nil => simp at h; subst h; rfl
  | cons a l ih =>
    rw [List.mapM_cons] at h
    cases hf : f a with
    | none => rw [hf] at h; cases h
    | some b =>
      cases hl : l.mapM f with
      | none => rw [hf, hl] at h; cases h
      | some T' =>
        rw [hf, hl] at h
        cases h
        simp [ih hl]
theorem atT_some {g : List Q} {dx dy : Int} {q : Q} {n : Nat} (h : atT g dx dy q = some n) : g[n]? = some (sh dx dy q) ∧ n < g.length := by
  obtain ⟨hn, h1, _⟩ := List.findIdx?_eq_some_iff_getElem.1 h
  simp only [decide_eq_true_eq] at h1
  exact ⟨by rw [List.getElem?_eq_getElem hn, h1], hn⟩
theorem atT_none {g : List Q} {dx dy : Int} {q : Q} (h : atT g dx dy q = none) : sh dx dy q ∉ g := by
  unfold atT at h
  rw [List.findIdx?_eq_none_iff] at h
  intro hq
  have := h _ hq
  simp at this
theorem infoI3 : (Tryz.prog.info? 3).map (fun i => (i.zero, i.size, i.bytes)) = some (some (.int .i64 0), 1, 8) := by kernel_rfl
theorem cells1 (W : World) (v : Value) (T : TypeId) : ∀ (j : Nat) (u : Value), ([v] : List Value)[j]? = some u → (W.alloc (.cells #[v] T)).cell? ((⟨W.heap.size, 0, none⟩ : Addr).add j) = some u :=
  block_cells (World.alloc_heap_new W (.cells ([v] : List Value).toArray T))
/-! ### The world in a round -/
theorem row3_set0 {W : World} {tb : Nat} {a b c : Value} {T : TypeId} (h : W.heap[tb]? = some (.cells #[a, b, c] T)) (u : Value) : (W.setCell ⟨tb, 0, none⟩ u).heap[tb]? = some (.cells #[u, b, c] T) := by
  rw [heap_setCell_same W tb 0 _ _ u h]; rfl
theorem row3_set1 {W : World} {tb : Nat} {a b c : Value} {T : TypeId} (h : W.heap[tb]? = some (.cells #[a, b, c] T)) (u : Value) : (W.setCell ⟨tb, 1, none⟩ u).heap[tb]? = some (.cells #[a, u, c] T) := by
  rw [heap_setCell_same W tb 1 _ _ u h]; rfl
theorem row3_set2 {W : World} {tb : Nat} {a b c : Value} {T : TypeId} (h : W.heap[tb]? = some (.cells #[a, b, c] T)) (u : Value) : (W.setCell ⟨tb, 2, none⟩ u).heap[tb]? = some (.cells #[a, b, u] T) := by
  rw [heap_setCell_same W tb 2 _ _ u h]; rfl
structure SyI (B : Nat) (w W : World) (u : Value) (L : List Q) : Prop where
  own : OwnQ W B u L
  below : Below B w W
  base : B ≤ W.heap.size
theorem SyI.keep {B : Nat} {w W W' : World} {u : Value} {L : List Q} (h : SyI B w W u L) (e : Below W.heap.size W W') : SyI B w W' u L :=
  ⟨h.own.below e, h.below.trans (e.mono h.base), Nat.le_trans h.base e.size⟩
theorem SyI.cell {B : Nat} {w W : World} {u : Value} {L : List Q} (h : SyI B w W u L) {b : Nat} (hb : B ≤ b) (hu : u.ownBlock ≠ some b) (j : Nat) (z : Value) : SyI B w (W.setCell ⟨b, j, none⟩ z) u L := by
  refine ⟨World.ownsRow.kept (row := some b) h.own ⟨rfl, rfl, rfl, by simp, fun k _ hk => heap_setCell_other W ⟨b, j, none⟩ k z (fun e => hk (by rw [e]))⟩ ?_, h.below.setCell (by simp; omega) _, by simpa using h.base⟩
  by_cases hv : u.ownBlock = none
  · exact .inl hv
  · exact .inr hu
theorem SyI.grow {B : Nat} {w W W' : World} {u u' : Value} {L L' : List Q} (h : SyI B w W u L) {g : Option Nat} (hg : W.grownBy W' g) (hb : ∀ k, g = some k → B ≤ k) (ho : OwnQ W' B u' L') : SyI B w W' u' L' :=
  ⟨ho, h.below.grown hg h.base hb, Nat.le_trans h.base hg.size⟩
end Go.Proofs.YtiinlplgloaanaaGreatDoor
