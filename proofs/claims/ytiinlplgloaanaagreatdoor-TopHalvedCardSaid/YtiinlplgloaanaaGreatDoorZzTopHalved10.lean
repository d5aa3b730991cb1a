/- A region that draws its order and holds a chain of operations that change memory, one after another (a call, a slice that is built, an append, a store). -/
import Derived.Test.YtiinlplgloaanaaGreatDoorZzTopHalved09
import Derived.Laws.IdiomStrings
import Derived.Test.YtiinlplgloaanaaGreatDoorZzTopHalved02
import Derived.Test.YtiinlplgloaanaaGreatDoorZzTopHalved01
import Derived.StringKeys
import Derived.Test.YtiinlplgloaanaaGreatDoorZzTopHalved08

/- Chapter 7 in the heap: the bricks of a state; the first tiling. -/
namespace Go.Proofs.YtiinlplgloaanaaGreatDoor
set_option linter.all false
set_option linter.unusedSimpArgs false
set_option linter.unusedVariables false
open Go.RowKit
attribute [local go_sem] Oper.semAt_some

theorem hp_cells {W : World} {g : Nat} {p : HP} {T : TypeId} (h : W.heap[g]? = some (.cells (hpVals p).toArray T (0, 0))) :
    W.cell? ⟨g, 0, none⟩ = some (.int .i64 p.ld.kind) ∧ W.cell? ⟨g, 1, none⟩ = some (.bool p.ld.m) ∧ W.cell? ⟨g, 2, none⟩ = some (.int .i64 p.ld.t) ∧ W.cell? ⟨g, 3, none⟩ = some (.int .i64 p.ld.x) ∧ W.cell? ⟨g, 4, none⟩ = some (.int .i64 p.ld.y) := by
  refine ⟨?_, ?_, ?_, ?_, ?_⟩ <;> (simp only [World.cell?, h]; rfl)
theorem infoLd : (Tryz.prog.info? 50).map (fun i => (i.zero, i.size, i.bytes)) = some (some (.agg #[.int .i64 0, .bool false, .int .i64 0, .int .i64 0, .int .i64 0]), 5, 40) := by kernel_rfl
theorem take_snoc6 {α : Type} {l : List α} {k : Nat} {x : α} (h : l[k]? = some x) : l.take (k + 1) = l.take k ++ [x] := by rw [List.take_add_one, h]; rfl

set_option maxRecDepth 100000 in
set_option maxHeartbeats 2000000 in
theorem list_state (S : HS) (hs : List HP) (w : World) (h : RP.Has w S.laid hs) (hl : hs.length ≤ 1000000) :
    Calls Tryz.prog 76 #[RS.val S] w fun e w' => ∃ v, e = .returned v ∧ RL.Own w' w.heap.size v (hs.map (·.ld)) ∧ Below w.heap.size w w' := by
  have hA := World.alloc_heap_new w (.cells (hsVals S).toArray 108)
  have hB : Below w.heap.size w (w.alloc (.cells (hsVals S).toArray 108)) := (Below.refl _ w).alloc (Nat.le_refl _) _
  have hle : S.ln = hs.length := by
    obtain ⟨p, c, e⟩ := h.slice
    unfold HS.laid at e
    simp only [Value.slice.injEq] at e
    exact e.2.1
  have HP := Lib.hid (h.below hB); clear h
  have c0 : (w.alloc (.cells (hsVals S).toArray 108)).cell? ⟨w.heap.size, 0, none⟩ = some (.slice S.lp hs.length S.lc) := by rw [(hs_cells hA).1, hle]
  unfold HS.laid at HP
  rw [hle] at HP
  clear hle
  show Calls _ _ #[.agg (hsVals S).toArray] _ _
  go_enter Tryz.func76, Tryz.ntmps76
  go_wp2_with fail
  revert HP c0 hB
  clear hA
  generalize w.alloc (.cells (hsVals S).toArray 108) = W1
  generalize S.lp = lp
  generalize S.lc = lc
  intro hB HP c0
  go_wp2_with fail
  clear c0
  go_loopw [2, 8] (fun u z wr => ∃ k : Nat, k ≤ hs.length ∧ z = .int .i64 k ∧ Hid (RL.Own wr W1.heap.size u ((hs.take k).map (·.ld)) ∧ Below W1.heap.size W1 wr)) (fun _ z _ => hs.length - (intOf z).toNat)
  case atStart => exact ⟨0, by omega, rfl, Lib.hid ⟨RL.own_nil _ _, Below.refl _ _⟩⟩
  case round =>
    obtain ⟨k, hk, rfl, HR⟩ := hrel
    by_cases hlt : k < hs.length
    · obtain ⟨p, hp⟩ : ∃ p, hs[k]? = some p := ⟨_, List.getElem?_eq_getElem hlt⟩
      obtain ⟨xa, rfl, hat⟩ := (HP.out.below HR.out.2).at_ (by rintro e; rw [e] at hlt; simp at hlt)
      have hld := run_load_elem (P := Tryz.prog) Tryz.underlying152 rfl sizeP hat hp
      have HPK := Lib.hid hp; clear hp
      have hsz : (Tryz.prog.info? 152).map (·.size) = some (hpVals p).toArray.size := sizeP
      have hone : (hpVals p).toArray.all (·.oneCell') = true := by simp [hpVals, Value.oneCell']
      clear hat
      go_upto_region 4 with (first
        | (refine wpList_load_is rfl 152 _ rfl rfl hld ?_)
        | (refine wpList_store_row rfl 152 _ _ rfl wr.heap.size rfl 152 _ (hpVals p).toArray rfl (World.alloc_heap_new wr _) hsz rfl hone ?_; rw [World.setRow_alloc_new]))
      have hC := World.alloc_heap_new wr (.cells (hpVals p).toArray 152)
      have hB1 : Below wr.heap.size wr (wr.alloc (.cells (hpVals p).toArray 152)) := (Below.refl _ wr).alloc (Nat.le_refl _) _
      have hs1 : (wr.alloc (.cells (hpVals p).toArray 152)).heap.size = wr.heap.size + 1 := World.size_alloc _ _
      revert hC hB1 hs1
      generalize wr.alloc (.cells (hpVals p).toArray 152) = w1
      intro hC hB1 hs1
      obtain ⟨k0, k1, k2, k3, k4⟩ := hp_cells hC
      clear hC
      have hown := owns_below HR.out.1 hB1
      have hB2 := HR.out.2.trans (hB1.mono HR.out.2.size)
      obtain ⟨l, hl2⟩ : ∃ l, (hs.take k).map (·.ld) = l := ⟨_, rfl⟩
      rw [hl2] at hown
      have hlk : l.length = k := by rw [← hl2, List.length_map, List.length_take]; omega
      have HLK := Lib.hid hlk
      have HL2 := Lib.hid hl2; clear hl2
      obtain ⟨iL, hiL, hzL, hsL, hbL⟩ := info_parts infoLd
      have HM1 : Hid (l.length + 1 ≤ maxLen) := Lib.hid (by simp only [maxLen]; omega)
      have HM2 : Hid ((l.length + 1) * 40 ≤ 140737488355328) := Lib.hid (by omega)
      have hown2 := owns_below hown ((Below.refl _ w1).alloc (Nat.le_refl _) (.cells (ldVals p.ld).toArray 50))
      have HOW := Lib.hid hown2; clear hown hown2
      have hcells := block_cells (World.alloc_heap_new w1 (.cells (ldVals p.ld).toArray 50))
      have HCE := Lib.hid hcells; clear hcells
      have hbs : W1.heap.size ≤ w1.heap.size := hB2.size
      have HB2 := Lib.hid hB2; clear hB2
      clear hB1 hs1 HR hlk
      go_wp2_with (first
        | (at_builtin; refine wpList_append_own _ rfl _ _ 31 rfl W1.heap.size 50 iL _ 5 40 Tryz.underlying31 hiL hzL hsL hbL rfl (by decide) _ l.length (RL.cells l) rfl HOW.out ⟨w1.heap.size, 0, none⟩ 1 1 (ldVals p.ld) rfl rfl HCE.out (RL.one p.ld) HM1.out HM2.out (by rw [World.size_alloc]; omega) ?_; intro v' w2 hown' hgrow _; obtain ⟨p', c', rfl⟩ := own_slice hown'))
      go_roundw
      case rel => 
        refine ⟨k + 1, by omega, by go_num, Lib.hid ⟨?_, ?_⟩⟩
        · rw [take_snoc6 HPK.out, List.map_append, HL2.out]; exact RL.own_snoc hown'
        · exact (HB2.out.alloc hbs _).grown hgrow (by rw [World.size_alloc]; omega) fun j hj => (HOW.out.lt j hj).1
      case measure => simp [intOf]; omega
    · obtain rfl : k = hs.length := by omega
      have hown := HR.out.1
      rw [List.take_length] at hown
      have HOW := Lib.hid hown; clear hown
      go_wp2_with fail
      go_ret
      exact ⟨_, rfl, owns_weak HOW.out hB.size, hB.trans (HR.out.2.mono hB.size)⟩
end Go.Proofs.YtiinlplgloaanaaGreatDoor

/- Chapter 7 in the heap: the first tiling of a board. -/
namespace Go.Proofs.YtiinlplgloaanaaGreatDoor
set_option linter.all false
set_option linter.unusedSimpArgs false
set_option linter.unusedVariables false
open Go.RowKit
attribute [local go_sem] Oper.semAt_some

/-- The first tiling, and the error. -/
def firstT (t : Tk) : List Ld × Nat := if (tilingsT t).2.2 ≠ 0 then ([], (tilingsT t).2.2) else match (tilingsT t).1 with
  | [] => ([], 7)
  | x :: _ => (x.map (·.ld), 0)
/-- What root needs of the world, wherever it stands. -/
def RootOk (t : Tk) (L : List E) (bb : Nat) (bv : BV) (w : World) : Prop :=
  ∀ W, BdAt W bb bv t L (pcsT t L) (belT t L) → Below w.heap.size w W → Calls Tryz.prog 65 #[.pointer (some ⟨bb, 0, none⟩)] W (RootPost t L W)
theorem RootOk.below {t : Tk} {L : List E} {bb : Nat} {bv : BV} {w W : World} (h : RootOk t L bb bv w) (e : Below w.heap.size w W) : RootOk t L bb bv W :=
  fun W' hb he => h W' hb (e.trans (he.mono e.size))
theorem TsAt.slice {W : World} {g : List Q} {L : List E} {base : Nat} {v : Value} {Ts : List (List Pc)} (h : TsAt W g L base v Ts) : ∃ p c, v = .slice p Ts.length c := by
  obtain ⟨Ss, h1, h2, _⟩ := h
  obtain ⟨p, c, e⟩ := own_slice h1
  exact ⟨p, c, by rw [e, h2]⟩
theorem tilings_small (t : Tk) : (tilingsT t).1.length ≤ 20000 ∧ (tilingsT t).2.1 ≤ 20000 ∧ (tilingsT t).2.2 ≤ 8 := by
  unfold tilingsT
  split
  · simp
  · split
    · split
      · simp
      · rename_i s _ _ h
        have := search_le t t.ground.length s
        simp only [List.length_map]
        omega
    · simp
theorem tiling_len {t : Tk} {L : List E} (ok : TkOk t L) {T : List Pc} (h : T ∈ (tilingsT t).1) (hr : ∀ s, rootT t = some s → GoodT t s) : T.length ≤ 64 := by
  unfold tilingsT at h
  split at h
  · cases h
  · rename_i s hs
    split at h
    · split at h
      · cases h
      · simp only at h
        obtain ⟨u, hu, rfl⟩ := List.mem_map.1 h
        have := ok.len64 (search_found _ (hr s hs) hu).1
        rw [(sortP_perm t.ground u).length_eq]; exact this
    · cases h

set_option maxRecDepth 100000 in
set_option maxHeartbeats 4000000 in
theorem after_nil {t : Tk} {L : List E} (ho : OkT t) (ok : TkOk t L) (hrg : ∀ s, rootT t = some s → GoodT t s) (w : World) (bb : Nat) (bv : BV) (hbd : BdAt w bb bv t L (pcsT t L) (belT t L)) (htb : TbAt w) (hroot : RootOk t L bb bv w) :
    Calls Tryz.prog 48 #[.pointer (some ⟨bb, 0, none⟩), .slice none 0 0] w fun e w' => ∃ v, e = .returned (.tuple #[v, .int .i64 (firstT t).2]) ∧ RL.Own w' w.heap.size v (firstT t).1 ∧ Below w.heap.size w w' := by
  have hB1 : Below w.heap.size w (w.alloc (.cells #[.slice none 0 0] 102)) := (Below.refl _ w).alloc (Nat.le_refl _) _
  have hA1 := World.alloc_heap_new w (.cells #[.slice none 0 0] 102)
  have hz1 : (w.alloc (.cells #[.slice none 0 0] 102)).heap.size = w.heap.size + 1 := World.size_alloc _ _
  have HTI := Lib.hid (tilings_any ho ok _ bb bv (hbd.keep hB1) (htb.below hB1) (hroot.below hB1))
  have HSM := Lib.hid (tilings_small t)
  have HTL := Lib.hid (fun T h => tiling_len (T := T) ok h hrg)
  have HFT : Hid (firstT t = if (tilingsT t).2.2 ≠ 0 then ([], (tilingsT t).2.2) else match (tilingsT t).1 with | [] => ([], 7) | x :: _ => (x.map (·.ld), 0)) := Lib.hid rfl
  clear ho ok hrg hbd htb hroot
  revert HTI HSM HTL HFT
  generalize tilingsT t = R
  obtain ⟨Ts, nn, code⟩ := R
  simp only
  intro HTI HSM HTL HFT
  obtain ⟨fl, hfl⟩ : ∃ fl, firstT t = fl := ⟨_, rfl⟩
  rw [hfl] at HFT ⊢
  clear hfl
  obtain ⟨fl, fc⟩ := fl
  go_enter Tryz.func48, Tryz.ntmps48
  go_wp2_with fail
  revert HTI hA1 hB1 hz1
  generalize w.alloc (.cells #[.slice none 0 0] 102) = w1
  intro hB1 hA1 hz1 HTI
  refine HTI.out.mono ?_
  rintro e w2 ⟨v, rfl, hts, hB2⟩
  obtain ⟨vp, vc, rfl⟩ := hts.slice
  have hA2 := (hB2.block _ (Array.getElem?_eq_some_iff.1 hA1).1).trans hA1
  have hB3 := hB1.trans (hB2.mono hB1.size)
  have HTS := Lib.hid hts; clear hts
  have HB3 := Lib.hid hB3
  have hsz := hB3.size
  clear hB1 hB2 hA1 hB3 HTI
  by_cases hc : code = 0
  case neg =>
    have hb : ((code : Int) != 0) = true := by simpa using hc
    have HF : Hid ((fl, fc) = ([], code)) := Lib.hid (by rw [HFT.out, if_pos hc])
    go_wp2_with fail
    go_ret2
    have h := HF.out
    simp only [Prod.mk.injEq] at h
    obtain ⟨rfl, rfl⟩ := h
    exact ⟨_, rfl, RL.own_nil _ _, HB3.out⟩
  subst hc
  have c3 : w2.cell? ⟨w.heap.size, 0, none⟩ = some (.slice none 0 0) := by simp [World.cell?, hA2]
  cases Ts with
  | nil =>
    have HF : Hid ((fl, fc) = ([], 7)) := Lib.hid (by rw [HFT.out]; rfl)
    go_wp2_with fail
    go_ret2
    have h := HF.out
    simp only [Prod.mk.injEq] at h
    obtain ⟨rfl, rfl⟩ := h
    exact ⟨_, rfl, RL.own_nil _ _, HB3.out⟩
  | cons T Ts =>
    have HF : Hid ((fl, fc) = (T.map (·.ld), 0)) := Lib.hid (by rw [HFT.out]; rfl)
    obtain ⟨Ss, hSs, hlen, hent⟩ := HTS.out
    obtain ⟨S, hS⟩ : ∃ S, Ss[0]? = some S := ⟨_, List.getElem?_eq_getElem (by rw [hlen]; simp)⟩
    obtain ⟨hst, hown⟩ := hent 0 S T hS rfl
    have hhas := REnc.Own.has hSs
    obtain ⟨xa, hxa, hat⟩ := hhas.at_ (by rintro e; rw [e] at hS; simp at hS)
    subst hxa
    have hld := run_load_elem (P := Tryz.prog) Tryz.underlying108 rfl sizeS hat hS
    have hll := list_state S (T.map (hpT t.ground L)) w2 hown.has (by rw [List.length_map]; have := HTL.out T (by simp); omega)
    have HLL := Lib.hid hll; clear hll
    have HM : Hid (T.map (·.ld) = (T.map (hpT t.ground L)).map (·.ld)) := Lib.hid (by rw [List.map_map]; rfl)
    clear hst hown hhas hat hent hSs hlen hS
    go_wp2_with (refine wpList_load_is rfl 108 _ rfl rfl hld ?_)
    refine HLL.out.mono ?_
    rintro e w3 ⟨v, rfl, ho3, hB4⟩
    have HO3 := Lib.hid ho3; clear ho3
    have HB4 := Lib.hid hB4; clear hB4
    clear HLL
    go_wp2_with fail
    go_ret2
    have h := HF.out
    simp only [Prod.mk.injEq] at h
    obtain ⟨rfl, rfl⟩ := h
    refine ⟨_, rfl, ?_, HB3.out.trans (HB4.out.mono hsz)⟩
    rw [HM.out]
    exact owns_weak HO3.out hsz
end Go.Proofs.YtiinlplgloaanaaGreatDoor

/- The library's FormatUint, base 36. -/
namespace Go.Proofs.YtiinlplgloaanaaGreatDoor
set_option linter.all false
set_option linter.unusedSimpArgs false
set_option linter.unusedVariables false
open Go.RowKit
attribute [local go_sem] Oper.semAt_some

def digS : ByteArray := ⟨#[48, 49, 50, 51, 52, 53, 54, 55, 56, 57, 97, 98, 99, 100, 101, 102, 103, 104, 105, 106, 107, 108, 109, 110, 111, 112, 113, 114, 115, 116, 117, 118, 119, 120, 121, 122]⟩
theorem index_dig36 {n : Nat} (hn : n < 36) (W : World) : (Instr.index 9 (.string digS) (.int .u64 (n : Int))).run Tryz.prog W = .ok (.int .u8 ((digB36 n).toNat : Nat)) W := by
  rcases (by omega : n = 0 ∨ n = 1 ∨ n = 2 ∨ n = 3 ∨ n = 4 ∨ n = 5 ∨ n = 6 ∨ n = 7 ∨ n = 8 ∨ n = 9 ∨ n = 10 ∨ n = 11 ∨ n = 12 ∨ n = 13 ∨ n = 14 ∨ n = 15 ∨ n = 16 ∨ n = 17 ∨ n = 18 ∨ n = 19 ∨ n = 20 ∨ n = 21 ∨ n = 22 ∨ n = 23 ∨ n = 24 ∨ n = 25 ∨ n = 26 ∨ n = 27 ∨ n = 28 ∨ n = 29 ∨ n = 30 ∨ n = 31 ∨ n = 32 ∨ n = 33 ∨ n = 34 ∨ n = 35) with rfl | rfl | rfl | rfl | rfl | rfl | rfl | rfl | rfl | rfl | rfl | rfl | rfl | rfl | rfl | rfl | rfl | rfl | rfl | rfl | rfl | rfl | rfl | rfl | rfl | rfl | rfl | rfl | rfl | rfl | rfl | rfl | rfl | rfl | rfl | rfl <;> kernel_rfl
theorem isPow36 (w : World) : Calls Tryz.prog 201 #[.int .i64 36] w fun e w' => e = .returned (.bool false) ∧ w' = w := by
  go_enter Tryz.func201, Tryz.ntmps201
  go_wp2_with fail
  first
    | exact ⟨rfl, rfl⟩
    | (go_ret; exact ⟨rfl, rfl⟩)
/-- What the buffer holds from i on. -/
def BufAt (W : World) (b i : Nat) (T : TypeId) (d : List UInt8) : Prop := ∃ cs : Array Value, W.heap[b]? = some (.cells cs T (0, 0)) ∧ cs.size = 65 ∧ i + d.length = 65 ∧ cs.toList.drop i = d.map fun x => .int .u8 x.toNat
theorem BufAt.store {W : World} {b i : Nat} {T : TypeId} {d : List UInt8} (h : BufAt W b (i + 1) T d) (x : UInt8) : BufAt (W.setCell ⟨b, i, none⟩ (.int .u8 x.toNat)) b i T (x :: d) := by
  obtain ⟨cs, h1, h2, h3, h4⟩ := h
  refine ⟨cs.setIfInBounds i (.int .u8 x.toNat), heap_setCell_same W b i _ _ _ h1, by simpa using h2, by simp; omega, ?_⟩
  have hi : i < cs.toList.length := by rw [Array.length_toList]; omega
  rw [Array.toList_setIfInBounds, List.drop_set, if_neg (by omega), Nat.sub_self, List.drop_eq_getElem_cons hi, List.set_cons_zero, h4]
  rfl
theorem BufAt.cell {W : World} {b i : Nat} {T : TypeId} {d : List UInt8} (h : BufAt W b i T d) {j : Nat} (hj : j < 65) : (∃ u, W.cell? ⟨b, j, none⟩ = some u) ∧ W.frozen? ⟨b, j, none⟩ = false := by
  obtain ⟨cs, h1, h2, _⟩ := h
  refine ⟨⟨cs[j]'(by omega), ?_⟩, frozen_of_row W b j _ _ h1⟩
  simp only [World.cell?, h1]
  simp [Array.getElem?_eq_getElem (show j < cs.size by omega)]
theorem BufAt.get {W : World} {b i : Nat} {T : TypeId} {d : List UInt8} (h : BufAt W b i T d) (j : Nat) (hj : j < d.length) : W.cell? ((⟨b, i, none⟩ : Addr).add j) = some (.int .u8 (d[j].toNat : Int)) := by
  obtain ⟨cs, h1, h2, h3, h4⟩ := h
  have e : ((⟨b, i, none⟩ : Addr).add j) = ⟨b, i + j, none⟩ := by
    unfold Addr.add
    by_cases h : j = 0
    · subst h; rfl
    · rw [if_neg h]
  rw [e]
  simp only [World.cell?, h1]
  have h5 : (cs.toList.drop i)[j]? = some (.int .u8 (d[j].toNat : Int)) := by rw [h4, List.getElem?_map, List.getElem?_eq_getElem hj]; rfl
  rw [List.getElem?_drop, Array.getElem?_toList] at h5
  exact h5
theorem slice_tail (b i : Nat) (hi : i < 65) (W : World) : (Instr.sliceAt 276 (.pointer (some ⟨b, 0, none⟩)) (some (.int .i64 (i : Int))) none none).run Tryz.prog W = .ok (.slice (some ⟨b, i, none⟩) (65 - i) (65 - i)) W := by
  have hl : Tryz.prog.arrayLen 276 = 65 := by kernel_rfl
  have he : Tryz.prog.elem 276 = 5 := by kernel_rfl
  rw [run_sliceAt_array_l W 276 ⟨b, 0, none⟩ (by rw [hl, he]; exact Tryz.underlying276) .i64 (i : Int) (by omega) (by rw [hl]; omega), he, hl, Tryz.sizeOf5]
  have h1 : ¬ (65 = i) := by omega
  simp only [Result.andThen, slicedAt, Int.toNat_natCast, if_neg h1, Nat.mul_one]
  unfold Addr.add
  by_cases h : i = 0
  · subst h; rfl
  · rw [if_neg h]; simp
theorem fmt_go {n : Nat} {f : Nat} {l : List UInt8} (h : 36 ≤ n) : fmtB 36 (f + 1) n l = fmtB 36 f (n / 36) (digB36 (n % 36) :: l) := by
  show (if n < 36 then _ else _) = _
  rw [if_neg (by omega)]
theorem fmt_end {n : Nat} {f : Nat} {l : List UInt8} (h : n < 36) : fmtB 36 (f + 1) n l = digB36 n :: l := by
  show (if n < 36 then _ else _) = _
  rw [if_pos h]
set_option maxRecDepth 100000 in
set_option maxHeartbeats 4000000 in
theorem formatBits36 (n : Nat) (hn : n < 2 ^ 64) (w : World) : Calls Tryz.prog 166 #[.slice none 0 0, .int .u64 n, .int .i64 36, .bool false, .bool false] w fun e w' => e = .returned (.tuple #[.slice none 0 0, .string ⟨(fmt36 n).toArray⟩]) ∧ Below w.heap.size w w' := by
  go_enter Tryz.func166, Tryz.ntmps166
  go_wp2_with (refine (isPow36 _).mono ?_; rintro e w' ⟨rfl, rfl⟩)
  generalize hw1 : World.alloc w _ = w1
  obtain ⟨T, hBuf⟩ : ∃ T, BufAt w1 w.heap.size 65 T [] := by
    rw [← hw1]
    exact ⟨_, _, World.alloc_heap_new w _, rfl, rfl, rfl⟩
  have hBl : Below w.heap.size w w1 := by
    rw [← hw1]
    exact (Below.refl _ w).alloc (Nat.le_refl _) _
  clear hw1
  have H0 : Hid (BufAt w1 w.heap.size 65 T [] ∧ fmtB 36 64 n [] = fmt36 n ∧ n < 2 ^ (64 - 5 * ([] : List UInt8).length) ∧ Below w.heap.size w w1) := Lib.hid ⟨hBuf, rfl, hn, hBl⟩
  clear hBuf hBl
  go_loopw [1, 13] (fun u z wr => ∃ (d m : Nat) (dig : List UInt8), dig.length = d ∧ d ≤ 12 ∧ u = .int .u64 m ∧ z = .int .i64 (65 - d : Nat) ∧ Hid (BufAt wr w.heap.size (65 - d) T dig ∧ fmtB 36 (64 - d) m dig = fmt36 n ∧ m < 2 ^ (64 - 5 * d) ∧ Below w.heap.size w wr)) (fun u _ _ => (intOf u).toNat)
  case atStart => exact ⟨0, n, [], rfl, by omega, rfl, rfl, H0⟩
  case round =>
    clear H0
    obtain ⟨d, m, dig, hdl, hd, rfl, rfl, HR⟩ := hrel
    have hm64 : m < 2 ^ 64 := Nat.lt_of_lt_of_le HR.out.2.2.1 (Nat.pow_le_pow_right (by decide) (by omega))
    by_cases hge : 36 ≤ m
    · have hd11 : d ≤ 11 := by
        rcases Nat.lt_or_ge d 12 with h | h
        · omega
        · obtain rfl : d = 12 := by omega
          have := HR.out.2.2.1
          omega
      have hp : 2 ^ (64 - 5 * d) = 2 ^ (64 - 5 * (d + 1)) * 32 := by
        rw [show 64 - 5 * d = 64 - 5 * (d + 1) + 5 by omega, Nat.pow_add]
      have HLT : Hid (m / 36 < 2 ^ (64 - 5 * (d + 1))) := Lib.hid (by
        have := HR.out.2.2.1
        rw [hp] at this
        omega)
      clear hp
      obtain ⟨i, hi⟩ : ∃ i, 65 - d = i + 1 := ⟨64 - d, by omega⟩
      have hbuf := HR.out.1
      rw [hi] at hbuf ⊢
      have HB2 := Lib.hid (hbuf.store (digB36 (m % 36)))
      obtain ⟨⟨u0, c0⟩, f0⟩ := hbuf.cell (j := i) (by omega)
      have hix : (Instr.index 9 (.string digS) (.int .u64 ((m : Int) - (m : Int) / 36 * 36))).run Tryz.prog wr = .ok (.int .u8 ((digB36 (m % 36)).toNat : Nat)) wr := by
        rw [show ((m : Int) - (m : Int) / 36 * 36) = ((m % 36 : Nat) : Int) by omega]
        exact index_dig36 (Nat.mod_lt _ (by decide)) wr
      unfold digS at hix
      clear hbuf
      go_wp2_with fail
      refine ⟨⟨d + 1, m / 36, digB36 (m % 36) :: dig, by simp [hdl], by omega, by rw [Int.natCast_ediv]; rfl, by rw [show 65 - (d + 1) = i by omega], Lib.hid ⟨?_, ?_, HLT.out, HR.out.2.2.2.setCell (by simp) _⟩⟩, ?_⟩
      · rw [show 65 - (d + 1) = i by omega]; exact HB2.out
      · have h1 := HR.out.2.1
        rw [show 64 - d = 64 - (d + 1) + 1 by omega, fmt_go hge] at h1
        exact h1
      · simp only [intOf]; omega
    · obtain ⟨i, hi⟩ : ∃ i, 65 - d = i + 1 := ⟨64 - d, by omega⟩
      have hbuf := HR.out.1
      rw [hi] at hbuf ⊢
      have HB2 := Lib.hid (hbuf.store (digB36 m))
      have HF : Hid (fmt36 n = digB36 m :: dig) := Lib.hid (by
        have h1 := HR.out.2.1
        rw [show 64 - d = 63 - d + 1 by omega, fmt_end (by omega)] at h1
        exact h1.symm)
      obtain ⟨⟨u0, c0⟩, f0⟩ := hbuf.cell (j := i) (by omega)
      have hix : (Instr.index 9 (.string digS) (.int .u64 (m : Int))).run Tryz.prog wr = .ok (.int .u8 ((digB36 m).toNat : Nat)) wr := index_dig36 (by omega) wr
      unfold digS at hix
      clear hbuf
      have hsl := fun W => slice_tail w.heap.size i (by omega) W
      have hlen : (digB36 m :: dig).length = 65 - i := by rw [List.length_cons, hdl]; omega
      have hcv := run_convert_bytes_back (P := Tryz.prog) (wr.setCell ⟨w.heap.size, i, none⟩ (.int .u8 (digB36 m).toNat)) 37 9 5 ⟨w.heap.size, i, none⟩ (65 - i) (digB36 m :: dig) Tryz.underlying37 Tryz.underlying5 Tryz.underlying9 HB2.out.get
      rw [hlen] at hcv
      clear hlen
      have HBL := Lib.hid HR.out.2.2.2
      go_wp2_with fail
      first
        | (go_ret2; exact ⟨by rw [HF.out]; rfl, HBL.out.setCell (by simp) _⟩)
        | exact ⟨by rw [HF.out]; rfl, HBL.out.setCell (by simp) _⟩
theorem formatI36 (n : Nat) (hn : n < 2 ^ 64) (w : World) : Calls Tryz.prog 127 #[.int .u64 n, .int .i64 36] w fun e w' => e = .returned (.string ⟨(fmt36 n).toArray⟩) ∧ Below w.heap.size w w' := by
  have H := Lib.hid (formatBits36 n hn w)
  go_enter Tryz.func127, Tryz.ntmps127
  go_wp2_with fail
  refine H.out.mono ?_
  rintro e w' ⟨rfl, hB⟩
  have HB := Lib.hid hB; clear hB H
  go_wp2_with fail
  first
    | exact ⟨rfl, HB.out⟩
    | (go_ret; exact ⟨rfl, HB.out⟩)
theorem format36 (n : Nat) (hn : n < 2 ^ 64) (w : World) : Calls Tryz.prog 95 #[.int .u64 n, .int .i64 36] w fun e w' => e = .returned (.string ⟨(fmt36 n).toArray⟩) ∧ Below w.heap.size w w' := by
  have H := Lib.hid (formatI36 n hn w)
  go_enter Tryz.func95, Tryz.ntmps95
  go_wp2_with fail
  refine H.out.mono ?_
  rintro e w' ⟨rfl, hB⟩
  have HB := Lib.hid hB; clear hB H
  go_wp2_with fail
  first
    | exact ⟨rfl, HB.out⟩
    | (go_ret; exact ⟨rfl, HB.out⟩)
end Go.Proofs.YtiinlplgloaanaaGreatDoor

/- Plain: what the library's Sort and Join give beside sortB and joinB. -/
namespace Go.Proofs.YtiinlplgloaanaaGreatDoor
set_option linter.all false
set_option linter.unusedSimpArgs false
set_option linter.unusedVariables false
open Go.RowKit

theorem ltB_iff : ∀ a b : List UInt8, ltB a b = true ↔ a < b
  | [], [] => by simp [ltB]
  | _ :: _, [] => by simp [ltB]
  | [], _ :: _ => by simp [ltB]
  | x :: a, y :: b => by
    have ih := ltB_iff a b
    unfold ltB
    rw [List.cons_lt_cons_iff]
    by_cases h1 : x < y
    · simp [h1]
    · by_cases h2 : y < x
      · rw [if_neg h1, if_pos h2]
        simp only [Bool.false_eq_true, false_iff, not_or, not_and]
        exact ⟨h1, fun e _ => absurd h2 (by subst e; exact UInt8.lt_irrefl _)⟩
      · have e : x = y := UInt8.le_antisymm (UInt8.not_lt.1 h2) (UInt8.not_lt.1 h1)
        rw [if_neg h1, if_neg h2, ih]
        simp [h1, e]
theorem insB_sorted {x : List UInt8} : ∀ {l : List (List UInt8)}, l.Pairwise (fun a b => a ≤ b) → (insB x l).Pairwise fun a b => a ≤ b
  | [], _ => by simp [insB]
  | y :: l, h => by
    unfold insB
    split
    · rename_i hlt
      have hxy : x < y := (ltB_iff x y).1 hlt
      refine List.Pairwise.cons (fun z hz => ?_) h
      rcases List.mem_cons.1 hz with rfl | hz
      · exact List.le_of_lt hxy
      · exact List.le_trans (List.le_of_lt hxy) ((List.pairwise_cons.1 h).1 z hz)
    · rename_i hlt
      have hyx : y ≤ x := List.not_lt.1 fun hh => hlt ((ltB_iff x y).2 hh)
      refine List.Pairwise.cons (fun z hz => ?_) (insB_sorted (List.pairwise_cons.1 h).2)
      rcases List.mem_cons.1 ((insB_perm x l).mem_iff.1 hz) with rfl | hz
      · exact hyx
      · exact (List.pairwise_cons.1 h).1 z hz
theorem sortB_sorted : ∀ l : List (List UInt8), (sortB l).Pairwise fun a b => a ≤ b
  | [] => List.Pairwise.nil
  | x :: l => insB_sorted (sortB_sorted l)
theorem sort_merge (l : List (List UInt8)) : l.mergeSort (fun x y => decide (x ≤ y)) = sortB l := by
  have hp : (l.mergeSort (fun x y => decide (x ≤ y))).Perm (sortB l) := (List.mergeSort_perm _ _).trans (sortB_perm l).symm
  have hs : (l.mergeSort (fun x y => decide (x ≤ y))).Pairwise fun a b => decide (a ≤ b) = true := List.pairwise_mergeSort (fun a b c h1 h2 => by
    simp only [decide_eq_true_eq] at *; exact List.le_trans h1 h2) (fun a b => by
    simp only [Bool.or_eq_true, decide_eq_true_eq]; exact List.le_total a b) l
  refine hp.eq_of_pairwise (le := fun a b => a ≤ b) (fun a b _ _ h1 h2 => List.le_antisymm h1 h2) (hs.imp fun h => of_decide_eq_true h) (sortB_sorted l)
theorem join_is : ∀ l : List (List UInt8), Lib.join l [32] = joinB l
  | [] => rfl
  | [x] => by simp [Lib.join, joinB]
  | x :: y :: l => by
    have ih := join_is (y :: l)
    simp only [Lib.join, joinB] at *
    first
      | rw [← ih]; simp
      | simp_all
theorem dec_is : ∀ i, i < 100 → Lib.decDigits i = fmt10 i := by decide +kernel
end Go.Proofs.YtiinlplgloaanaaGreatDoor

/- Texts as keys of a map, and how long the key of a tiling is. -/
namespace Go.Proofs.YtiinlplgloaanaaGreatDoor
set_option linter.all false
set_option linter.unusedSimpArgs false
set_option linter.unusedVariables false
open Go.RowKit

def txtV (s : List UInt8) : Value := .string ⟨s.toArray⟩
def okTx (s : List UInt8) : Prop := s.length ≤ 100000
theorem encS : KeyEnc Tryz.prog 9 txtV okTx where
  law := WideMaps.string_law Tryz.underlying9
  key s h := ⟨_, WideMaps.keyOf_string_mk Tryz.underlying9 (s := ⟨s.toArray⟩) (by
    show s.toArray.size ≤ maxLen
    unfold okTx at h
    simp only [List.size_toArray, maxLen]; omega)⟩
  inj x y _ _ h := by
    unfold txtV at h
    simp only [Value.string.injEq, ByteArray.mk.injEq] at h
    simpa using h
theorem fmtB_len (b : Nat) : ∀ (f n : Nat) (l : List UInt8), (fmtB b f n l).length ≤ f + l.length
  | 0, _, l => by simp [fmtB]
  | f + 1, n, l => by
    unfold fmtB
    split
    · simp only [List.length_cons]; omega
    · have := fmtB_len b f (n / b) (digB36 (n % b) :: l)
      simp only [List.length_cons] at this; omega
theorem wordT_len (g : List Q) (tw : List Nat) (p : Pc) : (wordT g tw p).length ≤ 129 := by
  have h1 := fmtB_len 36 64 (setTo g tw p) []
  have h2 := fmtB_len 10 64 p.ld.kind.toNat []
  unfold wordT fmt36 fmt10
  rw [List.length_append, List.length_cons]
  simp only [List.length_nil] at h1 h2
  omega
theorem joinB_len {n : Nat} : ∀ {l : List (List UInt8)}, (∀ x ∈ l, x.length ≤ n) → (joinB l).length ≤ (n + 1) * l.length
  | [], _ => by simp [joinB]
  | [x], h => by
    have := h x (by simp)
    simp only [joinB, List.length_cons, List.length_nil]; omega
  | x :: y :: l, h => by
    have h1 := h x (by simp)
    have h2 := joinB_len (n := n) (l := y :: l) fun z hz => h z (List.mem_cons_of_mem _ hz)
    have e : (n + 1) * (l.length + 1 + 1) = (n + 1) * (l.length + 1) + (n + 1) := Nat.mul_succ _ _
    simp only [joinB, List.length_append, List.length_cons] at h2 ⊢
    rw [e]; omega
theorem keyT_ok (g : List Q) (tw : List Nat) {T : List Pc} (h : T.length ≤ 64) : okTx (keyT g tw T) := by
  unfold okTx keyT
  have h1 := joinB_len (n := 129) (l := sortB (T.map (wordT g tw))) fun x hx => by
    obtain ⟨p, _, rfl⟩ := List.mem_map.1 ((sortB_perm _).mem_iff.1 hx)
    exact wordT_len g tw p
  rw [(sortB_perm _).length_eq, List.length_map] at h1
  omega
end Go.Proofs.YtiinlplgloaanaaGreatDoor

/- A region that draws its order and holds a chain of operations that change memory, one after another (a call, a slice that is built, an append, a store). -/
namespace Go.Proofs.YtiinlplgloaanaaGreatDoor
set_option linter.all false
set_option linter.unusedSimpArgs false
set_option linter.unusedVariables false
open Go.RowKit
attribute [local go_sem] Oper.semAt_some

/-- What is known when the operations L are done: ks are those that change memory, in their order; c: the values of the others; St n: what holds behind n of the chain. -/
structure ChainJ (ks : List Nat) (c : Nat → Option Value) (St : Nat → (Nat → Value) → World → Prop) (L : Nat → Bool) (vals : Nat → Value) (W : World) : Prop where
  pure_ : ∀ i v, c i = some v → L i = true → vals i = v
  chain : ∃ n, n ≤ ks.length ∧ (∀ (i k : Nat), ks[i]? = some k → (L k = true ↔ i < n)) ∧ St n vals W
section
variable {ks : List Nat} {c : Nat → Option Value} {St : Nat → (Nat → Value) → World → Prop} {L : Nat → Bool} {vals : Nat → Value} {W W' : World}
theorem ChainJ.start (h : ∀ v, St 0 v W) (v : Nat → Value) : ChainJ ks c St (fun _ => false) v W := ⟨fun _ _ _ h => by simp at h, 0, Nat.zero_le _, fun _ _ _ => by simp, h v⟩
theorem ChainJ.other (h : ChainJ ks c St L vals W) (hSt : ∀ n v v' W, (∀ i ∈ ks, v i = v' i) → St n v W → St n v' W) {i : Nat} {v : Value} (hi : i ∉ ks) (hv : c i = some v) : ChainJ ks c St (fun j => L j || j == i) (fun j => if j = i then v else vals j) W := by
  obtain ⟨h1, n, h2, h3, h4⟩ := h
  refine ⟨fun j u hj hl => ?_, n, h2, fun j k hk => ?_, hSt n vals _ W (fun j hj => (if_neg (fun (e : j = i) => hi (e ▸ hj))).symm) h4⟩
  · by_cases e : j = i
    · subst e; rw [if_pos rfl]; rw [hv] at hj; exact Option.some.inj hj
    · rw [if_neg e]; exact h1 j u hj (by simpa [e] using hl)
  · have : (k == i) = false := by simp only [beq_eq_false_iff_ne, ne_eq]; exact fun e => hi (e ▸ List.mem_of_getElem? hk)
    rw [this, Bool.or_false]; exact h3 j k hk
/-- Where the chain stands. -/
theorem ChainJ.at_ (h : ChainJ ks c St L vals W) (n : Nat) (h1 : ∀ k, 0 < n → ks[n - 1]? = some k → L k = true) (h0 : n ≤ ks.length) (h2 : ∀ k, ks[n]? = some k → L k = false) : St n vals W := by
  obtain ⟨_, m, hm, h3, h4⟩ := h
  have hle : n ≤ m := by
    rcases Nat.eq_zero_or_pos n with h | h
    · omega
    · obtain ⟨k, hk⟩ : ∃ k, ks[n - 1]? = some k := ⟨_, List.getElem?_eq_getElem (by omega)⟩
      have := (h3 _ k hk).1 (h1 k h hk)
      omega
  have hge : m ≤ n := by
    by_cases hl : n < ks.length
    · obtain ⟨k, hk⟩ : ∃ k, ks[n]? = some k := ⟨_, List.getElem?_eq_getElem hl⟩
      have h5 := h2 k hk
      have h6 := h3 n k hk
      rw [h5] at h6
      simp at h6; omega
    · omega
  obtain rfl : n = m := by omega
  exact h4
theorem ChainJ.step (h : ChainJ ks c St L vals W) (hn : ks.Nodup) (hc : ∀ k ∈ ks, c k = none) {n k : Nat} (hk : ks[n]? = some k) (h1 : ∀ j, 0 < n → ks[n - 1]? = some j → L j = true) (h2 : L k = false) {v : Value}
    (hs : St n vals W → St (n + 1) (fun j => if j = k then v else vals j) W') : ChainJ ks c St (fun j => L j || j == k) (fun j => if j = k then v else vals j) W' := by
  have hlt := (List.getElem?_eq_some_iff.1 hk).1
  have hst := h.at_ n h1 (by omega) (fun k' hk' => by rw [hk] at hk'; cases hk'; exact h2)
  obtain ⟨p1, m, hm, h3, h4⟩ := h
  have hmn : m = n := by
    have h5 := h3 n k hk
    rw [h2] at h5; simp at h5
    rcases Nat.eq_zero_or_pos n with h | h
    · omega
    · obtain ⟨j, hj⟩ : ∃ j, ks[n - 1]? = some j := ⟨_, List.getElem?_eq_getElem (by omega)⟩
      have := (h3 _ j hj).1 (h1 j h hj)
      omega
  subst hmn
  refine ⟨fun j u hj hl => ?_, m + 1, by omega, fun j k' hk' => ?_, hs hst⟩
  · by_cases e : j = k
    · subst e; rw [hc j (List.mem_of_getElem? hk)] at hj; cases hj
    · rw [if_neg e]; exact p1 j u hj (by simpa [e] using hl)
  · by_cases e : k' = k
    · subst e
      have hj : j = m := by
        obtain ⟨l1, e1⟩ := List.getElem?_eq_some_iff.1 hk
        obtain ⟨l2, e2⟩ := List.getElem?_eq_some_iff.1 hk'
        exact (List.getElem_inj hn).1 (e2.trans e1.symm)
      subst hj
      simp
    · have : (k' == k) = false := by simp only [beq_eq_false_iff_ne, ne_eq]; exact e
      rw [this, Bool.or_false, h3 j k' hk']
      constructor
      · omega
      · intro hlt'
        rcases Nat.lt_or_ge j m with h | h
        · exact h
        · obtain rfl : j = m := by omega
          rw [hk] at hk'; cases hk'; exact absurd rfl e
end
section
variable {P : Program}
theorem lu_nil {next : Value → World → Prop} {o : Oper} {x : Operand} (hop : o.op = .nilCheck x) {b : Act} {W : World} {q : Addr} (hx : b.eval x = .pointer (some q)) (hn : next (.pointer (some q)) W) : loudUpon P next ((execOp b.eval o).run P W) := by
  refine lu_value (W' := W) (v := .pointer (some q)) ?_ hn
  unfold execOp
  simp only [hop, hx]
  simp [go_sem]
theorem lu_assign {next : Value → World → Prop} {o : Oper} {x : Operand} (hop : o.op = .assign x) {b : Act} {W : World} (hn : next (b.eval x) W) : loudUpon P next ((execOp b.eval o).run P W) :=
  lu_value (W' := W) (v := b.eval x) (by unfold execOp; simp only [hop, Sem.run_pure]) hn
end
end Go.Proofs.YtiinlplgloaanaaGreatDoor
