/- The border of a shape, once more: its slice lies in a block of its own. -/
import Derived.Sort.OwnSorted
import Derived.Test.YtiinlplgloaanaaGreatDoorZzTopHalved10
import Derived.Test.YtiinlplgloaanaaGreatDoorZzTopHalved01

/- Chapter 7 in the heap: the key of a tiling. -/
namespace Go.Proofs.YtiinlplgloaanaaGreatDoor
set_option linter.all false
set_option linter.unusedSimpArgs false
set_option linter.unusedVariables false
open Go.RowKit
attribute [local go_sem] Oper.semAt_some

def RT : REnc (List UInt8) := ⟨9, 1, fun s => [.string ⟨s.toArray⟩], fun _ => rfl, fun s u h => by simp at h; subst h; rfl⟩
def setJ (g : List Q) (tw : List Nat) (p : Pc) (j : Nat) : Nat := (((g.zip tw).take j).filter fun x => decide (x.1 ∈ p.qs)).foldl (fun n x => n ||| (1 <<< x.2)) 0
theorem setJ_step {g : List Q} {tw : List Nat} {p : Pc} {j : Nat} {q : Q} {x : Nat} (hq : g[j]? = some q) (hx : tw[j]? = some x) : setJ g tw p (j + 1) = if q ∈ p.qs then setJ g tw p j ||| 1 <<< x else setJ g tw p j := by
  have hz : (g.zip tw)[j]? = some (q, x) := by rw [List.getElem?_zip_eq_some]; exact ⟨hq, hx⟩
  unfold setJ
  rw [take_snoc6 hz, List.filter_append, List.foldl_append]
  by_cases h : q ∈ p.qs
  · rw [if_pos h, List.filter_cons_of_pos (by simpa using h)]; rfl
  · rw [if_neg h, List.filter_cons_of_neg (by simpa using h)]; rfl
theorem setJ_all {g : List Q} {tw : List Nat} {p : Pc} {j : Nat} (h : g.length ≤ j) : setJ g tw p j = setTo g tw p := by
  unfold setJ setTo
  rw [List.take_of_length_le (by rw [List.length_zip]; omega)]
theorem setJ_lt {g : List Q} {tw : List Nat} {p : Pc} (h : ∀ x ∈ tw, x < 64) (j : Nat) : setJ g tw p j < 2 ^ 64 := by
  unfold setJ
  have key : ∀ (l : List (Q × Nat)) (n : Nat), (∀ x ∈ l, x.2 < 64) → n < 2 ^ 64 → l.foldl (fun n x => n ||| (1 <<< x.2)) n < 2 ^ 64 := by
    intro l
    induction l with
    | nil => intro n _ hn; exact hn
    | cons a l ih =>
      intro n hl hn
      rw [List.foldl_cons]
      refine ih _ (fun x hx => hl x (List.mem_cons_of_mem _ hx)) (Nat.or_lt_two_pow hn ?_)
      rw [Nat.one_shiftLeft]
      exact Nat.pow_lt_pow_right (by decide) (hl a (by simp))
  refine key _ 0 (fun x hx => ?_) (by decide)
  have h1 := (List.mem_filter.1 hx).1
  have h2 := List.mem_of_mem_take h1
  exact h _ (List.of_mem_zip h2).2
theorem bit_and {n : Nat} (h : n < 2 ^ 64) (i : Nat) : bits .and .u64 ((n : Int) / 2 ^ i) 1 = ((if n.testBit i then 1 else 0 : Nat) : Int) := by
  have e : ((n : Int) / 2 ^ i) = ((n / 2 ^ i : Nat) : Int) := by norm_cast
  have h1 : n / 2 ^ i < 2 ^ 64 := Nat.lt_of_le_of_lt (Nat.div_le_self _ _) h
  have h2 := and64 h1 (show 1 < 2 ^ 64 by decide)
  rw [e]
  rw [show (1 : Int) = ((1 : Nat) : Int) from rfl, h2, Nat.and_one_is_mod, Nat.testBit_eq_decide_div_mod_eq]
  rcases (by omega : n / 2 ^ i % 2 = 0 ∨ n / 2 ^ i % 2 = 1) with h | h <;> rw [h] <;> rfl
theorem or_bit {n x : Nat} (hn : n < 2 ^ 64) (hx : x < 64) (b : Bool) : bits .or .u64 (n : Int) (IntKind.u64.wrap (((if b then 1 else 0 : Nat) : Int) * 2 ^ x)) = ((if b then n ||| 1 <<< x else n : Nat) : Int) := by
  have hp : 2 ^ x < 2 ^ 64 := Nat.pow_lt_pow_right (by decide) hx
  cases b with
  | false =>
    have h0 := or64 hn (show 0 < 2 ^ 64 by decide)
    simp only [Bool.false_eq_true, if_false, Nat.or_zero] at h0 ⊢
    rw [show IntKind.u64.wrap (((0 : Nat) : Int) * 2 ^ x) = ((0 : Nat) : Int) by rw [IntKind.wrap_u64]; simp]
    exact h0
  | true =>
    have h0 := or64 hn hp
    simp only [if_true]
    rw [Nat.one_shiftLeft, show IntKind.u64.wrap (((1 : Nat) : Int) * 2 ^ x) = ((2 ^ x : Nat) : Int) by
      rw [show (((1 : Nat) : Int) * 2 ^ x) = ((2 ^ x : Nat) : Int) by norm_cast; omega]
      exact (fun (y : Nat) (hy : y < 2 ^ 64) => (by rw [IntKind.wrap_u64]; omega : IntKind.u64.wrap (y : Int) = (y : Int))) _ hp]
    exact h0

theorem bytes_join (a b : List UInt8) : (⟨a.toArray⟩ : ByteArray) ++ ⟨b.toArray⟩ = ⟨(a ++ b).toArray⟩ := by simp [ByteArray.mk_append_mk]
theorem lu_adds {P : Program} {next : Value → World → Prop} {o : Oper} {x y : Operand} {T T2 : TypeId} (hop : o.op = .binOp .add T x y T2) {b : Act} {W : World} {m n : List UInt8} (hx : b.eval x = .string ⟨m.toArray⟩) (hy : b.eval y = .string ⟨n.toArray⟩) (hl : m.length + n.length ≤ 9223372036854775807)
    (hn : next (.string ⟨(m ++ n).toArray⟩) W) : loudUpon P next ((execOp b.eval o).run P W) := by
  refine lu_value (W' := W) (v := .string ⟨(m ++ n).toArray⟩) ?_ hn
  unfold execOp
  simp only [hop, hx, hy]
  rw [← bytes_join]
  simp [go_sem]
  omega
theorem infoStr : (Tryz.prog.info? 9).map (fun i => (i.zero, i.size, i.bytes)) = some (some (.string ⟨#[]⟩), 1, 16) := by kernel_rfl
theorem rt_cells (l : List (List UInt8)) : RT.cells l = l.map encStr := by
  induction l with
  | nil => rfl
  | cons x l ih =>
    show RT.vals x ++ RT.cells l = _
    rw [ih]; rfl
theorem sort_words {base : Nat} {u : Value} {ws : List (List UInt8)} (W : World) (hu : RT.Own W base u ws) (hl : ws.length ≤ 1000) :
    Calls Tryz.prog 97 #[u] W fun e w' => e = .returned (.tuple #[]) ∧ RT.Own w' base u (sortB ws) ∧ W.grownBy w' u.ownBlock := by
  have hrow : W.ownsRow base 9 1 u ws.length (ws.map encStr) := by rw [← rt_cells]; exact hu
  rcases hrow.2 with ⟨hnil, h0⟩ | ⟨g, cap, cur, rfl, hbase, hb, h1, h2, h3, h4⟩
  · obtain rfl := List.length_eq_zero_iff.1 h0
    subst hnil
    refine (Tryz.slices_Sort_string_none none 0 W).mono ?_
    rintro e w' ⟨rfl, rfl⟩
    exact ⟨rfl, hu, ⟨rfl, rfl, rfl, Nat.le_refl _, fun _ _ _ => rfl⟩⟩
  · refine (Tryz.slices_Sort_string g 0 cap ws W (holds_of_block hb (by simpa using h4)) (Array.getElem?_eq_some_iff.1 hb).1 (by omega)).mono ?_
    rintro e w' ⟨rfl, n, os, rfl⟩
    rw [sort_merge]
    refine ⟨rfl, ?_, grownBy_sorted _⟩
    have hsl : (sortB ws).length = ws.length := (sortB_perm ws).length_eq
    have := ownsRow_sorted (n := n) (os := os) hsl hbase hb h1 h2 h3
    show World.ownsRow _ base 9 1 _ (sortB ws).length (RT.cells (sortB ws))
    rw [rt_cells, hsl]; exact this
theorem join_words {base : Nat} {u : Value} {ws : List (List UInt8)} (W : World) (hu : RT.Own W base u ws) (hl : ws.length ≤ 1000) (hw : ∀ x ∈ ws, x.length ≤ 129) :
    Calls Tryz.prog 98 #[u, .string ⟨#[32]⟩] W fun e w' => e = .returned (.string ⟨(joinB ws).toArray⟩) ∧ Below W.heap.size W w' := by
  have hrow : W.ownsRow base 9 1 u ws.length (ws.map encStr) := by rw [← rt_cells]; exact hu
  rcases hrow.2 with ⟨hnil, h0⟩ | ⟨g, cap, cur, rfl, hbase, hb, h1, h2, h3, h4⟩
  · obtain rfl := List.length_eq_zero_iff.1 h0
    subst hnil
    refine (Tryz.strings_Join_none none 0 ⟨#[32]⟩ W).mono ?_
    rintro e w' ⟨rfl, rfl⟩
    exact ⟨rfl, Below.refl _ _⟩
  · have hm : (ws.map fun x => (⟨x.toArray⟩ : ByteArray)).map (·.data.toList) = ws := by simp [Function.comp_def]
    have hjl := joinB_len hw
    have := Tryz.strings_Join g 0 cap (ws.map fun x => (⟨x.toArray⟩ : ByteArray)) ⟨#[32]⟩ W (fun j x hx => by
      rw [List.getElem?_map] at hx
      obtain ⟨y, hy, rfl⟩ := Option.map_eq_some_iff.1 hx
      have hc := hrow.cellAt j (by have := (List.getElem?_eq_some_iff.1 hy).1; simpa using this)
      rw [Nat.zero_add, hc]
      simp only [List.getElem?_map, hy]; rfl) (Array.getElem?_eq_some_iff.1 hb).1 (by rw [List.length_map]; omega) (by rw [List.length_map]; exact h1) (by
      rw [hm]
      show (Lib.join ws [32]).length ≤ _
      rw [join_is]; omega)
    rw [List.length_map, hm] at this
    refine this.mono ?_
    rintro e w' ⟨rfl, hb'⟩
    refine ⟨?_, hb'⟩
    show Ending.returned (.string ⟨(Lib.join ws [32]).toArray⟩) = _
    rw [join_is]
/-- The chain of the region in which a word is appended. -/
def stK (wx : World) (B : Nat) (u : Value) (ws : List (List UInt8)) (s36 wd : List UInt8) : Nat → (Nat → Value) → World → Prop
  | 0, _, W => W = wx.drew
  | 1, v, W => Below wx.heap.size wx W ∧ v 2 = .string ⟨s36.toArray⟩
  | 2, v, W => Below wx.heap.size wx W ∧ ∃ g, v 9 = .slice (some ⟨g, 0, none⟩) 1 1 ∧ W.heap[g]? = some (.cells ([.string ⟨wd.toArray⟩] : List Value).toArray 9 (0, 0))
  | 3, v, W => ∃ W1, Below wx.heap.size wx W1 ∧ W1.grownBy W u.ownBlock ∧ RT.Own W B (v 10) (ws ++ [wd])
  | _, v, W => ∃ W1, Below wx.heap.size wx W1 ∧ W1.grownBy W u.ownBlock ∧ RT.Own W B (v 11) (ws ++ [wd])
def cvK (kb : Nat) (u : Value) (n : Nat) (kd : Int) (s36 wd : List UInt8) : Nat → Option Value
  | 0 => some u
  | 1 => some (.int .u64 n)
  | 3 => some (.string ⟨(s36 ++ [58]).toArray⟩)
  | 4 => some (.pointer (some ⟨kb, 0, none⟩))
  | 5 => some (.pointer (some ⟨kb, 0, none⟩))
  | 6 => some (.int .i64 kd)
  | 7 => some (.string ⟨(fmt10 kd.toNat).toArray⟩)
  | 8 => some (.string ⟨wd.toArray⟩)
  | _ => none
set_option maxRecDepth 100000 in
set_option maxHeartbeats 8000000 in
theorem key_any {g : List Q} {L : List E} (h64 : g.length ≤ 64) {T : List Pc} (hT : T.length ≤ 64) (hkd : ∀ p ∈ T, 0 ≤ p.ld.kind ∧ p.ld.kind < 100) {tw : List Nat} (htl : tw.length = g.length) (htw : ∀ x ∈ tw, x < 64)
    (S : HS) (w : World) (hS : RP.Has w S.laid (T.map (hpT g L))) (vt : Value) (hv : RI.Has w vt (tw.map fun n : Nat => (n : Int))) :
    Calls Tryz.prog 40 #[RS.val S, vt] w fun e w' => e = .returned (.string ⟨(keyT g tw T).toArray⟩) ∧ Below w.heap.size w w' := by
  have hA := World.alloc_heap_new w (.cells (hsVals S).toArray 108)
  have hB : Below w.heap.size w (w.alloc (.cells (hsVals S).toArray 108)) := (Below.refl _ w).alloc (Nat.le_refl _) _
  have hle : S.ln = T.length := by
    obtain ⟨p, c, e⟩ := hS.slice
    unfold HS.laid at e
    simp only [Value.slice.injEq, List.length_map] at e
    exact e.2.1
  obtain ⟨vp, vc, rfl⟩ := hv.slice
  rw [List.length_map] at hv ⊢
  have HP := Lib.hid (hS.below hB); clear hS
  have HV := Lib.hid (hv.below hB); clear hv
  have c0 : (w.alloc (.cells (hsVals S).toArray 108)).cell? ⟨w.heap.size, 0, none⟩ = some (.slice S.lp T.length S.lc) := by rw [(hs_cells hA).1, hle]
  unfold HS.laid at HP
  rw [hle] at HP
  clear hle
  have HKD := Lib.hid hkd; clear hkd
  have HTW := Lib.hid htw; clear htw
  have htl2 : tw.length ≤ 64 := by omega
  have HTL := Lib.hid htl; clear htl
  show Calls _ _ #[.agg (hsVals S).toArray, _] _ _
  generalize hpo : (fun (e : Ending) (w' : World) => e = .returned (.string ⟨(keyT g tw T).toArray⟩) ∧ Below w.heap.size w w') = Po
  have HPO := Lib.hid hpo; clear hpo
  go_enter Tryz.func40, Tryz.ntmps40
  go_wp2_with fail
  revert HP HV c0 hB
  clear hA
  generalize w.alloc (.cells (hsVals S).toArray 108) = W1
  generalize S.lp = lp
  generalize S.lc = lc
  intro hB HP HV c0
  have HB := Lib.hid hB; clear hB
  go_wp2_with fail
  clear c0
  go_loopw [5, 14] (fun u z wr => ∃ k : Nat, k ≤ T.length ∧ z = .int .i64 k ∧ Hid (RT.Own wr W1.heap.size u ((T.take k).map (wordT g tw)) ∧ Below W1.heap.size W1 wr)) (fun _ z _ => T.length - (intOf z).toNat)
  case atStart => exact ⟨0, by omega, rfl, Lib.hid ⟨RT.own_nil _ _, Below.refl _ _⟩⟩
  case round =>
    obtain ⟨k, hk, rfl, HR⟩ := hrel
    by_cases hlt : k < T.length
    · obtain ⟨p, hp⟩ : ∃ p, T[k]? = some p := ⟨_, List.getElem?_eq_getElem hlt⟩
      obtain ⟨h, hh⟩ : ∃ h, h = hpT g L p := ⟨_, rfl⟩
      have hmh : (T.map (hpT g L))[k]? = some h := by rw [List.getElem?_map, hp, hh]; rfl
      obtain ⟨xa, rfl, hat⟩ := (HP.out.below HR.out.2).at_ (by rintro e; rw [e] at hmh; simp at hmh)
      have hld : (Instr.loadAt 152 (.pointer (some (xa.add (k * 9))))).run Tryz.prog wr = .ok (.agg (hpVals h).toArray) wr := run_load_elem (P := Tryz.prog) Tryz.underlying152 rfl sizeP hat hmh
      have HKP := Lib.hid (HKD.out p (List.mem_of_getElem? hp))
      have HPK := Lib.hid (take_snoc6 hp); clear hp hmh hat
      have HSET : Hid (h.set = setG (fun q => decide (q ∈ p.qs)) g) := Lib.hid (by rw [hh]; rfl)
      have HLK : Hid (h.ld.kind = p.ld.kind) := Lib.hid (by rw [hh]; rfl)
      have hs64 : h.set < 2 ^ 64 := by rw [hh]; exact set64 h64 _
      clear hh
      have hsz : (Tryz.prog.info? 152).map (·.size) = some (hpVals h).toArray.size := sizeP
      have hone : (hpVals h).toArray.all (·.oneCell') = true := by simp [hpVals, Value.oneCell']
      go_upto_region 5 with (first
        | (refine wpList_load_is rfl 152 _ rfl rfl hld ?_)
        | (refine wpList_store_row rfl 152 _ _ rfl wr.heap.size rfl 152 _ (hpVals h).toArray rfl (World.alloc_heap_new wr _) hsz rfl hone ?_; rw [World.setRow_alloc_new]))

      have hC := World.alloc_heap_new wr (.cells (hpVals h).toArray 152)
      have hB1 : Below wr.heap.size wr (wr.alloc (.cells (hpVals h).toArray 152)) := (Below.refl _ wr).alloc (Nat.le_refl _) _
      revert hC hB1
      generalize wr.alloc (.cells (hpVals h).toArray 152) = w2
      intro hC hB1
      have k0 : w2.cell? ⟨wr.heap.size, 0, none⟩ = some (.int .i64 h.ld.kind) := (hp_cells hC).1
      have k5 : w2.cell? ⟨wr.heap.size, 5, none⟩ = some (.int .u64 h.set) := by simp only [World.cell?, hC]; rfl
      have hown := owns_below HR.out.1 hB1
      have hB2 := HR.out.2.trans (hB1.mono HR.out.2.size)
      have HV2 := Lib.hid (HV.out.below hB2)
      have HC := Lib.hid hC; clear hC
      have HOWN := Lib.hid (And.intro hown hB2); clear hown hB2 hB1 hld hsz hone
      go_wp2_with fail
      clear k0
      obtain ⟨kb, hkb⟩ : ∃ kb, wr.heap.size = kb := ⟨_, rfl⟩
      rw [hkb] at k5 HC ⊢
      clear hkb
      go_loopw [8, 20] (fun u z wq => ∃ j : Nat, j ≤ tw.length ∧ z = .int .i64 j ∧ u = .int .u64 (setJ g tw p j) ∧ wq = w2) (fun _ z _ => tw.length - (intOf z).toNat)
      case atStart => exact ⟨0, by omega, rfl, rfl, rfl⟩
      case round =>
        obtain ⟨j, hj, rfl, rfl, rfl⟩ := hrel
        by_cases hjl : j < tw.length
        · obtain ⟨x, hx⟩ : ∃ x, tw[j]? = some x := ⟨_, List.getElem?_eq_getElem hjl⟩
          obtain ⟨q, hq⟩ : ∃ q, g[j]? = some q := ⟨_, List.getElem?_eq_getElem (by have := HTL.out; omega)⟩
          obtain ⟨va, rfl, hva⟩ := HV2.out.at_ (by intro e; have h0 := congrArg List.length e; rw [List.length_map] at h0; simp at h0; rw [h0] at hjl; simp at hjl)
          have c0 := RI.at_cell hva (show (tw.map fun n : Nat => (n : Int))[j]? = some (x : Int) by rw [List.getElem?_map, hx]; rfl)
          have hx64 := HTW.out x (List.mem_of_getElem? hx)
          have HST := Lib.hid (setJ_step (p := p) hq hx)
          have hlt64 := setJ_lt (g := g) (p := p) HTW.out j
          have HBIT : Hid (h.set.testBit j = decide (q ∈ p.qs)) := Lib.hid (by rw [HSET.out, setG_bit, hq])
          clear hva hx hq
          revert hlt64 HST
          generalize setJ g tw p j = n
          intro HST hlt64
          go_wp2_with fail
          refine ⟨⟨j + 1, by omega, by go_num, ?_, by first | trivial | rfl⟩, ?_⟩
          · rw [bit_and hs64, HBIT.out, or_bit hlt64 hx64, HST.out]
            by_cases hqp : q ∈ p.qs <;> simp [hqp]
          · simp only [intOf]; omega
        · obtain rfl : j = tw.length := by omega
          have hn64 := setJ_lt (g := g) (p := p) HTW.out tw.length
          have hset : Hid (fmt36 (setJ g tw p tw.length) ++ [58] ++ fmt10 p.ld.kind.toNat = wordT g tw p) := Lib.hid (by rw [setJ_all (by have := HTL.out; omega)]; unfold wordT; simp)
          have HF36 := Lib.hid (format36 (setJ g tw p tw.length) hn64)
          have hkd := HKP.out
          obtain ⟨n, hn⟩ : ∃ n, setJ g tw p tw.length = n := ⟨_, rfl⟩
          rw [hn] at hset HF36 hn64
          rw [hn]
          have hl36 : (fmt36 n).length ≤ 64 := fmtB_len 36 64 n []
          have hl10 : (fmt10 p.ld.kind.toNat).length ≤ 64 := fmtB_len 10 64 p.ld.kind.toNat []
          obtain ⟨s36, hs36⟩ : ∃ s36, fmt36 n = s36 := ⟨_, rfl⟩
          rw [hs36] at hl36
          have HL1 : Hid (s36.length + ([58] : List UInt8).length ≤ 9223372036854775807) := Lib.hid (by simp only [List.length_cons, List.length_nil]; omega)
          have HL2 : Hid ((s36 ++ [58]).length + (fmt10 p.ld.kind.toNat).length ≤ 9223372036854775807) := Lib.hid (by simp only [List.length_append, List.length_cons, List.length_nil]; omega)
          clear hl36 hl10
          rw [hs36] at hset HF36
          obtain ⟨wd, hwd⟩ : ∃ wd, wordT g tw p = wd := ⟨_, rfl⟩
          rw [hwd] at hset
          obtain ⟨ws, hws⟩ : ∃ ws, (T.take k).map (wordT g tw) = ws := ⟨_, rfl⟩
          have hown := HOWN.out.1
          rw [hws] at hown
          have hwl : ws.length ≤ 64 := by rw [← hws, List.length_map, List.length_take]; omega
          have HWD := Lib.hid hwd; clear hwd
          have HWS := Lib.hid hws; clear hws
          have HUO := Lib.hid hown; clear hown
          have HZ1 : W1.heap.size ≤ wr.heap.size := HOWN.out.2.size
          have HBB := Lib.hid HOWN.out.2
          clear hs36 hn HV2 k5
          go_wp2_with fail
          have HST : ∀ n v v' W, (∀ i ∈ [2, 9, 10, 11], v i = v' i) → (stK wr W1.heap.size u5 ws s36 wd) n v W → (stK wr W1.heap.size u5 ws s36 wd) n v' W := fun n v v' W hv hs => by
            have h2 := hv 2 (by decide)
            have h9 := hv 9 (by decide)
            have h10 := hv 10 (by decide)
            have h11 := hv 11 (by decide)
            match n, hs with
            | 0, hs => exact hs
            | 1, hs => exact ⟨hs.1, h2 ▸ hs.2⟩
            | 2, hs => exact ⟨hs.1, h9 ▸ hs.2⟩
            | 3, hs =>
              obtain ⟨W3, q1, q2, q3⟩ := hs
              rw [h10] at q3
              exact ⟨W3, q1, q2, q3⟩
            | _ + 4, hs =>
              obtain ⟨W3, q1, q2, q3⟩ := hs
              rw [h11] at q3
              exact ⟨W3, q1, q2, q3⟩
          have HCN : ∀ i ∈ [2, 9, 10, 11], (cvK kb u5 n p.ld.kind s36 wd) i = none := fun i hi => by
            simp only [List.mem_cons, List.not_mem_nil, or_false] at hi
            rcases hi with rfl | rfl | rfl | rfl <;> rfl
          have HKC : Hid (∀ L1 vals W, ChainJ [2, 9, 10, 11] (cvK kb u5 n p.ld.kind s36 wd) (stK wr W1.heap.size u5 ws s36 wd) L1 vals W → L1 9 = false → W.cell? ⟨kb, 0, none⟩ = some (.int .i64 p.ld.kind)) := Lib.hid fun L1 vals W hJ h9 => by
            obtain ⟨_, n, _, h3, hs⟩ := hJ
            have hn2 : n ≤ 1 := by
              have := h3 1 9 rfl
              rw [h9] at this
              simp at this; omega
            have hb : Below wr.heap.size wr W := by
              match n, hs, hn2 with
              | 0, hs, _ => rw [show W = wr.drew from hs]; exact (Below.refl _ wr).drew
              | 1, hs, _ => exact hs.1
            have h4 := (hb.block _ (Array.getElem?_eq_some_iff.1 HC.out).1).trans HC.out
            have h5 := (hp_cells h4).1
            rw [HLK.out] at h5; exact h5
          have HIT : Hid (∀ W, Calls Tryz.prog 96 #[.int .i64 p.ld.kind] W fun e w' => e = .returned (.string ⟨(fmt10 p.ld.kind.toNat).toArray⟩) ∧ w' = W) := Lib.hid fun W => by
            obtain ⟨kn, hkn⟩ : ∃ kn : Nat, p.ld.kind = kn := ⟨p.ld.kind.toNat, by omega⟩
            have hlt : kn < 100 := by omega
            rw [hkn]
            have := Tryz.strconv_Itoa_small kn hlt W
            rw [dec_is kn hlt] at this
            exact this
          have HMA : Hid (ws.length + 1 ≤ maxLen) := Lib.hid (by simp only [maxLen]; omega)
          have HMB : Hid ((ws.length + 1) * 16 ≤ 140737488355328) := Lib.hid (by omega)
          refine wp_region_joint 51 (by kernel_rfl) (by kernel_rfl) rfl (ChainJ [2, 9, 10, 11] (cvK kb u5 n p.ld.kind s36 wd) (stK wr W1.heap.size u5 ws s36 wd)) (ChainJ.start (fun _ => rfl) _) ?_ ?_
          · refine ⟨?_, ?_, ?_, ?_, ?_, ?_, ?_, ?_, ?_, ?_, ?_, ?_, trivial⟩
            · intro L1 b W vals hL hD hC K hJ
              have e5 : b.eval (.tmp 5) = u5 := (K.was 5 (by kernel_rfl)).trans rfl
              refine lu_move rfl ?_
              rw [e5]; exact hJ.other HST (by decide) rfl
            · intro L1 b W vals hL hD hC K hJ
              have e8 : b.eval (.tmp 8) = (.int .u64 n) := (K.was 8 (by kernel_rfl)).trans rfl
              refine lu_move rfl ?_
              rw [e8]; exact hJ.other HST (by decide) rfl
            · intro L1 b W vals hL hD hC K hJ
              obtain ⟨e36, _⟩ := K.val 1 36 (by kernel_rfl)
              have f36 := hJ.pure_ 1 _ rfl (hD 1 (by kernel_rfl))
              have ew : W = wr.drew := hJ.at_ 0 (fun _ h => absurd h (by decide)) (by decide) (fun k hk => by simp at hk; subst hk; exact hL)
              refine lu_call (args := #[.int .u64 n, .int .i64 36]) rfl (by simp only [List.map_toArray, List.map_cons, List.map_nil, e36, f36]; rfl) (enters_of Tryz.func95 (by kernel_rfl) rfl) ?_
              rw [ew]
              refine (HF36.out wr.drew).mono ?_
              rintro e' w' ⟨rfl, hp⟩
              exact ⟨_, rfl, hJ.step (by decide) HCN (n := 0) rfl (fun _ h => absurd h (by decide)) hL (fun _ => ⟨((Below.refl _ wr).drew).trans hp, rfl⟩)⟩
            · intro L1 b W vals hL hD hC K hJ
              obtain ⟨e37, _⟩ := K.val 2 37 (by kernel_rfl)
              have h2 : L1 2 = true := hD 2 (by kernel_rfl)
              have n8 : L1 8 = false := joint_no hC hL (by decide) (by kernel_rfl)
              have n9 : L1 9 = false := joint_no hC n8 (by decide) (by kernel_rfl)
              have hst := hJ.at_ 1 (fun k _ hk => by simp at hk; subst hk; exact h2) (by decide) (fun k hk => by simp at hk; subst hk; exact n9)
              obtain ⟨hb, hv⟩ : Below wr.heap.size wr W ∧ vals 2 = .string ⟨s36.toArray⟩ := hst
              exact lu_adds (m := s36) (n := [58]) rfl (e37.trans hv) rfl HL1.out (hJ.other HST (by decide) rfl)
            · intro L1 b W vals hL hD hC K hJ
              have e7 : b.eval (.tmp 7) = (.pointer (some ⟨kb, 0, none⟩)) := (K.was 7 (by kernel_rfl)).trans rfl
              refine lu_v (I := Instr.fieldAt 152 (b.eval (.tmp 7)) 0) rfl ?_ (hJ.other HST (by decide) rfl)
              rw [e7]; kernel_rfl
            · intro L1 b W vals hL hD hC K hJ
              obtain ⟨e39, _⟩ := K.val 4 39 (by kernel_rfl)
              have f39 := hJ.pure_ 4 _ rfl (hD 4 (by kernel_rfl))
              refine lu_v (I := Instr.fieldAt 50 (b.eval (.tmp 39)) 0) rfl ?_ (hJ.other HST (by decide) rfl)
              rw [e39, f39]; kernel_rfl
            · intro L1 b W vals hL hD hC K hJ
              obtain ⟨e40, _⟩ := K.val 5 40 (by kernel_rfl)
              have f40 := hJ.pure_ 5 _ rfl (hD 5 (by kernel_rfl))
              have n7 : L1 7 = false := joint_no hC hL (by decide) (by kernel_rfl)
              have n8 : L1 8 = false := joint_no hC n7 (by decide) (by kernel_rfl)
              have n9 : L1 9 = false := joint_no hC n8 (by decide) (by kernel_rfl)
              refine lu_v (I := Instr.loadAt 3 (b.eval (.tmp 40))) rfl ?_ (hJ.other HST (by decide) rfl)
              rw [e40, f40]; exact run_loadAt_cell Tryz.isAgg3 (HKC.out L1 vals W hJ n9)
            · intro L1 b W vals hL hD hC K hJ
              obtain ⟨e41, _⟩ := K.val 6 41 (by kernel_rfl)
              have f41 := hJ.pure_ 6 _ rfl (hD 6 (by kernel_rfl))
              refine lu_call (args := #[.int .i64 p.ld.kind]) rfl (by simp only [List.map_toArray, List.map_cons, List.map_nil, e41, f41]) (enters_of Tryz.func96 (by kernel_rfl) rfl) ?_
              refine (HIT.out W).mono ?_
              rintro e' w' ⟨rfl, rfl⟩
              exact ⟨_, rfl, hJ.other HST (by decide) rfl⟩
            · intro L1 b W vals hL hD hC K hJ
              obtain ⟨e38, _⟩ := K.val 3 38 (by kernel_rfl)
              have f38 := hJ.pure_ 3 _ rfl (hD 3 (by kernel_rfl))
              obtain ⟨e42, _⟩ := K.val 7 42 (by kernel_rfl)
              have f42 := hJ.pure_ 7 _ rfl (hD 7 (by kernel_rfl))
              refine lu_adds (m := s36 ++ [58]) (n := fmt10 p.ld.kind.toNat) rfl (e38.trans f38) (e42.trans f42) HL2.out ?_
              rw [hset.out]; exact hJ.other HST (by decide) rfl
            · intro L1 b W vals hL hD hC K hJ
              obtain ⟨e43, _⟩ := K.val 8 43 (by kernel_rfl)
              have f43 := hJ.pure_ 8 _ rfl (hD 8 (by kernel_rfl))
              have n10 : L1 10 = false := joint_no hC hL (by decide) (by kernel_rfl)
              have h2 : L1 2 = true := hC 3 2 (by decide) (hC 8 3 (by decide) (hD 8 (by kernel_rfl)) (by kernel_rfl)) (by kernel_rfl)
              have hst := hJ.at_ 1 (fun k _ hk => by simp at hk; subst hk; exact h2) (by decide) (fun k hk => by simp at hk; subst hk; exact hL)
              obtain ⟨hb, hv⟩ : Below wr.heap.size wr W ∧ vals 2 = .string ⟨s36.toArray⟩ := hst
              obtain ⟨iI, hiI, hzI, hsI, hbI⟩ := info_parts infoStr
              refine run_build1_exec rfl (e43.trans f43) Tryz.underlying110 hiI hzI (by rw [hsI]; decide) (by rw [hsI]; decide) (cells := ([.string ⟨wd.toArray⟩] : List Value).toArray) (by rw [hsI]; exact Great.fill_flat [.string ⟨wd.toArray⟩] _ (fun v hv => by simp only [List.mem_singleton] at hv; subst hv; rfl) (by simp)) ?_
              exact hJ.step (by decide) HCN (n := 1) rfl (fun k _ hk => by simp at hk; subst hk; exact h2) hL (fun _ => ⟨hb.alloc hb.size _, W.heap.size, rfl, World.alloc_heap_new W _⟩)
            · intro L1 b W vals hL hD hC K hJ
              obtain ⟨e35, _⟩ := K.val 0 35 (by kernel_rfl)
              have f35 := hJ.pure_ 0 _ rfl (hD 0 (by kernel_rfl))
              obtain ⟨e44, _⟩ := K.val 9 44 (by kernel_rfl)
              have h9 : L1 9 = true := hD 9 (by kernel_rfl)
              have hst := hJ.at_ 2 (fun k _ hk => by simp at hk; subst hk; exact h9) (by decide) (fun k hk => by simp at hk; subst hk; exact hL)
              obtain ⟨hb, gn, hv, hgn⟩ : Below wr.heap.size wr W ∧ ∃ g, vals 9 = .slice (some ⟨g, 0, none⟩) 1 1 ∧ W.heap[g]? = some (.cells ([.string ⟨wd.toArray⟩] : List Value).toArray 9 (0, 0)) := hst
              obtain ⟨iI, hiI, hzI, hsI, hbI⟩ := info_parts infoStr
              obtain ⟨v', W', hr, ho, hgr, _, hat⟩ := run_append_own_at (P := Tryz.prog) W W1.heap.size 110 110 9 iI _ 1 16 Tryz.underlying110 hiI hzI hsI hbI rfl (by decide) u5 ws.length (RT.cells ws) (owns_below HUO.out hb) ⟨gn, 0, none⟩ 1 1 [.string ⟨wd.toArray⟩] rfl (block_cells hgn) (RT.one wd) HMA.out HMB.out (Nat.le_trans HZ1 hb.size)
              refine run_append_exec rfl (e35.trans f35) (e44.trans hv) hr ?_
              exact hJ.step (by decide) HCN (n := 2) rfl (fun k _ hk => by simp at hk; subst hk; exact h9) hL (fun _ => ⟨W, hb, hgr, RT.own_snoc ho⟩)
            · intro L1 b W vals hL hD hC K hJ
              obtain ⟨e45, _⟩ := K.val 10 45 (by kernel_rfl)
              have h10 : L1 10 = true := hD 10 (by kernel_rfl)
              have hst := hJ.at_ 3 (fun k _ hk => by simp at hk; subst hk; exact h10) (by decide) (fun k hk => by simp at hk; subst hk; exact hL)
              obtain ⟨W3, hb, hgr, ho⟩ : ∃ W3, Below wr.heap.size wr W3 ∧ W3.grownBy W u5.ownBlock ∧ RT.Own W W1.heap.size (vals 10) (ws ++ [wd]) := hst
              refine lu_assign rfl ?_
              rw [e45]
              exact hJ.step (by decide) HCN (n := 3) rfl (fun k _ hk => by simp at hk; subst hk; exact h10) hL (fun _ => ⟨W3, hb, hgr, ho⟩)
          · intro L1 vals W hL hJ
            have hst := hJ.at_ 4 (fun k _ hk => by simp at hk; subst hk; exact hL 11 (by decide)) (by decide) (fun k hk => by simp at hk)
            obtain ⟨W3, hb3, hgr, ho⟩ : ∃ W3, Below wr.heap.size wr W3 ∧ W3.grownBy W u5.ownBlock ∧ RT.Own W W1.heap.size (vals 11) (ws ++ [wd]) := hst
            clear hJ hL
            have HO := Lib.hid ho; clear ho
            have HBN : Hid (Below W1.heap.size W1 W) := Lib.hid ((HBB.out.trans (hb3.mono HZ1)).grown hgr (Nat.le_trans HZ1 hb3.size) fun b e => (owns_lt HUO.out e).1)
            clear hb3 hgr
            simp only [List.length_cons, List.length_nil, List.range_succ, List.range_zero, List.nil_append, List.cons_append, List.map_cons, List.map_nil, putAll, Act.put, List.setIfInBounds_toArray, List.set_cons_zero, List.set_cons_succ]
            generalize vals 11 = u5' at HO ⊢
            go_wp2_with fail
            go_roundw
            case rel => exact ⟨k + 1, by omega, by go_num, Lib.hid ⟨by rw [HPK.out, List.map_append, HWS.out]; show RT.Own W _ _ (ws ++ [wordT g tw p]); rw [HWD.out]; exact HO.out, HBN.out⟩⟩
            case measure => simp only [intOf]; omega
    · obtain rfl : k = T.length := by omega
      rw [List.take_length] at HR
      have HSo := Lib.hid (sort_words _ HR.out.1 (by rw [List.length_map]; omega))
      have HBR := Lib.hid HR.out.2
      have HUW := Lib.hid HR.out.1
      clear HR
      go_wp2_with fail
      refine HSo.out.mono ?_
      rintro e w5 ⟨rfl, ho5, hg5⟩
      have hbw : Below W1.heap.size W1 w5 := HBR.out.grown hg5 HBR.out.size fun b e => (owns_lt HUW.out e).1
      have HJn := Lib.hid (join_words w5 ho5 (by rw [(sortB_perm _).length_eq, List.length_map]; omega) (fun x hx => by
        obtain ⟨p, _, rfl⟩ := List.mem_map.1 ((sortB_perm _).mem_iff.1 hx)
        exact wordT_len g tw p))
      have HBW := Lib.hid (HB.out.trans (hbw.mono HB.out.size))
      clear hbw hg5 ho5 HSo HUW HBR
      go_wp2_with fail
      refine HJn.out.mono ?_
      rintro e w6 ⟨rfl, hb6⟩
      have HB6 := Lib.hid (HBW.out.trans (hb6.mono HBW.out.size)); clear hb6 HJn HBW
      go_wp2_with fail
      rw [← HPO.out]
      exact ⟨rfl, HB6.out⟩
end Go.Proofs.YtiinlplgloaanaaGreatDoor

/- The border of a shape, once more: its slice lies in a block of its own. -/
namespace Go.Proofs.YtiinlplgloaanaaGreatDoor
set_option linter.all false
set_option linter.unusedSimpArgs false
set_option linter.unusedVariables false
open Go.RowKit
attribute [local go_sem] Oper.semAt_some

set_option maxRecDepth 100000 in
set_option maxHeartbeats 4000000 in
theorem ordered_new (b base f : Nat) (caps : Array Value) (M : List (E × List Q)) (vs : List Value) (p : List Q → Bool) (w : World) (hg : Grp w b base M vs) (hM : M.length ≤ 1000000)
    (hf : ∀ args w, (callFunc f args).run Tryz.prog w = .ok (.enter f args) w)
    (hcl : ∀ (W : World) (i : Nat) (v : Value) (m : E × List Q), Below w.heap.size w W → vs[i]? = some v → M[i]? = some m → Calls Tryz.prog f (#[v] ++ caps) W fun e W' => e = .returned (.bool (p m.2)) ∧ Below W.heap.size W W') :
    Calls Tryz.prog 57 #[.map (some b), .func (.func f) #[] caps] w fun e w' => ∃ v es, e = .returned v ∧ HasEs w' v es ∧ es.Perm ((M.filter (fun m => p m.2)).map (·.1)) ∧ es.Pairwise (fun a b => ¬ ltE b a) ∧ Below w.heap.size w w' ∧ (∀ k, v.ownBlock = some k → w.heap.size ≤ k) := by
  have HCL := Lib.hid hcl; clear hcl
  have hrange := run_range_M (P := Tryz.prog) Tryz.underlying130 hg.map
  go_enter Tryz.func57, Tryz.ntmps57
  go_wp2
  clear hrange
  have hit := HasIter.start w b (zipM M vs).length
  have hal : Below w.heap.size w (w.alloc (.mapIter (some b) (zipM M vs).length #[] (zipM M vs).length)) := (Below.refl _ w).alloc (Nat.le_refl _) _
  have hg0 := hg.below hal
  have hbw : b < w.heap.size := hg.map.lt
  have HLEN := Lib.hid (zipM_length hg.len)
  have HVL := Lib.hid hg.len
  clear hg
  revert hit hg0 hal
  generalize w.alloc (.mapIter (some b) (zipM M vs).length #[] (zipM M vs).length) = W0
  intro hit hal hg0
  go_loopw [4] (fun v wr => ∃ (done : List Nat) (es : List E), Hid (HasIter wr w.heap.size b (zipM M vs).length done ∧ Grp wr b base M vs ∧ done.Nodup ∧ (∀ i ∈ done, i < M.length) ∧ OwnEd wr (w.heap.size + 1) v es ∧ es = pickE M p done ∧ Below w.heap.size w wr ∧ w.heap.size + 1 ≤ wr.heap.size)) (fun _ wr => M.length - doneOf wr w.heap.size)
  case atStart => exact ⟨[], [], Lib.hid ⟨hit, hg0, by simp, by simp, World.ownsRow_nil _ _ _ 3, rfl, hal, by have := hit.lt; omega⟩⟩
  case round =>
    obtain ⟨done, es, HR⟩ := hrel
    obtain ⟨hit, hg, hdn, hdl, hq, hes, hB, hsz⟩ := HR.out
    obtain ⟨p', c', rfl⟩ := own_slice hq
    have hdlen : done.length ≤ M.length := nodup_lt_length _ _ hdn hdl
    have hel : es.length ≤ done.length := by rw [hes]; exact pickE_length _ _ _
    have HDO := Lib.hid hit.done
    clear HR
    have HG := Lib.hid hg
    have hmap := hg.map; clear hg
    have HQ := Lib.hid hq; clear hq
    have HES := Lib.hid hes; clear hes
    have HD := Lib.hid hdn; clear hdn
    have HDL := Lib.hid hdl; clear hdl
    go_wp2_with (first
      | (at_next; refine wpList_next_M rfl _ rfl rfl hit hmap ?_ ?_)
      | go_in)
    · intro hall
      have hall' : ∀ i, i < M.length → i ∈ done := fun i hi => hall i (by rw [HLEN.out]; exact hi)
      have h1 : done.Perm (List.range M.length) := (List.perm_ext_iff_of_nodup HD.out List.nodup_range).2 (fun i => ⟨fun h => by simpa using HDL.out i h, fun h => hall' i (by simpa using h)⟩)
      have HP : Hid (es.Perm ((M.filter (fun m => p m.2)).map (·.1))) := Lib.hid (by rw [HES.out]; exact pickE_all M p h1)
      clear hall hall' h1
      by_cases he0 : es = []
      · subst he0
        have HNONE := Lib.hid (fun W => AnyF.slices_SortFunc_none { Tryz.sortE with } p' c' (.func (.func 108) #[] #[]) W)
        go_wp2_with fail
        refine Calls.mono (show Calls Tryz.prog 107 _ _ _ from HNONE.out _) ?_
        rintro e w2 ⟨rfl, rfl⟩
        go_wp2_with fail
        go_ret
        refine ⟨_, [], rfl, ?_, HP.out, by simp, hB, fun k e => Nat.le_trans (Nat.le_succ _) (HQ.out.lt k e).1⟩
        show HasEs w2 (.slice p' ([] : List E).length c') []
        rcases HQ.out.2 with ⟨hn, _⟩ | ⟨g, cap, cur, hn, _, h2, h3, h4, _⟩
        · exact .inl ⟨hn, rfl⟩
        · rw [hn]
          refine .inr ⟨_, cap, rfl, h3, h4, ?_, ?_, ?_, ?_⟩
          · exact (Array.getElem?_eq_some_iff.1 h2).1
          all_goals (intro i q hq; simp at hq)
      · obtain ⟨g, rfl⟩ : ∃ g, p' = some ⟨g, 0, none⟩ := by
          rcases HQ.out.2 with ⟨_, h0⟩ | ⟨g, cap, cur, hv, _⟩
          · exact absurd (List.length_eq_zero_iff.1 h0) he0
          · simp only [Value.slice.injEq] at hv; exact ⟨g, hv.1⟩
        have HS := Lib.hid (sortE_any (w.heap.size + 1) g c' es _ HQ.out hsz (by omega))
        clear he0
        go_wp2_with fail
        refine HS.out.mono ?_
        rintro e w2 ⟨rfl, es', hp', hs', hv', hlen', hB'⟩
        have hBf := hB.trans (hB'.mono (Nat.le_succ _))
        have HF : Hid (HasEs w2 (.slice (some ⟨g, 0, none⟩) es.length c') es' ∧ es'.Perm ((M.filter (fun m => p m.2)).map (·.1)) ∧ es'.Pairwise (fun a b => ¬ ltE b a)) := Lib.hid ⟨by rw [← hlen']; exact hv', hp'.trans HP.out, hs'⟩
        clear hp' hs' hv' hlen' HS
        go_wp2_with fail
        go_ret
        exact ⟨_, _, rfl, HF.out.1, HF.out.2.1, HF.out.2.2, hBf, fun k e => Nat.le_trans (Nat.le_succ _) (HQ.out.lt k e).1⟩
    · intro i x xv w1 hpe hnew hit1 hgr hsz1 hen
      have hi : i < M.length := by
        have := (List.getElem?_eq_some_iff.1 hpe).1
        rwa [HLEN.out] at this
      obtain ⟨m, hm, hmx, hvx⟩ := zipM_get hpe
      simp only at hmx hvx
      subst hmx
      clear hpe
      have HMI := Lib.hid hm
      have HB1 : Below w.heap.size w w1 := (hB.grown hgr hB.size (fun j hj => by cases hj; exact Nat.le_refl _))
      have hg1 : Grp w1 b base M vs := by
        refine ⟨hmap.grown hgr (by intro e; cases e; omega), HG.out.len, HG.out.ok, HG.out.keys, fun j u mm hu hmm => ?_, HG.out.apart⟩
        have ho := HG.out.each j u mm hu hmm
        refine ho.kept hgr ?_
        by_cases hv : u.ownBlock = none
        · exact .inl hv
        · refine .inr (fun e' => ?_)
          rcases ho.2 with ⟨rfl, _⟩ | ⟨g, cap, cur, rfl, _, h2, _⟩
          · cases e'
          · simp only [Value.ownBlock, Option.some.injEq] at e'
            subst e'
            unfold HasIter at hit
            rw [h2] at hit; cases hit
      have hq1 : OwnEd w1 (w.heap.size + 1) (.slice p' es.length c') es := HQ.out.kept hgr (by
        by_cases hv : (Value.slice p' es.length c').ownBlock = none
        · exact .inl hv
        · exact .inr (fun e' => by have := (HQ.out.lt _ e').1; omega))
      have hsz2 : w.heap.size + 1 ≤ w1.heap.size := by omega
      have HVX := Lib.hid hvx
      clear hgr hsz1 hmap hm hvx hB hit
      have HG1 := Lib.hid hg1; clear hg1
      have HQ1 := Lib.hid hq1; clear hq1
      have HIT1 := Lib.hid hit1; clear hit1
      obtain ⟨⟨ex, ey, ek⟩, row⟩ := m
      unfold E.val at hen
      go_wp2_with fail
      have hbx : (w1.alloc (.cells #[.int .i64 ex, .int .i64 ey, .int .i64 ek] 61)).heap[w1.heap.size]? = some (.cells #[.int .i64 ex, .int .i64 ey, .int .i64 ek] 61) := World.alloc_heap_new w1 _
      have hal1 : Below w1.heap.size w1 (w1.alloc (.cells #[.int .i64 ex, .int .i64 ey, .int .i64 ek] 61)) := Below.alloc (Below.refl _ w1) (Nat.le_refl _) _
      refine (HCL.out _ i xv (⟨ex, ey, ek⟩, row) (HB1.trans (hal1.mono HB1.size)) HVX.out HMI.out).mono ?_
      rintro e w3 ⟨rfl, hB3⟩
      have hw3 : Below w1.heap.size w1 w3 := hal1.trans (hB3.mono hal1.size)
      have hbx3 := (hB3.block _ (Array.getElem?_eq_some_iff.1 hbx).1).trans hbx
      have hBw3 := HB1.trans (hw3.mono HB1.size)
      have HG3 := Lib.hid (HG1.out.below hw3)
      have HIT3 := Lib.hid (HIT1.out.below hw3)
      have HQ3 := Lib.hid (owns_below HQ1.out hw3)
      have hsz3 : w.heap.size + 1 ≤ w3.heap.size := Nat.le_trans hsz2 hw3.size
      have d0 : w3.cell? ⟨w1.heap.size, 0, none⟩ = some (.int .i64 ex) := by simp [World.cell?, hbx3]
      have d1 : w3.cell? ⟨w1.heap.size, 1, none⟩ = some (.int .i64 ey) := by simp [World.cell?, hbx3]
      have d2 : w3.cell? ⟨w1.heap.size, 2, none⟩ = some (.int .i64 ek) := by simp [World.cell?, hbx3]
      clear hbx hal1 hB3 hw3 hbx3 HB1 HG1 HIT1 HQ1 hen
      have hlt1 : done.length + 1 ≤ M.length := by
        have := nodup_lt_length M.length (done ++ [i]) (by
          rw [List.nodup_append]
          exact ⟨HD.out, by simp, fun a ha b hb e => hnew (by rw [List.mem_singleton.1 hb] at e; rw [← e]; exact ha)⟩) (fun j hj => by
          rcases List.mem_append.1 hj with h | h
          · exact HDL.out j h
          · rw [List.mem_singleton.1 h]; exact hi)
        simpa using this
      have HND : Hid ((done ++ [i]).Nodup ∧ ∀ j ∈ done ++ [i], j < M.length) := Lib.hid ⟨by
          rw [List.nodup_append]
          exact ⟨HD.out, by simp, fun a ha b hb e => hnew (by rw [List.mem_singleton.1 hb] at e; rw [← e]; exact ha)⟩, fun j hj => by
          rcases List.mem_append.1 hj with h | h
          · exact HDL.out j h
          · rw [List.mem_singleton.1 h]; exact hi⟩
      have hdo3 : doneOf w3 w.heap.size = done.length + 1 := by rw [HIT3.out.done]; simp
      have HDO3 := Lib.hid hdo3; clear hdo3
      cases hp : p row with
      | false =>
        have HES2 : Hid (es = pickE M p (done ++ [i])) := Lib.hid (by rw [pickE_snoc HMI.out, HES.out]; simp [hp])
        go_wp2_with fail
        go_roundw
        case rel => exact ⟨done ++ [i], es, Lib.hid ⟨HIT3.out, HG3.out, HND.out.1, HND.out.2, HQ3.out, HES2.out, hBw3, hsz3⟩⟩
        case measure =>
          rw [HDO3.out, HDO.out]; omega
      | true =>
        have HES2 : Hid (es ++ [⟨ex, ey, ek⟩] = pickE M p (done ++ [i])) := Lib.hid (by rw [pickE_snoc HMI.out, HES.out]; simp [hp])
        have HM1 : Hid (es.length + 1 ≤ maxLen) := Lib.hid (by simp only [maxLen]; omega)
        have HM2 : Hid ((es.length + 1) * 24 ≤ 140737488355328) := Lib.hid (by omega)
        obtain ⟨iE, hiE, hzE, hsE, hbE⟩ := info_parts infoE
        go_wp2_with (first
          | (at_builtin; refine wpList_append_own _ rfl _ _ 32 rfl (w.heap.size + 1) 61 iE _ 3 24 Tryz.underlying32 hiE hzE hsE hbE rfl (by decide) (.slice p' es.length c') es.length (eCells es) rfl (HQ3.out.alloc _) ⟨w3.heap.size, 0, none⟩ 1 1 (eVals ⟨ex, ey, ek⟩) rfl rfl (eVals_at ⟨ex, ey, ek⟩) (eVals_one _) HM1.out HM2.out (by rw [World.size_alloc]; omega) ?_; intro v' w4 hown' hgrow _; obtain ⟨p'', c'', rfl⟩ := own_slice hown'))
        have hga : w3.grownBy w4 (Value.slice p' es.length c').ownBlock := ⟨hgrow.os, hgrow.tape, hgrow.output, Nat.le_trans (by simp) hgrow.size, fun k hk hne => (hgrow.block k (by simp; omega) hne).trans (Below.heap_alloc _ _ _ hk)⟩
        have hrow : ∀ k, (Value.slice p' es.length c').ownBlock = some k → w.heap.size + 1 ≤ k := fun k hk => (HQ3.out.lt k hk).1
        have hit4 : HasIter w4 w.heap.size b (zipM M vs).length (done ++ [i]) := HIT3.out.grown hga (fun e => by have := hrow _ e.symm; omega)
        have hg4 : Grp w4 b base M vs := by
          refine ⟨HG3.out.map.grown hga (fun e => by have := hrow _ e.symm; omega), HG3.out.len, HG3.out.ok, HG3.out.keys, fun j u mm hu hmm => ?_, HG3.out.apart⟩
          have ho := HG3.out.each j u mm hu hmm
          refine ho.kept hga ?_
          rcases ho.2 with ⟨rfl, _⟩ | ⟨g, cap, cur, rfl, _, h2, _⟩
          · exact .inl rfl
          · rcases HQ3.out.2 with ⟨hn, _⟩ | ⟨g', cap', cur', hn, _, h2', _⟩
            · exact .inr (by rw [hn]; simp [Value.ownBlock])
            · refine .inr (fun e' => ?_)
              rw [hn] at e'
              simp only [Value.ownBlock, Option.some.injEq] at e'
              subst e'
              rw [h2] at h2'
              simp only [Option.some.injEq, Obj.cells.injEq] at h2'
              exact absurd h2'.2.1 (by decide)
        have hdo4 : doneOf w4 w.heap.size = done.length + 1 := by rw [hit4.done]; simp
        have HDO4 := Lib.hid hdo4; clear hdo4
        have HG4 := Lib.hid hg4; clear hg4
        have HIT4 := Lib.hid hit4; clear hit4
        go_roundw
        case rel => exact ⟨done ++ [i], es ++ [⟨ex, ey, ek⟩], Lib.hid ⟨HIT4.out, HG4.out, HND.out.1, HND.out.2, ownEd_snoc hown', HES2.out, hBw3.grown hga hBw3.size (fun k hk => by have := hrow k hk; omega), Nat.le_trans hsz3 hga.size⟩⟩
        case measure =>
          rw [HDO4.out, HDO.out]; omega

set_option maxRecDepth 100000 in
set_option maxHeartbeats 4000000 in
theorem Border_new (l : List Q) (v : Value) (w : World) (hv : HasQ w v l) :
    Calls Tryz.prog 18 #[v] w fun e w' => ∃ u es, e = .returned (.tuple #[u, .int .i64 (checkN l)]) ∧ HasEs w' u es ∧ (checkN l ≠ 0 → es = []) ∧ (checkN l = 0 → es.Perm (borderE l) ∧ es.Pairwise (fun a b => ¬ ltE b a)) ∧ Below w.heap.size w w' ∧ (∀ k, u.ownBlock = some k → w.heap.size ≤ k) := by
  obtain ⟨vp, vc, rfl⟩ := hv.slice
  have HV := Lib.hid hv; clear hv
  have hmm := @run_makeMap Tryz.prog
  go_enter Tryz.func18, Tryz.ntmps18
  go_wp2_with fail
  refine (check_any l _ w HV.out).mono ?_
  rintro e w1 ⟨rfl, hB1⟩
  have HB1 := Lib.hid hB1
  clear hB1
  by_cases hc : checkN l = 0
  case neg =>
    have hc1 : ((checkN l : Int) != 0) = true := by simpa using hc
    have HC : Hid (checkN l ≠ 0) := Lib.hid hc
    clear hc
    go_wp2_with fail
    go_ret2
    exact ⟨.slice none 0 0, [], rfl, .inl ⟨rfl, rfl⟩, fun _ => rfl, fun h => absurd h HC.out, HB1.out, fun k e => by cases e⟩
  have hc1 : ((checkN l : Int) != 0) = false := by simpa using hc
  have HC := Lib.hid hc
  have HOK := Lib.hid (checkN_ok hc)
  rw [hc]
  clear hc
  have hl400 : l.length ≤ 400 := HOK.out.2.2
  have hal : Below w1.heap.size w1 (w1.alloc (.map #[] 0)) := (Below.refl _ w1).alloc (Nat.le_refl _) _
  have hG : Grp (w1.alloc (.map #[] 0)) w1.heap.size (w1.heap.size + 1) [] [] := ⟨World.alloc_heap_new w1 _, rfl, fun m hm => (by cases hm), List.nodup_nil, fun i v m hv _ => (by simp at hv), fun i j u v _ hu _ => (by simp at hu)⟩
  have HOWN := Lib.hid (own_any w1.heap.size (w1.heap.size + 1) 0 [] [] l (.slice vp l.length vc) (w1.alloc (.map #[] 0)) hG (by rw [World.size_alloc]; exact Nat.le_refl _) ((HV.out.below HB1.out).below hal)
    (fun b hb => by have := (HV.out.below HB1.out).own_lt HOK.out.2.1 b hb; exact ⟨by omega, by omega⟩) HOK.out.1.1 (fun m hm => by cases hm) (by omega))
  clear hal hG
  go_wp2_with fail
  clear hmm
  refine HOWN.out.mono ?_
  rintro e w2 ⟨rfl, ⟨vs', hg'⟩, _, hBB⟩
  have HG := Lib.hid hg'
  have HB2 : Hid (Below w.heap.size w w2) := Lib.hid (by
    have h0 : Below w1.heap.size w1 w2 := ((Below.refl _ w1).alloc (Nat.le_refl _) _).trans (hBB.below (by omega) (Nat.le_refl _))
    exact HB1.out.trans (h0.mono HB1.out.size))
  clear hg' hBB HOWN
  have hML : (ownL [] l).length ≤ 1000000 := by
    have := ownL_length l []
    simp only [List.length_nil] at this; omega
  have HORD := Lib.hid (ordered_new w1.heap.size (w1.heap.size + 1) 58 #[] (ownL [] l) vs' oneP w2 HG.out hML
    (fun args w => by kernel_rfl)
    (fun W i v m hB hv hm => oneP_any m.2 v W ((HG.out.each i v m hv hm).has.below hB)))
  clear hML
  go_wp2_with fail
  refine HORD.out.mono ?_
  rintro e w5 ⟨u, es, rfl, hes, hperm, hsort, hBo, hnew⟩
  have HE := Lib.hid hes; clear hes
  have HP := Lib.hid hperm; clear hperm
  have HS := Lib.hid hsort; clear hsort
  have HNEW : Hid (∀ k, u.ownBlock = some k → w.heap.size ≤ k) := Lib.hid fun k e => Nat.le_trans HB2.out.size (hnew k e)
  clear hnew
  have HB5 := Lib.hid (HB2.out.trans (hBo.mono HB2.out.size)); clear hBo
  go_wp2_with fail
  go_ret2
  exact ⟨u, es, by rw [HC.out]; rfl, HE.out, fun h => absurd HC.out h, fun _ => ⟨HP.out, HS.out⟩, HB5.out, HNEW.out⟩
end Go.Proofs.YtiinlplgloaanaaGreatDoor
