/- TopHalved: two halves for a square: the law. -/
import Derived.Test.YtiinlplgloaanaaGreatDoorZzTopHalved19

/- Plain: what TopHalved compares: the first tiling, and the one with a square less and two halves more. -/
namespace Go.Proofs.YtiinlplgloaanaaGreatDoor
set_option linter.all false
set_option linter.unusedSimpArgs false
set_option linter.unusedVariables false
open Go.RowKit

/-- A load of a whole row, as one operation of a quiet walk. -/
theorem quiet_load_is {P : Program} {C : World → Prop} {o : Oper} {a : Act} {K : Act → Prop} (ty : TypeId) (x : Operand) (ho : o.op = .load ty x) {p : Value} (hx : a.eval x = p) {v : Value} (hv : ∀ w, C w → (Instr.loadAt ty p).run P w = .ok v w) (hk : K (a.put o.dst v)) : o.quiet P a C K := by
  refine ⟨v, fun w hc => ?_, hk⟩
  unfold Oper.quietAt execOp
  simp only [ho, hx, Sem.run_bind, hv w hc, Result.andThen_ok, Sem.run_pure]
  exact ⟨rfl, rfl⟩
theorem tilings_code (t : Tk) : (tilingsT t).2.2 = 0 ∨ (tilingsT t).2.2 = 8 := by
  unfold tilingsT
  split
  · exact .inl rfl
  · split
    · split
      · exact .inr rfl
      · exact .inl rfl
    · exact .inl rfl
theorem first_codes (t : Tk) : ((firstT t).2 = 0 ∨ (firstT t).2 = 7 ∨ (firstT t).2 = 8) ∧ ((firstT t).2 ≠ 0 → (firstT t).1 = []) ∧ ((firstT t).2 = 0 → ∃ x ∈ (tilingsT t).1, (firstT t).1 = x.map (·.ld)) := by
  unfold firstT
  rcases tilings_code t with h | h
  · rw [if_neg (by rw [h]; decide)]
    cases hx : (tilingsT t).1 with
    | nil => exact ⟨.inr (.inl rfl), fun _ => rfl, fun h => absurd h (by decide)⟩
    | cons x l => exact ⟨.inl rfl, fun h => absurd rfl h, fun _ => ⟨x, by simp, rfl⟩⟩
  · rw [if_pos (by rw [h]; decide), h]
    exact ⟨.inr (.inr rfl), fun _ => rfl, fun h => absurd h (by decide)⟩
theorem first_next {g : List Q} {a b : Int} (ha : 1 ≤ a) (h : (firstT (taskH g a b)).2 = 0) :
    ((firstT (taskH g (a - 1) (b + 2))).2 = 8 ∧ (firstT (taskH g (a - 1) (b + 2))).1 = []) ∨ ((firstT (taskH g (a - 1) (b + 2))).2 = 0 ∧ (firstT (taskH g (a - 1) (b + 2))).1.length = (firstT (taskH g a b)).1.length + 1) := by
  obtain ⟨x, hx, hl⟩ := (first_codes (taskH g a b)).2.2 h
  rw [hl, List.length_map]
  rcases tilings_code (taskH g (a - 1) (b + 2)) with h0 | h0
  · obtain ⟨h1, h2⟩ := halved ha hx h0
    refine .inr ?_
    unfold firstT
    rw [if_neg (by rw [h0]; decide)]
    cases hy : (tilingsT (taskH g (a - 1) (b + 2))).1 with
    | nil => exact absurd hy h1
    | cons y l =>
      have := h2 y (by rw [hy]; simp)
      refine ⟨rfl, ?_⟩
      show (y.map (·.ld)).length = _
      rw [List.length_map]; omega
  · refine .inl ?_
    unfold firstT
    rw [if_pos (by rw [h0]; decide), h0]
    exact ⟨rfl, rfl⟩
theorem first_len {g : List Q} {a b : Int} (h : (firstT (taskH g a b)).2 = 0) : ((firstT (taskH g a b)).1.length : Int) = a + b := by
  obtain ⟨x, hx, hl⟩ := (first_codes (taskH g a b)).2.2 h
  rw [hl, List.length_map]
  exact (tilings_len hx).1
/-- Two numbers of a row of two are set. -/
theorem own_two {W : World} {pc cc : Nat} {a b : Int} (h : RI.Own W 0 (.slice (some ⟨pc, 0, none⟩) 2 cc) [a, b]) : ∃ cur, W.heap[pc]? = some (.cells cur 3 (0, 0)) ∧ cur[0]? = some (.int .i64 a) ∧ cur[1]? = some (.int .i64 b) := by
  rcases h.2 with ⟨he, _⟩ | ⟨g, cap, cur, hv, _, h2, _, _, _, h6⟩
  · cases he
  · simp only [Value.slice.injEq, Option.some.injEq, Addr.mk.injEq, and_true] at hv
    obtain ⟨rfl, _, rfl⟩ := hv
    have e : cur.toList.take 2 = [.int .i64 a, .int .i64 b] := h6
    refine ⟨cur, h2, ?_, ?_⟩
    · have := congrArg (·[0]?) e
      simpa [List.getElem?_take] using this
    · have := congrArg (·[1]?) e
      simpa [List.getElem?_take] using this
theorem own_two_set {W : World} {pc cc : Nat} {a b : Int} (h : RI.Own W 0 (.slice (some ⟨pc, 0, none⟩) 2 cc) [a, b]) (x y : Int) : RI.Own ((W.setCell ⟨pc, 0, none⟩ (.int .i64 x)).setCell ⟨pc, 1, none⟩ (.int .i64 y)) 0 (.slice (some ⟨pc, 0, none⟩) 2 cc) [x, y] := by
  rcases h.2 with ⟨he, _⟩ | ⟨g, cap, cur, hv, h1, h2, h3, h4, h5, h6⟩
  · cases he
  · simp only [Value.slice.injEq, Option.some.injEq, Addr.mk.injEq, and_true] at hv
    obtain ⟨rfl, _, rfl⟩ := hv
    refine ⟨rfl, .inr ⟨pc, cc, _, rfl, h1, heap_setCell_same _ _ _ _ _ _ (heap_setCell_same _ _ _ _ _ _ h2), h3, h4, by simpa using h5, ?_⟩⟩
    have e : cur.toList.take 2 = [.int .i64 a, .int .i64 b] := h6
    rw [Array.toList_setIfInBounds, Array.toList_setIfInBounds]
    revert e
    generalize cur.toList = l
    intro e
    match l, e with
    | p :: q :: r, _ => rfl
theorem ok_next {g : List Q} {a b : Int} (h : OkT (taskH g a b)) (ha : 1 ≤ a) (hs : a + b + 1 ≤ 16) : OkT (taskH g (a - 1) (b + 2)) := by
  obtain ⟨h1, h2, h3, h4, h5, h6, h7⟩ := (okT_iff rfl).1 h
  have ha16 := h1 a (by simp [taskH])
  have hb16 := h1 b (by simp [taskH])
  refine (okT_iff rfl).2 ⟨fun c hc => ?_, h2, h3, h4, ?_, h6, h7⟩
  · simp only [taskH, List.mem_cons, List.not_mem_nil, or_false] at hc
    rcases hc with rfl | rfl <;> omega
  · simp only [taskH, List.sum_cons, List.sum_nil]; omega
theorem shape_names : shapeN 0 = squareQ ∧ shapeN 2 = halfQ := by decide +kernel
theorem link_two (g : List Q) (a b : Nat) : linkT g [0, 2] [a, b] = taskH g ((a % 8 : Nat) : Int) ((b % 8 : Nat) : Int) := by
  unfold linkT taskH numN
  simp [shape_names.1, shape_names.2]
theorem ru_two {W : World} {x y : Nat} {blk : Nat} {T : TypeId} (h : W.heap[blk]? = some (.cells #[.int .u8 x, .int .u8 y] T (0, 0))) : RU.Has W (.slice (some ⟨blk, 0, none⟩) 2 2) [x, y] := by
  refine .inr ⟨⟨blk, 0, none⟩, 2, rfl, Nat.le_refl _, by decide, fun _ => (Array.getElem?_eq_some_iff.1 h).1, fun i z hz j u hu => ?_⟩
  have hj : j = 0 := by
    have := (List.getElem?_eq_some_iff.1 hu).1
    simp [RU] at this; exact this
  subst hj
  simp [RU] at hu
  subst hu
  have e : (⟨blk, 0, none⟩ : Addr).add (i * RU.n + 0) = ⟨blk, i, none⟩ := by
    have := add_at blk i
    simp only [RU, Nat.mul_one, Nat.add_zero]; exact this
  rw [e]
  simp only [World.cell?, h]
  rcases i with _ | _ | i
  · simp at hz; subst hz; rfl
  · simp at hz; subst hz; rfl
  · simp at hz
end Go.Proofs.YtiinlplgloaanaaGreatDoor

/- TopHalved: two halves for a square: the law. -/
namespace Go.Proofs.YtiinlplgloaanaaGreatDoor
set_option linter.all false
set_option linter.unusedSimpArgs false
set_option linter.unusedVariables false
open Go.RowKit
attribute [local go_sem] Oper.semAt_some

set_option maxRecDepth 100000 in
set_option maxHeartbeats 16000000 in
theorem TopHalved_any (g : List Q) (v : Value) (a b : Nat) (w : World) (hv : HasQ w v g) (hl : g.length * 24 ≤ 140737488351232) (ha : a < 256) (hb : b < 256) (hK : KindsAt w) (htb : TbAt w) (hsh : w.ShapedOpen Tryz.prog) :
    Calls Tryz.prog 3 #[v, .agg #[.int .u8 a, .int .u8 b]] w fun e w' => e = .returned (.bool true) ∧ Below w.heap.size w w' := by
  obtain ⟨gp, gc, rfl⟩ := hv.slice
  have HV := Lib.hid hv; clear hv
  have HK := Lib.hid hK; clear hK
  have HSH := Lib.hid hsh; clear hsh
  have HTB := Lib.hid htb; clear htb
  have HKN : Hid (∀ W, Below w.heap.size w W → Calls Tryz.prog 14 #[] W fun e w' => e = .returned (.bool true) ∧ Below W.heap.size W w') := Lib.hid fun W h => known_til W (HK.out.below h) (shaped_below HSH.out h) (HTB.out.below h)
  go_enter Tryz.func3, Tryz.ntmps3
  go_wp2_with fail
  have hX := World.alloc_heap_new w (.cells #[.int .u8 a, .int .u8 b] 23)
  have hB0 : Below w.heap.size w (w.alloc (.cells #[.int .u8 a, .int .u8 b] 23)) := (Below.refl _ w).alloc (Nat.le_refl _) _
  revert hX hB0
  generalize w.alloc (.cells #[.int .u8 a, .int .u8 b] 23) = w0
  intro hX hB0
  have HX := Lib.hid hX; clear hX
  have HB0 := Lib.hid hB0; clear hB0
  refine (Kind_own halfB w0 (HK.out.below HB0.out) (shaped_below HSH.out HB0.out)).mono ?_
  rintro e w1 ⟨u1, rfl, hu1, hb1⟩
  rw [known_codes.2.2.1]
  obtain ⟨p1, c1, rfl⟩ := own_slice hu1
  have HU1 := Lib.hid hu1; clear hu1
  have HX1 := Lib.hid ((hb1.block _ (Array.getElem?_eq_some_iff.1 HX.out).1).trans HX.out)
  have HB1 := Lib.hid (HB0.out.trans (hb1.mono HB0.out.size)); clear hb1
  go_wp2_with fail
  refine (Kind_own squareB w1 (HK.out.below HB1.out) (shaped_below HSH.out HB1.out)).mono ?_
  rintro e w2 ⟨u2, rfl, hu2, hb2⟩
  rw [known_codes.2.2.2]
  obtain ⟨p2, c2, rfl⟩ := own_slice hu2
  have HU2 := Lib.hid hu2; clear hu2
  have HX2 := Lib.hid ((hb2.block _ (Array.getElem?_eq_some_iff.1 HX1.out).1).trans HX1.out)
  have HB2 := Lib.hid (HB1.out.trans (hb2.mono HB1.out.size))
  have HU1' := Lib.hid (HU1.out.below hb2); clear hb2
  have HCT := Lib.hid (count_one taskS rfl rfl (kindC halfB).1 rfl 2 rfl ok_square w2 _ _ HU2.out.has (HU1'.out.mono (Nat.zero_le _)) (HTB.out.below HB2.out) _ count_square)
  go_wp2_with fail
  refine HCT.out.mono ?_
  rintro e w3 ⟨rfl, hb3⟩
  have hX3 := (hb3.block _ (Array.getElem?_eq_some_iff.1 HX2.out).1).trans HX2.out
  have HB3 := Lib.hid (HB2.out.trans (hb3.mono HB2.out.size)); clear hb3 HCT
  have hwz : w.heap.size < w3.heap.size := (Array.getElem?_eq_some_iff.1 hX3).1
  have x0 : (w3.alloc (.cells #[.int .u8 0, .int .u8 2] 5)).cell? ⟨w.heap.size, 0, none⟩ = some (.int .u8 a) := by simp only [World.cell?, heapO (.cells #[.int .u8 0, .int .u8 2] 5) hX3]; rfl
  have x1 : (w3.alloc (.cells #[.int .u8 0, .int .u8 2] 5)).cell? ⟨w.heap.size, 1, none⟩ = some (.int .u8 b) := by simp only [World.cell?, heapO (.cells #[.int .u8 0, .int .u8 2] 5) hX3]; rfl
  go_wp2_with fail
  have hB4 : Below w.heap.size w ((w3.alloc (.cells #[.int .u8 0, .int .u8 2] 5)).alloc (.cells #[.int .u8 a, .int .u8 b] 5)) := (HB3.out.alloc HB3.out.size _).alloc (by have := HB3.out.size; rw [World.size_alloc]; omega) _
  have hk4 := heapO (.cells #[.int .u8 a, .int .u8 b] 5) (World.alloc_heap_new w3 (.cells #[.int .u8 0, .int .u8 2] 5))
  have hc4 := World.alloc_heap_new (w3.alloc (.cells #[.int .u8 0, .int .u8 2] 5)) (.cells #[.int .u8 a, .int .u8 b] 5)
  rw [World.size_alloc] at hc4
  have HLK := Lib.hid (link_any (ks := [0, 2]) (cs := [a, b]) hl _ _ _ _ (HV.out.below hB4) (ru_two (x := 0) (y := 2) hk4) (ru_two hc4) (fun x hx => by simp at hx; rcases hx with rfl | rfl <;> assumption) (HK.out.below hB4) (shaped_below HSH.out hB4))
  have HB4 := Lib.hid hB4
  clear hB4 hk4 hc4 hX3 x0 x1 hwz HU1 HU2 HX1 HX2 HU1' HX HB0 HB1 HB2
  rw [link_two] at HLK
  refine HLK.out.mono ?_
  rintro e w5 ⟨vg, vk, vc, us, rfl, hog, hok, hoc, hb5⟩
  clear HLK
  obtain ⟨a', ha'⟩ : ∃ a', a % 8 = a' := ⟨_, rfl⟩
  obtain ⟨b', hb'⟩ : ∃ b', b % 8 = b' := ⟨_, rfl⟩
  have hal : a' < 8 := by omega
  have hbl : b' < 8 := by omega
  rw [ha', hb'] at hok hoc
  clear ha' hb' ha hb
  have hB5 : Below w.heap.size w w5 := HB4.out.trans (hb5.mono HB4.out.size)
  have HOG := Lib.hid (hog.mono (base' := 0) (Nat.zero_le _))
  obtain ⟨pg, cg, rfl⟩ := own_slice hog
  obtain ⟨pk, ck, rfl⟩ := own_slice hok.row
  have hul : us.length = 2 := hok.len
  obtain ⟨pc, cc, rfl⟩ : ∃ pc cc, vc = .slice (some ⟨pc, 0, none⟩) 2 cc := by
    rcases hoc.2 with ⟨_, h0⟩ | ⟨g, cap, cur, h, _⟩
    · exact absurd h0 (by simp [taskH])
    · exact ⟨g, cap, h⟩
  have HOK := Lib.hid (ownQQ_has hok)
  have HOKO := Lib.hid hok
  have HOC := Lib.hid hoc; clear hog hok hoc hb5
  rw [hul]
  have hst : (Tryz.prog.info? 34).map (·.size) = some (tkA (.slice pg g.length cg) (.slice pk 2 ck) (.slice (some ⟨pc, 0, none⟩) 2 cc)).size := sizeTask
  go_wp2_with (refine wpList_store_row rfl 34 _ _ rfl w5.heap.size rfl 34 _ (tkA (.slice pg g.length cg) (.slice pk 2 ck) (.slice (some ⟨pc, 0, none⟩) 2 cc)) rfl (World.alloc_heap_new w5 _) hst rfl (by simp [tkA, Value.oneCell']) ?_; rw [World.setRow_alloc_new])
  have hT := World.alloc_heap_new w5 (.cells (tkA (.slice pg g.length cg) (.slice pk 2 ck) (.slice (some ⟨pc, 0, none⟩) 2 cc)) 34)
  have hal5 : Below w5.heap.size w5 (w5.alloc (.cells (tkA (.slice pg g.length cg) (.slice pk 2 ck) (.slice (some ⟨pc, 0, none⟩) 2 cc)) 34)) := (Below.refl _ w5).alloc (Nat.le_refl _) _
  have hF6 : Below w.heap.size w (w5.alloc (.cells (tkA (.slice pg g.length cg) (.slice pk 2 ck) (.slice (some ⟨pc, 0, none⟩) 2 cc)) 34)) ∧ HasQ (w5.alloc (.cells (tkA (.slice pg g.length cg) (.slice pk 2 ck) (.slice (some ⟨pc, 0, none⟩) 2 cc)) 34)) (.slice pg g.length cg) g ∧ OwnQ (w5.alloc (.cells (tkA (.slice pg g.length cg) (.slice pk 2 ck) (.slice (some ⟨pc, 0, none⟩) 2 cc)) 34)) 0 (.slice pg g.length cg) g ∧ OwnQQ (w5.alloc (.cells (tkA (.slice pg g.length cg) (.slice pk 2 ck) (.slice (some ⟨pc, 0, none⟩) 2 cc)) 34)) 0 (.slice pk 2 ck) us [squareQ, halfQ] ∧ RI.Own (w5.alloc (.cells (tkA (.slice pg g.length cg) (.slice pk 2 ck) (.slice (some ⟨pc, 0, none⟩) 2 cc)) 34)) 0 (.slice (some ⟨pc, 0, none⟩) 2 cc) [(a' : Int), (b' : Int)] ∧ pc < w5.heap.size ∧ w.heap.size ≤ pc := by
    have h1 := HOG.out.below hal5
    have h2 := HOKO.out.below hal5
    have h3 := owns_below HOC.out hal5
    refine ⟨hB5.trans (hal5.mono hB5.size), h1.has, h1, ⟨?_, h2.len, fun i x m hx hm => (h2.each i x m hx hm).mono (Nat.zero_le _)⟩, own_wider h3 (Nat.zero_le _), (owns_lt HOC.out (k := pc) rfl).2.1, Nat.le_trans HB4.out.size (owns_lt HOC.out (k := pc) rfl).1⟩
    have := own_wider h2.row (Nat.zero_le _)
    rwa [hul] at this ⊢
  clear hal5 hst HOG HOK HOKO HOC hB5 HB4
  revert hT hF6
  generalize w5.alloc (.cells (tkA (.slice pg g.length cg) (.slice pk 2 ck) (.slice (some ⟨pc, 0, none⟩) 2 cc)) 34) = w6
  generalize w5.heap.size = tb
  intro hT hF6
  obtain ⟨hB6, hg6, ho6, hk6, hc6, hpc, hpw⟩ := hF6
  have HB6 := Lib.hid hB6; clear hB6
  have t2 : ∀ d : SubW w6, d.1.cell? ⟨tb, 2, none⟩ = some (.slice (some ⟨pc, 0, none⟩) 2 cc) := fun d => by simp only [World.cell?, d.block hT]; rfl
  have tl : ∀ d : SubW w6, (Instr.loadAt 34 (.pointer (some ⟨tb, 0, none⟩))).run Tryz.prog d.1 = .ok (.agg #[.slice pg g.length cg, .slice pk 2 ck, .slice (some ⟨pc, 0, none⟩) 2 cc, .slice none 0 0, .slice none 0 0]) d.1 := fun d => by
    have := run_loadVar_row (P := Tryz.prog) d.1 tb 34 34 (tkA (.slice pg g.length cg) (.slice pk 2 ck) (.slice (some ⟨pc, 0, none⟩) 2 cc)) (0, 0) _ (d.block hT) Tryz.underlying34 rfl sizeTask
    simp only [Instr.loadAt, Instr.sureAddr, Sem.run_bind, Sem.run_pure, Result.andThen_ok, this]; rfl
  have k0 : ∀ d : SubW w6, d.1.cell? ⟨pc, 0, none⟩ = some (.int .i64 a') := fun d => (owns_below hc6 d.2).cellAt 0 (by decide)
  have k1 : ∀ d : SubW w6, d.1.cell? ⟨pc, 1, none⟩ = some (.int .i64 b') := fun d => (owns_below hc6 d.2).cellAt 1 (by decide)
  have HT := Lib.hid hT; clear hT
  have HG6 := Lib.hid hg6; clear hg6
  have HO6 := Lib.hid ho6; clear ho6
  have HK6 := Lib.hid hk6; clear hk6
  have HC6 := Lib.hid hc6; clear hc6
  have HCKA : Hid (∀ d : SubW w6, Calls Tryz.prog 13 #[.agg #[.slice pg g.length cg, .slice pk 2 ck, .slice (some ⟨pc, 0, none⟩) 2 cc, .slice none 0 0, .slice none 0 0]] d.1 (CkPost (taskH g a' b') d.1)) := Lib.hid fun d =>
    check_task (t := taskH g a' b') rfl d.1 _ _ _ _ (HG6.out.below d.2) (ownQQ_has (HK6.out.below d.2)) (REnc.Own.has (R := RI) (owns_below HC6.out d.2)) (.inl ⟨rfl, rfl⟩) (by simp [taskH])
  by_cases h48 : g.length ≤ 48
  · rw [decide_eq_true h48]
    by_cases hok : OkT (taskH g a' b')
    · have HCK : Hid (∀ d : SubW w6, Calls Tryz.prog 13 #[.agg #[.slice pg g.length cg, .slice pk 2 ck, .slice (some ⟨pc, 0, none⟩) 2 cc, .slice none 0 0, .slice none 0 0]] d.1 fun e w' => e = .returned (.int .i64 0) ∧ ∃ d' : SubW w6, w' = d'.1) := Lib.hid fun d => by
        refine (HCKA.out d).mono ?_
        rintro e w' ⟨code, rfl, h1, _, h3⟩
        exact ⟨by rw [h1.2 hok]; rfl, ⟨w', d.2.trans (h3.mono d.2.size)⟩, rfl⟩
      have HOKT := Lib.hid hok; clear hok
      by_cases h1 : 1 ≤ a'
      · have hsum : ¬ (16 < (a' : Int) + b' + 1) := by omega
        have hne0 : ¬ a' = 0 := by omega
        have hi1 : ¬ ((a' : Int) < 1) := by omega
        have hd1 : decide ((a' : Int) < 1) = false := decide_eq_false hi1
        refine wp_region_qb 33 (by kernel_rfl) (by kernel_rfl) ?_
        simp only [List.take_succ_cons, List.take_zero, List.drop_succ_cons, List.drop_zero]
        repeat (first | ((go_big_quiet_want; refine quiet_load_is 34 _ rfl rfl (by rintro w ⟨d, rfl⟩; exact tl d) ?_; simp only [Act.put, List.setIfInBounds_toArray, List.set_cons_zero, List.set_cons_succ]; go_big_quiet_on)) | go_big_quiet_step ((exact HCK.out _)))
        refine wpQuiet_nil ?_
        intro dq
        have hT7 := dq.block HT.out
        have hg7 := HG6.out.below dq.2
        have ho7 := HO6.out.below dq.2
        have hk7 := HK6.out.below dq.2
        have hc7 := owns_below HC6.out dq.2
        have hB7 := HB6.out.trans (dq.2.mono HB6.out.size)
        clear t2 tl k0 k1 HCKA HCK HG6 HO6 HK6 HC6 HB6 HT hsum hne0 hi1 hd1
        revert hT7 hg7 ho7 hk7 hc7 hB7
        generalize dq.1 = w7
        intro hT7 hg7 ho7 hk7 hc7 hB7
        have HF1 := Lib.hid (first_task (t := taskH g a' b') rfl rfl w7 _ _ _ (.slice none 0 0) hg7 (ownQQ_has hk7) (REnc.Own.has (R := RI) hc7) rfl (.inl ⟨rfl, rfl⟩) (by simp [taskH]) (HTB.out.below hB7))
        go_wp2_with (refine wpList_load_row rfl 34 _ rfl tb rfl 34 (tkA (.slice pg g.length cg) (.slice pk 2 ck) (.slice (some ⟨pc, 0, none⟩) 2 cc)) (0, 0) _ hT7 Tryz.underlying34 rfl sizeTask ?_)
        refine HF1.out.mono ?_
        rintro e w8 ⟨vf, code, rfl, hb8, hyes, _⟩
        obtain ⟨hown1, rfl⟩ := hyes HOKT.out
        obtain ⟨pf, cf, rfl⟩ := own_slice hown1
        clear hown1 hyes HF1
        have HF7 := Lib.hid (And.intro hT7 (And.intro hg7 (And.intro ho7 (And.intro hk7 hc7)))); clear hT7 hg7 ho7 hk7 hc7
        have HB8 := Lib.hid (hB7.trans (hb8.mono hB7.size))
        have HBB := Lib.hid hb8; clear hb8 hB7
        have HCO := Lib.hid (first_codes (taskH g a' b'))
        rcases HCO.out.1 with h0 | h7 | h8
        · have HLN := Lib.hid (first_len h0)
          have HNX := Lib.hid (first_next (g := g) (a := (a' : Int)) (b := (b' : Int)) (by omega) h0)
          rw [h0]
          clear h0
          obtain ⟨n, hn⟩ : ∃ n, (firstT (taskH g a' b')).1.length = n := ⟨_, rfl⟩
          rw [hn] at HLN HNX ⊢
          have hnl : n ≤ 14 := by have := HLN.out; omega
          clear hn
          go_wp2_with fail
          have hT8 := (HBB.out.block _ (Array.getElem?_eq_some_iff.1 HF7.out.1).1).trans HF7.out.1
          have hc8 := owns_below HF7.out.2.2.2.2 HBB.out
          have ho8 := HF7.out.2.2.1.below HBB.out
          have hk8 := HF7.out.2.2.2.1.below HBB.out
          obtain ⟨cur, hcur, hcu0, hcu1⟩ := own_two hc8
          have hne : pc ≠ tb := fun e => by
            rw [e, hT8] at hcur
            simp only [Option.some.injEq, Obj.cells.injEq] at hcur
            exact absurd hcur.2.1 (by decide)
          have hcur9 : ((w8.drewN 1).setCell ⟨pc, 0, none⟩ (.int .i64 ((a' : Int) - 1))).heap[pc]? = some (.cells (cur.setIfInBounds 0 (.int .i64 ((a' : Int) - 1))) 3 (0, 0)) := heap_setCell_same _ _ _ _ _ _ hcur
          have HRUN1 := Lib.hid (run_storeAt_one (P := Tryz.prog) Tryz.isAgg3 (W := w8.drewN 1) hcur hcu0 Tryz.sizeOf3 (v := .int .i64 ((a' : Int) - 1)) rfl)
          have HRUN2 := Lib.hid (run_storeAt_one (P := Tryz.prog) Tryz.isAgg3 (i := 1) hcur9 (u := .int .i64 b') (by rw [Array.getElem?_setIfInBounds]; simpa using hcu1) Tryz.sizeOf3 (v := .int .i64 ((b' : Int) + 2)) rfl)
          have hmv : ∀ (k : Nat) (cs : Array Value) (T : TypeId), T ≠ 3 → w8.heap[k]? = some (.cells cs T (0, 0)) → (((w8.drewN 1).setCell ⟨pc, 0, none⟩ (.int .i64 ((a' : Int) - 1))).setCell ⟨pc, 1, none⟩ (.int .i64 ((b' : Int) + 2))).heap[k]? = w8.heap[k]? := fun k cs T hT hc => by
            have hkp : k ≠ pc := fun e => by
              rw [e, hcur] at hc
              simp only [Option.some.injEq, Obj.cells.injEq] at hc
              exact hT hc.2.1.symm
            rw [heap_setCell_other _ _ _ _ hkp, heap_setCell_other _ _ _ _ hkp]; rfl
          have hoq : ∀ x m, OwnQ w8 0 x m → OwnQ (((w8.drewN 1).setCell ⟨pc, 0, none⟩ (.int .i64 ((a' : Int) - 1))).setCell ⟨pc, 1, none⟩ (.int .i64 ((b' : Int) + 2))) 0 x m := fun x m hx => owns_move hx fun k hk => by
            obtain ⟨_, _, cs, hc⟩ := owns_lt hx hk
            exact hmv k cs _ (by decide) hc
          have hT10 := (hmv tb _ _ (by decide) hT8).trans hT8
          have ho10 := hoq _ _ ho8
          have hk10 : OwnQQ (((w8.drewN 1).setCell ⟨pc, 0, none⟩ (.int .i64 ((a' : Int) - 1))).setCell ⟨pc, 1, none⟩ (.int .i64 ((b' : Int) + 2))) 0 (.slice pk 2 ck) us [squareQ, halfQ] := ⟨owns_move hk8.row fun k hk => by
            obtain ⟨_, _, cs, hc⟩ := owns_lt hk8.row hk
            exact hmv k cs _ (by decide) hc, hk8.len, fun i x m hx hm => hoq x m (hk8.each i x m hx hm)⟩
          have hc10 : RI.Own (((w8.drewN 1).setCell ⟨pc, 0, none⟩ (.int .i64 ((a' : Int) - 1))).setCell ⟨pc, 1, none⟩ (.int .i64 ((b' : Int) + 2))) 0 (.slice (some ⟨pc, 0, none⟩) 2 cc) [(a' : Int) - 1, (b' : Int) + 2] := own_two_set (W := w8.drewN 1) (owns_below hc8 (below_drewN _ w8 1)) _ _
          have hB10 : Below w.heap.size w (((w8.drewN 1).setCell ⟨pc, 0, none⟩ (.int .i64 ((a' : Int) - 1))).setCell ⟨pc, 1, none⟩ (.int .i64 ((b' : Int) + 2))) := ((HB8.out.trans (below_drewN _ w8 1)).setCell (by simp only; omega) _).setCell (by simp only; omega) _
          have t2 : w8.cell? ⟨tb, 2, none⟩ = some (.slice (some ⟨pc, 0, none⟩) 2 cc) := by simp only [World.cell?, hT8]; rfl
          have k0 : w8.cell? ⟨pc, 0, none⟩ = some (.int .i64 a') := by simp only [World.cell?, hcur]; simpa using hcu0
          have k1 : w8.cell? ⟨pc, 1, none⟩ = some (.int .i64 b') := by simp only [World.cell?, hcur]; simpa using hcu1
          have t2' : ((w8.drewN 1).setCell ⟨pc, 0, none⟩ (.int .i64 ((a' : Int) - 1))).cell? ⟨tb, 2, none⟩ = some (.slice (some ⟨pc, 0, none⟩) 2 cc) := by
            have : ((w8.drewN 1).setCell ⟨pc, 0, none⟩ (.int .i64 ((a' : Int) - 1))).heap[tb]? = _ := (heap_setCell_other _ _ _ _ (fun e => hne e.symm)).trans hT8
            simp only [World.cell?, this]; rfl
          have HF10 := Lib.hid (And.intro hT10 (And.intro ho10 (And.intro hk10 (And.intro hc10 hB10))))
          clear hT10 ho10 hk10 hc10 hB10 hmv hoq hT8 hc8 ho8 hk8 hcur hcu0 hcu1 hcur9 hne
          revert HRUN1 HRUN2 HF10 t2'
          generalize (w8.drewN 1).setCell ⟨pc, 0, none⟩ (.int .i64 ((a' : Int) - 1)) = w9
          intro HRUN1 HRUN2 t2' HF10
          refine wp_region_gen [15, 17] [0, 0, 1, 1, 0, 0, 0, 0, 0, 0, 0, 0, 0, 1, 0, 0, 1, 0] (by kernel_rfl) (by kernel_rfl) (fun m w' => match m with | 0 => ∃ n, w' = w8.drewN n | 1 => ∃ n, w' = w9.drewN n | _ => True) ⟨1, rfl⟩ ?_
          repeat (first | (refine looks_pass (by rfl) ?_) | (refine looks_one (by rfl) (by rfl) (by rfl) ?_; (try dsimp only); go_big_quiet_step (fail); refine wpQuiet_nil ?_) | (refine looks_two (by rfl) (by decide) (by rfl) rfl ?_; (try dsimp only); go_big_quiet_step (fail); refine wpQuiet_nil ?_; go_big_quiet_step (fail); refine wpQuiet_nil ⟨rfl, ?_⟩))
          refine looks_nil ?_
          refine acts_store rfl rfl rfl rfl rfl HRUN1.out ⟨0, rfl⟩ ?_
          refine acts_store rfl rfl rfl rfl rfl HRUN2.out trivial ?_
          refine acts_nil ?_
          revert HF10
          clear HRUN1 HRUN2 t2 t2' k0 k1
          generalize w9.setCell ⟨pc, 1, none⟩ (.int .i64 ((b' : Int) + 2)) = w10
          intro HF10
          have hT10 := HF10.out.1
          have HF2 := Lib.hid (first_task (t := taskH g ((a' : Int) - 1) ((b' : Int) + 2)) rfl rfl w10 _ _ _ (.slice none 0 0) HF10.out.2.1.has (ownQQ_has HF10.out.2.2.1) (REnc.Own.has (R := RI) HF10.out.2.2.2.1) rfl (.inl ⟨rfl, rfl⟩) (by simp [taskH]) (HTB.out.below HF10.out.2.2.2.2))
          go_wp2_with (refine wpList_load_row rfl 34 _ rfl tb rfl 34 (tkA (.slice pg g.length cg) (.slice pk 2 ck) (.slice (some ⟨pc, 0, none⟩) 2 cc)) (0, 0) _ hT10 Tryz.underlying34 rfl sizeTask ?_)
          refine HF2.out.mono ?_
          rintro e w11 ⟨vf2, code2, rfl, hb11, hyes, _⟩
          obtain ⟨hown2, rfl⟩ := hyes (ok_next HOKT.out (by omega) (by omega))
          obtain ⟨pf2, cf2, rfl⟩ := own_slice hown2
          have HB11 := Lib.hid (HF10.out.2.2.2.2.trans (hb11.mono HF10.out.2.2.2.2.size))
          clear hown2 hyes hb11 HF2 hT10
          rcases HNX.out with ⟨e8, enil⟩ | ⟨e0, elen⟩
          · rw [e8, enil]
            go_wp2_with fail
            refine (HKN.out w11 HB11.out).mono ?_
            rintro e w12 ⟨rfl, hb12⟩
            have HB12 := Lib.hid (HB11.out.trans (hb12.mono HB11.out.size)); clear hb12
            go_wp2_with fail
            first
              | (go_ret2; exact ⟨rfl, HB12.out⟩)
              | (go_ret; exact ⟨rfl, HB12.out⟩)
          · rw [e0, elen]
            have hbq : (((n + 1 : Nat) : Int) == (n : Int) + 1) = true := by simp
            go_wp2_with fail
            refine (HKN.out w11 HB11.out).mono ?_
            rintro e w12 ⟨rfl, hb12⟩
            have HB12 := Lib.hid (HB11.out.trans (hb12.mono HB11.out.size)); clear hb12
            go_wp2_with fail
            first
              | (go_ret2; exact ⟨rfl, HB12.out⟩)
              | (go_ret; exact ⟨rfl, HB12.out⟩)
        · have he := HCO.out.2.1 (by rw [h7]; decide)
          rw [h7, he]
          clear h7 he
          go_wp2_with fail
          refine (HKN.out w8 HB8.out).mono ?_
          rintro e w9 ⟨rfl, hb9⟩
          have HB9 := Lib.hid (HB8.out.trans (hb9.mono HB8.out.size)); clear hb9
          go_wp2_with fail
          first
            | (go_ret2; exact ⟨rfl, HB9.out⟩)
            | (go_ret; exact ⟨rfl, HB9.out⟩)
        · have he := HCO.out.2.1 (by rw [h8]; decide)
          rw [h8, he]
          clear h8 he
          go_wp2_with fail
          refine (HKN.out w8 HB8.out).mono ?_
          rintro e w9 ⟨rfl, hb9⟩
          have HB9 := Lib.hid (HB8.out.trans (hb9.mono HB8.out.size)); clear hb9
          go_wp2_with fail
          first
            | (go_ret2; exact ⟨rfl, HB9.out⟩)
            | (go_ret; exact ⟨rfl, HB9.out⟩)
      · obtain rfl : a' = 0 := by omega
        refine wp_region_qb 33 (by kernel_rfl) (by kernel_rfl) ?_
        simp only [List.take_succ_cons, List.take_zero, List.drop_succ_cons, List.drop_zero]
        repeat (first | ((go_big_quiet_want; refine quiet_load_is 34 _ rfl rfl (by rintro w ⟨d, rfl⟩; exact tl d) ?_; simp only [Act.put, List.setIfInBounds_toArray, List.set_cons_zero, List.set_cons_succ]; go_big_quiet_on)) | go_big_quiet_step ((exact HCK.out _)))
        refine wpQuiet_nil ?_
        intro dq
        have hbd : Below w.heap.size w dq.1 := HB6.out.trans (dq.2.mono HB6.out.size)
        have HKD := Lib.hid (HKN.out dq.1 hbd)
        have HBD := Lib.hid hbd; clear hbd t2 tl k0 k1
        go_wp2_with fail
        refine HKD.out.mono ?_
        rintro e w8 ⟨rfl, hb8⟩
        have HB8 := Lib.hid (HBD.out.trans (hb8.mono HBD.out.size)); clear hb8 HKD
        go_wp2_with fail
        first
          | (go_ret2; exact ⟨rfl, HB8.out⟩)
          | (go_ret; exact ⟨rfl, HB8.out⟩)
    · have HCK : Hid (∀ d : SubW w6, Calls Tryz.prog 13 #[.agg #[.slice pg g.length cg, .slice pk 2 ck, .slice (some ⟨pc, 0, none⟩) 2 cc, .slice none 0 0, .slice none 0 0]] d.1 fun e w' => e = .returned (.int .i64 2) ∧ ∃ d' : SubW w6, w' = d'.1) := Lib.hid fun d => by
        refine (HCKA.out d).mono ?_
        rintro e w' ⟨code, rfl, h1, h2, h3⟩
        rcases h2 with rfl | rfl
        · exact absurd (h1.1 rfl) hok
        · exact ⟨rfl, ⟨w', d.2.trans (h3.mono d.2.size)⟩, rfl⟩
      clear hok
      refine wp_region_qb 33 (by kernel_rfl) (by kernel_rfl) ?_
      simp only [List.take_succ_cons, List.take_zero, List.drop_succ_cons, List.drop_zero]
      repeat (first | ((go_big_quiet_want; refine quiet_load_is 34 _ rfl rfl (by rintro w ⟨d, rfl⟩; exact tl d) ?_; simp only [Act.put, List.setIfInBounds_toArray, List.set_cons_zero, List.set_cons_succ]; go_big_quiet_on)) | go_big_quiet_step ((exact HCK.out _)))
      refine wpQuiet_nil ?_
      intro dq
      have hbd : Below w.heap.size w dq.1 := HB6.out.trans (dq.2.mono HB6.out.size)
      have HKD := Lib.hid (HKN.out dq.1 hbd)
      have HBD := Lib.hid hbd; clear hbd t2 tl k0 k1
      go_wp2_with fail
      refine HKD.out.mono ?_
      rintro e w8 ⟨rfl, hb8⟩
      have HB8 := Lib.hid (HBD.out.trans (hb8.mono HBD.out.size)); clear hb8 HKD
      go_wp2_with fail
      first
        | (go_ret2; exact ⟨rfl, HB8.out⟩)
        | (go_ret; exact ⟨rfl, HB8.out⟩)
  · rw [decide_eq_false h48]
    have HCK := HCKA
    refine wp_region_qb 33 (by kernel_rfl) (by kernel_rfl) ?_
    simp only [List.take_succ_cons, List.take_zero, List.drop_succ_cons, List.drop_zero]
    repeat (first | ((go_big_quiet_want; refine quiet_load_is 34 _ rfl rfl (by rintro w ⟨d, rfl⟩; exact tl d) ?_; simp only [Act.put, List.setIfInBounds_toArray, List.set_cons_zero, List.set_cons_succ]; go_big_quiet_on)) | go_big_quiet_step ((exact HCK.out _)))
    refine wpQuiet_nil ?_
    intro dq
    have hbd : Below w.heap.size w dq.1 := HB6.out.trans (dq.2.mono HB6.out.size)
    have HKD := Lib.hid (HKN.out dq.1 hbd)
    have HBD := Lib.hid hbd; clear hbd t2 tl k0 k1
    go_wp2_with fail
    refine HKD.out.mono ?_
    rintro e w8 ⟨rfl, hb8⟩
    have HB8 := Lib.hid (HBD.out.trans (hb8.mono HBD.out.size)); clear hb8 HKD
    go_wp2_with fail
    first
      | (go_ret2; exact ⟨rfl, HB8.out⟩)
      | (go_ret; exact ⟨rfl, HB8.out⟩)
end Go.Proofs.YtiinlplgloaanaaGreatDoor
