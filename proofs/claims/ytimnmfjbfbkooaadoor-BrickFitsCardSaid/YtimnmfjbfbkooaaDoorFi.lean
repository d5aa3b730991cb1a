/- BrickFits. -/
import Derived.Deep.Slices
import Derived.Test.YtimnmfjbfbkooaaDoorFp
namespace Go.Proofs.YtimnmfjbfbkooaaDoor
set_option linter.all false
set_option linter.unusedSimpArgs false
set_option linter.unusedVariables false
open Go.RowKit
attribute [local go_sem] Oper.semAt_some

theorem index_place (W : World) (a : Addr) {i n c : Nat} (hi : i < n) : (Instr.indexAt 30 (.slice (some a) n c) (.int .i64 i)).run Tryd.prog W = .ok (.pointer (some (a.add (i * 4)))) W := by
  have h1 : (0 : Int) ≤ i ∧ (i : Int) < n := by omega
  simp [go_sem, h1]
theorem load_place {W : World} {a : Addr} {pl : List Plc} (h : PsAt W a pl) {i : Nat} {p : Plc} (hp : pl[i]? = some p) : (Instr.loadAt 37 (.pointer (some (a.add (i * 4))))).run Tryd.prog W = .ok (placeV p.m p.t p.x p.y) W := by
  have c : ∀ j u, (pVals p)[j]? = some u → W.cell? ((a.add (i * 4)).add j) = some u := fun j u hu => by rw [Deep.add_add]; exact h.at_ i p hp j u hu
  have c0 : W.cell? (a.add (i * 4)) = some (.bool p.m) := c 0 _ rfl
  have c1 : W.cell? { block := (a.add (i * 4)).block, off := (a.add (i * 4)).off + 1 } = some (.int .i64 p.t) := c 1 _ rfl
  have c2 : W.cell? { block := (a.add (i * 4)).block, off := (a.add (i * 4)).off + 2 } = some (.int .i64 p.x) := c 2 _ rfl
  have c3 : W.cell? { block := (a.add (i * 4)).block, off := (a.add (i * 4)).off + 3 } = some (.int .i64 p.y) := c 3 _ rfl
  simp [Instr.loadAt, Instr.sureAddr, loadVar, go_sem, c0, c1, c2, c3]
  rfl
def fitI (W0 : World) (v : Value) (vs : List Value) (ls : List (List Q)) (W : World) : Prop := Below W0.heap.size W0 W ∧ OwnQQ W W0.heap.size v vs ls
theorem fitI_below {W0 : World} {v : Value} {vs : List Value} {ls : List (List Q)} {W W' : World} (h : fitI W0 v vs ls W) (e : Below W.heap.size W W') : fitI W0 v vs ls W' := ⟨h.1.trans (e.mono h.1.size), h.2.below e⟩
def fitF (W0 : World) (sv vP : Value) (l : List Q) (a : Addr) (i : Nat) (p : Plc) : Nat → Value → World → Prop
  | 0, u, _ => u = sv
  | 1, u, W => HasQ W u l
  | 2, u, _ => u = vP
  | 3, u, _ => u = .int .i64 i
  | 4, u, _ => u = .pointer (some (a.add (i * 4)))
  | 5, u, _ => u = placeV p.m p.t p.x p.y
  | 8, u, W => OwnQ W W0.heap.size u (putP l p)
  | 9, u, _ => u = .int .i64 0
  | _, u, W => ∃ x, u = .tuple #[x, .int .i64 0] ∧ OwnQ W W0.heap.size x (putP l p)
theorem fitF_below {W0 : World} {sv vP : Value} {l : List Q} {a : Addr} {j : Nat} {p : Plc} (i : Nat) (u : Value) (W W' : World) (h : fitF W0 sv vP l a j p i u W) (e : Below W.heap.size W W') : fitF W0 sv vP l a j p i u W' := by
  unfold fitF at *
  split at h <;> first | exact h | exact HasQ.below h e | exact OwnQ.below h e | skip
  obtain ⟨x, h1, h2⟩ := h
  exact ⟨x, h1, h2.below e⟩
theorem srtQ_nodup {g : List Q} (h : okQ g) : g.Nodup := Srt.nodup h.2

set_option maxRecDepth 100000 in
set_option maxHeartbeats 4000000 in
theorem BrickFits_any (l g : List Q) (sv gv : Value) (n : Int) (hn0 : 0 ≤ n) (hn1 : n ≤ 255) (w : World) (hs : HasQ w sv l) (hg : HasQ w gv g) (hk : KindsAt w) (hsh : w.ShapedOpen Tryd.prog) :
    Calls Tryd.prog 3 #[sv, gv, .int .u8 n] w fun e w' => e = .returned (.bool true) ∧ Below w.heap.size w w' := by
  obtain ⟨sp, sc, rfl⟩ := hs.slice
  obtain ⟨gp, gc, rfl⟩ := hg.slice
  have HS := Lib.hid hs; clear hs
  have HG := Lib.hid hg; clear hg
  have HK := Lib.hid hk; clear hk
  have HSH := Lib.hid hsh; clear hsh
  have HKN := Lib.hid (known_law w HK.out HSH.out)
  by_cases h20 : 20 < l.length
  case pos =>
    go_enter Tryd.func3, Tryd.ntmps3
    go_wp2_with fail
    refine HKN.out.mono ?_
    rintro e w1 ⟨rfl, hB1⟩
    go_wp2_with fail
    go_ret
    exact ⟨rfl, hB1⟩
  by_cases h80 : 80 < g.length
  case pos =>
    go_enter Tryd.func3, Tryd.ntmps3
    go_wp2_with fail
    refine HKN.out.mono ?_
    rintro e w1 ⟨rfl, hB1⟩
    go_wp2_with fail
    go_ret
    exact ⟨rfl, hB1⟩
  clear HKN
  have HO := Lib.hid (own_law l _ w HS.out (by omega))
  go_enter Tryd.func3, Tryd.ntmps3
  go_wp2_with fail
  refine HO.out.mono ?_
  rintro e w1 ⟨u1, rfl, hu1, hB1⟩
  have HC := Lib.hid (check_any l u1 w1 hu1.has)
  clear HO hu1
  go_wp2_with fail
  refine HC.out.mono ?_
  rintro e w2 ⟨rfl, hB2⟩
  have HB := Lib.hid (hB1.trans (hB2.mono hB1.size)); clear hB1 hB2 HC
  by_cases hc : checkN l = 0
  case neg =>
    have hb : ((checkN l : Int) != 0) = true := by simpa using hc
    have HKN := Lib.hid (known_law w2 (HK.out.below HB.out) (shaped_below HSH.out HB.out))
    clear hc
    go_wp2_with fail
    refine HKN.out.mono ?_
    rintro e w3 ⟨rfl, hB3⟩
    have HB3 := Lib.hid (HB.out.trans (hB3.mono HB.out.size))
    go_wp2_with fail
    go_ret
    exact ⟨rfl, HB3.out⟩
  have hb : ((checkN l : Int) != 0) = false := by simpa using hc
  have HCL := Lib.hid hc; clear hc
  have HO := Lib.hid (own_law g _ w2 (HG.out.below HB.out) (by omega))
  go_wp2_with fail
  refine HO.out.mono ?_
  rintro e w3 ⟨u3, rfl, hu3, hB3⟩
  have HC := Lib.hid (check_any g u3 w3 hu3.has)
  clear HO hu3 hb
  go_wp2_with fail
  refine HC.out.mono ?_
  rintro e w4 ⟨rfl, hB4⟩
  have HB4 := Lib.hid (HB.out.trans ((hB3.trans (hB4.mono hB3.size)).mono HB.out.size)); clear hB3 hB4 HC HB
  by_cases hc : checkN g = 0
  case neg =>
    have hb : ((checkN g : Int) != 0) = true := by simpa using hc
    have HKN := Lib.hid (known_law w4 (HK.out.below HB4.out) (shaped_below HSH.out HB4.out))
    clear hc
    go_wp2_with fail
    refine HKN.out.mono ?_
    rintro e w3 ⟨rfl, hB3⟩
    have HB3 := Lib.hid (HB4.out.trans (hB3.mono HB4.out.size))
    go_wp2_with fail
    go_ret
    exact ⟨rfl, HB3.out⟩
  have hb : ((checkN g : Int) != 0) = false := by simpa using hc
  have HCG := Lib.hid hc; clear hc
  have hmm := @run_makeMap Tryd.prog
  go_wp2_with fail
  clear hmm hb
  have hM0 := HasM.made w4 Q.val
  have hn4 := HB4.out.size
  have HB5 := Lib.hid (HB4.out.alloc HB4.out.size (.map #[] 0)); clear HB4
  revert HB5 hM0
  generalize hW5 : w4.alloc (.map #[] 0) = w5
  intro hM0 HB5
  have hsz5 : w5.heap.size = w4.heap.size + 1 := by rw [← hW5]; simp
  clear hW5
  have hm5 : w4.heap.size < w5.heap.size := by omega
  clear hsz5
  revert hM0 hn4 hm5
  generalize w4.heap.size = m0
  intro hn4 hM0 hm5
  have HM0 := Lib.hid hM0; clear hM0
  have HGOK := Lib.hid (checkN_ok HCG.out)
  go_loopw [8] (fun z wr => ∃ k : Nat, k ≤ g.length ∧ z = .int .i64 k ∧ Hid (HasM Q.val wr m0 (setM (g.take k)) ∧ Below w.heap.size w wr ∧ m0 < wr.heap.size)) (fun z _ => g.length - (intOf z).toNat)
  case atStart => exact ⟨0, by omega, rfl, Lib.hid ⟨HM0.out, HB5.out, hm5⟩⟩
  case round =>
    obtain ⟨k, hk, rfl, HR⟩ := hrel
    by_cases hlt : k < g.length
    · obtain ⟨q, hqk⟩ : ∃ q, g[k]? = some q := ⟨_, List.getElem?_eq_getElem hlt⟩
      obtain ⟨a, rfl, hqs⟩ : ∃ a, gp = some a ∧ QsAt w a g := by
        rcases HG.out with ⟨_, h⟩ | ⟨a, c, h1, _, _, h2⟩
        · rw [h] at hlt; cases hlt
        · simp only [Value.slice.injEq] at h1; exact ⟨a, h1.1, h2⟩
      have hs2 := hqs.below HR.out.2.1
      have c0 := hs2.at0 k q hqk
      have c1 := hs2.at1 k q hqk
      have c2 := hs2.at2 k q hqk
      have hin : inQ q := HGOK.out.1.1 q (List.mem_of_getElem? hqk)
      have hnot : q ∉ g.take k := by
        have := nodup_at (A := []) hqk (by simpa using srtQ_nodup HGOK.out.1)
        simpa using this
      have hup := run_update_miss encQ Tryd.underlying27 HR.out.1 (fun p hp => HGOK.out.1.1 _ (List.mem_of_mem_take (mem_setM.1 hp).1)) hin (fun p hp e => hnot (by rw [← e]; exact (mem_setM.1 hp).1)) (.bool true)
      have hsm : setM (g.take k) ++ [(q, Value.bool true)] = setM (g.take (k + 1)) := by rw [take_snoc' hqk]; simp [setM]
      rw [hsm] at hup
      have HN : Hid (HasM Q.val (putM Q.val wr m0 (setM (g.take (k + 1)))) m0 (setM (g.take (k + 1))) ∧ Below w.heap.size w (putM Q.val wr m0 (setM (g.take (k + 1)))) ∧ m0 < (putM Q.val wr m0 (setM (g.take (k + 1)))).heap.size) := Lib.hid ⟨HasM.put HR.out.1.lt _, HR.out.2.1.trans (putM_below wr hn4 _), by rw [putM_size]; exact HR.out.2.2⟩
      revert hup HN
      generalize putM Q.val wr m0 (setM (g.take (k + 1))) = w6
      intro hup HN
      clear hnot hsm hs2 hqs hqk hin HR
      obtain ⟨x, y, s⟩ := q
      unfold Q.val at hup
      go_wp2_with fail
      go_roundw
      case rel => exact ⟨k + 1, by omega, by go_num, HN⟩
      case measure => simp [intOf]; omega
    · obtain rfl : k = g.length := by omega
      have hF := HR.out
      rw [List.take_length] at hF
      have HF := Lib.hid hF; clear hF HR HM0 HB5 hm5
      have HO := Lib.hid (own_law l _ wr (HS.out.below HF.out.2.1) (by omega))
      go_wp2_with fail
      refine HO.out.mono ?_
      rintro e w6 ⟨u6, rfl, hu6, hB6⟩
      have HU6 := Lib.hid hu6.has
      have HB6 := Lib.hid (HF.out.2.1.trans (hB6.mono HF.out.2.1.size))
      have HM6 := Lib.hid (HF.out.1.below hB6)
      clear HO hu6 hB6 HF
      have HO := Lib.hid (own_law g _ w6 (HG.out.below HB6.out) (by omega))
      go_wp2_with fail
      refine HO.out.mono ?_
      rintro e w7 ⟨u7, rfl, hu7, hB7⟩
      have HP := Lib.hid (Places_any l g _ _ w7 (HU6.out.below hB7) hu7.has)
      have HB7 := Lib.hid (HB6.out.trans (hB7.mono HB6.out.size))
      have HM7 := Lib.hid (HM6.out.below hB7)
      clear HO hu7 hB7 HB6 HM6 HU6
      go_wp2_with fail
      refine HP.out.mono ?_
      rintro e w8 ⟨v8, rfl, hp8, hB8⟩
      rw [fits_ok HCL.out HCG.out] at hp8 ⊢
      have HB8 := Lib.hid (HB7.out.trans (hB8.mono HB7.out.size))
      have HM8 := Lib.hid (HM7.out.below hB8)
      simp only at hp8
      obtain ⟨pp, pc, rfl⟩ := hp8.slice
      have HP8 := Lib.hid hp8
      have HPL := Lib.hid (placesL_le l g)
      clear hp8 hB8 HP HB7 HM7
      go_wp2_with fail
      have hal : Below w8.heap.size w8 (w8.alloc (.cells #[] 22)) := (Below.refl _ w8).alloc (Nat.le_refl _) _
      have hI0 : fitI w8 (.slice (some ⟨w8.heap.size, 0, none⟩) 0 0) [] [] (w8.alloc (.cells #[] 22)) := ⟨hal, ⟨⟨rfl, .inr ⟨w8.heap.size, 0, #[], rfl, Nat.le_refl _, World.alloc_heap_new w8 _, Nat.le_refl _, by decide, rfl, rfl⟩⟩, rfl, fun i u m h => by simp at h⟩⟩
      have HI0 := Lib.hid hI0; clear hI0 hal
      revert HI0
      generalize w8.alloc (.cells #[] 22) = W0
      generalize (Value.slice (some ⟨w8.heap.size, 0, none⟩) 0 0) = v0
      intro HI0
      have HPT : Hid (∀ p ∈ placesL l g, putC l p.m p.t p.x p.y = (putP l p, 0) ∧ (putP l p).length = l.length ∧ ∀ q ∈ putP l p, q ∈ g) := Lib.hid fun p hp => put_place HCL.out hp
      have HNE : Hid (∀ (i j : Nat) (p r : Plc), (placesL l g)[i]? = some p → (placesL l g)[j]? = some r → i ≠ j → putP l p ≠ putP l r) := Lib.hid fun i j p r => place_ne (checkN_ok HCL.out).2.1
      have hpl := HPL.out
      have hpw : (placesL l g).length ≤ 2312 := hpl
      clear hpl HPL
      have HIMG : Hid (∀ (b : Bool) (t : Nat), t < 4 → putC l b t 0 0 = (imgL b t l, 0) ∧ (placesC (imgL b t l) g).2 = 0 ∧ (placesC (imgL b t l) g).1.length = (placesL l g).length) := Lib.hid fun b t ht => ⟨put_corner HCL.out b ht, fits_image HCL.out HCG.out b ht⟩
      revert HP8 HPT HNE HIMG hpw
      generalize placesL l g = pl
      intro HP8 HPT HNE hpw HIMG
      have hl20 : l.length ≤ 20 := by omega
      go_loopw [11, 12] (fun v z wr => ∃ (k : Nat) (vs : List Value), k ≤ pl.length ∧ z = .int .i64 k ∧ Hid (fitI w8 v vs ((pl.take k).map (putP l)) wr)) (fun _ z _ => pl.length - (intOf z).toNat)
      case atStart => exact ⟨0, [], by omega, rfl, HI0⟩
      case round =>
        obtain ⟨k, vs, hk, rfl, HR⟩ := hrel
        have hvl : vs.length = k := by rw [HR.out.2.len, List.length_map, List.length_take]; omega
        obtain ⟨p', c', rfl⟩ := own_slice HR.out.2.row
        rw [hvl] at HR ⊢
        have HVL := Lib.hid hvl; clear hvl
        by_cases hlt : k < pl.length
        · obtain ⟨p, hpk⟩ : ∃ p, pl[k]? = some p := ⟨_, List.getElem?_eq_getElem hlt⟩
          obtain ⟨ap, rfl, hps⟩ : ∃ a, pp = some a ∧ PsAt w8 a pl := by
            rcases HP8.out with ⟨_, h⟩ | ⟨a, c, h1, _, _, h2⟩
            · rw [h] at hlt; cases hlt
            · simp only [Value.slice.injEq] at h1; exact ⟨a, h1.1, h2⟩
          obtain ⟨hput, hplen, hpin⟩ := HPT.out p (List.mem_of_getElem? hpk)
          have HPS := Lib.hid hps; clear hps
          have HPK := Lib.hid hpk; clear hpk
          have HPUT := Lib.hid hput; clear hput
          have HPLEN := Lib.hid hplen; clear hplen
          have HPIN := Lib.hid hpin; clear hpin
          go_wp2_with fail
          refine wp_region_held 10 173 [9] (by kernel_rfl) (by kernel_rfl) rfl (fitI w8 (.slice p' k c') vs ((pl.take k).map (putP l))) (fitF w8 (.slice sp l.length sc) (.slice (some ap) pl.length pc) l ap k p) (fun _ _ => fitI_below) fitF_below (fitI_below HR.out (below_drewN _ wr 1)) ?_ ?_
          · simp only [List.take_succ_cons, List.take_zero, heldFrom, heldAt]
            refine ⟨?_, ?_, ?_, ?_, ?_, ?_, ?_, ?_, ?_, ?_, trivial⟩
            · intro b W vals K hI
              exact lu_move rfl ⟨Below.refl _ _, K.was 0 (by kernel_rfl)⟩
            · intro b W vals K hI
              obtain ⟨e, f⟩ := K.val 0 73 (by kernel_rfl)
              have f' : vals 0 = .slice sp l.length sc := f
              refine lu_call (args := #[.slice sp l.length sc]) rfl (by simp only [List.map_toArray, List.map_cons, List.map_nil, e, f']) (enters_of Tryd.func6 (by kernel_rfl) rfl) ((own_law l _ W (HS.out.below (HB8.out.trans (hI.1.mono HB8.out.size))) (by omega)).mono ?_)
              rintro e w' ⟨u, rfl, hu, hb⟩
              exact ⟨_, rfl, hb, hu.has⟩
            · intro b W vals K hI
              exact lu_move rfl ⟨Below.refl _ _, K.was 9 (by kernel_rfl)⟩
            · intro b W vals K hI
              exact lu_move rfl ⟨Below.refl _ _, K.was 12 (by kernel_rfl)⟩
            · intro b W vals K hI
              obtain ⟨e1, f1⟩ := K.val 2 75 (by kernel_rfl)
              obtain ⟨e2, f2⟩ := K.val 3 76 (by kernel_rfl)
              have g1 : vals 2 = .slice (some ap) pl.length pc := f1
              have g2 : vals 3 = .int .i64 k := f2
              refine lu_v (I := Instr.indexAt 30 (b.eval (.tmp 75)) (b.eval (.tmp 76))) rfl ?_ ⟨Below.refl _ _, rfl⟩
              rw [e1, e2, g1, g2]; exact index_place W ap hlt
            · intro b W vals K hI
              obtain ⟨e, f⟩ := K.val 4 77 (by kernel_rfl)
              have f' : vals 4 = .pointer (some (ap.add (k * 4))) := f
              refine lu_v (I := Instr.loadAt 37 (b.eval (.tmp 77))) rfl ?_ ⟨Below.refl _ _, rfl⟩
              rw [e, f']; exact load_place (HPS.out.below hI.1) HPK.out
            · intro b W vals K hI
              obtain ⟨e1, f1⟩ := K.val 1 74 (by kernel_rfl)
              obtain ⟨e2, f2⟩ := K.val 5 78 (by kernel_rfl)
              have g1 : HasQ W (vals 1) l := f1
              have g2 : vals 5 = placeV p.m p.t p.x p.y := f2
              refine lu_call (args := #[vals 1, placeV p.m p.t p.x p.y]) rfl (by simp only [List.map_toArray, List.map_cons, List.map_nil, e1, e2, g2]) (enters_of Tryd.func9 (by kernel_rfl) rfl) ((put_any l (vals 1) p.m p.t p.x p.y W g1).mono ?_)
              rintro e w' ⟨u, rfl, hu, hb⟩
              rw [HPUT.out] at hu ⊢
              exact ⟨_, rfl, hb, u, rfl, OwnQ.mono hu hI.1.size⟩
            · intro b W vals K hI
              obtain ⟨e, f⟩ := K.val 6 79 (by kernel_rfl)
              have f' : ∃ x, vals 6 = .tuple #[x, .int .i64 0] ∧ OwnQ W w8.heap.size x (putP l p) := f
              obtain ⟨x, h1, h2⟩ := f'
              exact lu_move rfl ⟨Below.refl _ _, x, e.trans h1, h2⟩
            · intro b W vals K hI
              obtain ⟨e, f⟩ := K.val 7 72 (by kernel_rfl)
              have f' : ∃ x, vals 7 = .tuple #[x, .int .i64 0] ∧ OwnQ W w8.heap.size x (putP l p) := f
              obtain ⟨x, h1, h2⟩ := f'
              refine lu_v (I := Instr.extract (b.eval (.tmp 72)) 0) (u := x) rfl ?_ ⟨Below.refl _ _, h2⟩
              rw [e, h1]; exact run_extract_tuple rfl _
            · intro b W vals K
              obtain ⟨e, f⟩ := K.val 7 72 (by kernel_rfl)
              have f' : ∃ x, vals 7 = .tuple #[x, .int .i64 0] ∧ OwnQ W w8.heap.size x (putP l p) := f
              obtain ⟨x, h1, h2⟩ := f'
              refine pure_v (I := Instr.extract (b.eval (.tmp 72)) 1) rfl (fun W => ?_) (fun _ => rfl)
              rw [e, h1]; exact run_extract_tuple rfl _
          · intro W vals hI hf
            have g8 : OwnQ W w8.heap.size (vals 8) (putP l p) := hf 8 (by decide)
            have g9 : vals 9 = .int .i64 0 := hf 9 (by decide)
            obtain ⟨xp, xc, hx⟩ := own_slice g8
            rw [hx] at g8
            rw [HPLEN.out] at hx
            simp only [List.take_succ_cons, List.take_zero, List.range_succ, List.range_zero, List.nil_append, List.cons_append, List.map_cons, List.map_nil, putAll, Act.put, List.setIfInBounds_toArray, List.set_cons_zero, List.set_cons_succ, hx, g9]
            show wpActs _ _ _ _ 0 [10, 11] _ _
            refine acts_assign (i := 10) (x := .tmp 80) rfl rfl rfl trivial ?_
            refine acts_assign (i := 11) (x := .tmp 81) rfl rfl rfl trivial ?_
            refine acts_nil ?_
            have HX := Lib.hid g8
            have HI := Lib.hid hI
            clear g8 g9 hx hf hI HR
            have hM := HM8.out.below (HI.out.1)
            have hxs : ∀ j q, (putP l p)[j]? = some q → ∃ a, xp = some a ∧ QsAt W a (putP l p) := fun j q hq => by
              rcases HX.out.has with ⟨_, h⟩ | ⟨a, c, h1, _, _, h2⟩
              · have h0 : (putP l p).length = 0 := by rw [h]; rfl
                have := (List.getElem?_eq_some_iff.1 hq).1
                omega
              · simp only [Value.slice.injEq] at h1; exact ⟨a, h1.1, h2⟩
            have HXS := Lib.hid hxs; clear hxs
            have HM := Lib.hid hM; clear hM
            go_wp2_with fail
            go_loop [15] (fun z => ∃ j : Nat, j ≤ l.length ∧ z = .int .i64 j) (fun z => l.length - (intOf z).toNat)
            case atStart => exact ⟨0, by omega, rfl⟩
            case round =>
              obtain ⟨j, hj, rfl⟩ := hrel
              by_cases hlj : j < l.length
              · obtain ⟨q, hqj⟩ : ∃ q, (putP l p)[j]? = some q := ⟨_, List.getElem?_eq_getElem (by rw [HPLEN.out]; exact hlj)⟩
                obtain ⟨ax, rfl, hqs⟩ := HXS.out j q hqj
                have c0 := hqs.at0 j q hqj
                have c1 := hqs.at1 j q hqj
                have c2 := hqs.at2 j q hqj
                have hlook := run_lookup_hit encQ Tryd.underlying27 HM.out (fun p hp => HGOK.out.1.1 _ (mem_setM.1 hp).1) (by rw [setM_keys]; exact srtQ_nodup HGOK.out.1) (mem_setM.2 ⟨HPIN.out q (List.mem_of_getElem? hqj), rfl⟩ : (q, Value.bool true) ∈ setM g) false
                clear hqj hqs
                obtain ⟨x, y, s⟩ := q
                unfold Q.val at hlook
                go_wp2_with fail
                go_round
                case rel => exact ⟨j + 1, by omega, by go_num⟩
                case measure => simp [intOf]; omega
              · obtain rfl : j = l.length := by omega
                go_wp2_with fail
                go_loopw [16] (fun z wr => ∃ j : Nat, j ≤ k ∧ z = .int .i64 j ∧ Hid (fitI w8 (.slice p' k c') vs ((pl.take k).map (putP l)) wr ∧ OwnQ wr w8.heap.size (.slice xp (putP l p).length xc) (putP l p))) (fun z _ => k - (intOf z).toNat)
                case atStart => exact ⟨0, by omega, rfl, Lib.hid ⟨HI.out, HX.out⟩⟩
                case round =>
                  obtain ⟨j, hj, rfl, HR⟩ := hrel
                  by_cases hlj : j < k
                  · obtain ⟨u, hu⟩ : ∃ u, vs[j]? = some u := ⟨_, List.getElem?_eq_getElem (by rw [HVL.out]; exact hlj)⟩
                    obtain ⟨r, hr⟩ : ∃ r, pl[j]? = some r := ⟨_, List.getElem?_eq_getElem (by omega)⟩
                    have hlr : ((pl.take k).map (putP l))[j]? = some (putP l r) := by rw [List.getElem?_map, List.getElem?_take_of_lt hlj, hr]; rfl
                    have hqu := (HR.out.1.2.each j u _ hu hlr).has
                    obtain ⟨gb, rfl⟩ : ∃ g, p' = some ⟨g, 0, none⟩ := by
                      rcases HR.out.1.2.row.2 with ⟨_, h0⟩ | ⟨g, cap, cur, hv, _⟩
                      · have := HVL.out; omega
                      · simp only [Value.slice.injEq] at hv; exact ⟨g, hv.1⟩
                    have hrow : wr.ownsRow w8.heap.size 22 1 (.slice (some ⟨gb, 0, none⟩) k c') vs.length vs := HR.out.1.2.row
                    have c0 := World.ownsRow.cells hrow (g := gb) rfl j u hu
                    rw [add_at] at c0
                    have hne := HNE.out j k r p hr HPK.out (by omega)
                    obtain ⟨up, uc, rfl⟩ := hqu.slice
                    have HEQ := Lib.hid (equal_law (putP l r) (putP l p) _ _ wr hqu HR.out.2.has)
                    rw [HPLEN.out] at HEQ
                    have HNEQ : Hid (decide (putP l r = putP l p) = false) := Lib.hid (decide_eq_false hne)
                    clear hne hrow hqu hlr hu hr
                    go_wp2_with fail
                    refine HEQ.out.mono ?_
                    rintro e w9 ⟨rfl, hB9⟩
                    rw [HNEQ.out]
                    have HN : Hid (fitI w8 (.slice (some ⟨gb, 0, none⟩) k c') vs ((pl.take k).map (putP l)) w9 ∧ OwnQ w9 w8.heap.size (.slice xp (putP l p).length xc) (putP l p)) := Lib.hid ⟨fitI_below HR.out.1 hB9, HR.out.2.below hB9⟩
                    clear hB9 c0 HEQ HR
                    go_wp2_with fail
                    go_roundw
                    case rel => exact ⟨j + 1, by omega, by go_num, HN⟩
                    case measure => simp [intOf]; omega
                  · obtain rfl : j = k := by omega
                    have HQ3 := Lib.hid HR.out.1.2
                    have HU3 := Lib.hid HR.out.2
                    have HB3 := Lib.hid HR.out.1.1
                    have HROW : Hid (wr.ownsRow w8.heap.size 22 1 (.slice p' j c') vs.length vs) := Lib.hid HR.out.1.2.row
                    rw [HVL.out] at HROW
                    rw [HPLEN.out] at HU3
                    clear HR
                    have HM1 : Hid (j + 1 ≤ maxLen) := Lib.hid (by simp only [maxLen]; omega)
                    have HM2 : Hid ((j + 1) * 24 ≤ 140737488355328) := Lib.hid (by omega)
                    have hsz3 := HB3.out.size
                    obtain ⟨iQ, hiQ, hzQ, hsQ, hbQ⟩ := info_parts infoQs
                    go_wp2_with (first
                      | (at_builtin; refine wpList_append_own _ rfl _ _ 33 rfl w8.heap.size 22 iQ _ 1 24 Tryd.underlying33 hiQ hzQ hsQ hbQ rfl (by decide) (.slice p' j c') j vs rfl (HROW.out.alloc _) ⟨wr.heap.size, 0, none⟩ 1 1 [.slice xp l.length xc] rfl rfl (one_at _ _ _) (by simp [Value.oneCell']) HM1.out HM2.out (by rw [World.size_alloc]; omega) ?_; intro v' w4 hown' hgrow _; obtain ⟨p'', c'', rfl⟩ := own_slice hown'))
                    have hown2 : w4.ownsRow w8.heap.size 22 1 (.slice p'' (j + 1) c'') (vs.length + 1) (vs ++ [.slice xp l.length xc]) := by rw [HVL.out]; exact hown'
                    have hq4 := HQ3.out.snoc HU3.out hown2 hgrow
                    have hga : wr.grownBy w4 (Value.slice p' j c').ownBlock := ⟨hgrow.os, hgrow.tape, hgrow.output, Nat.le_trans (by simp) hgrow.size, fun k hk hne => (hgrow.block k (by simp; omega) hne).trans (Below.heap_alloc _ _ _ hk)⟩
                    have hrow : ∀ k, (Value.slice p' j c').ownBlock = some k → w8.heap.size ≤ k := fun k hk => (HROW.out.lt k hk).1
                    have hls : (pl.take j).map (putP l) ++ [putP l p] = (pl.take (j + 1)).map (putP l) := by rw [take_snoc' HPK.out]; simp
                    rw [hls] at hq4
                    have HQ4 : Hid (fitI w8 (.slice p'' (j + 1) c'') (vs ++ [.slice xp l.length xc]) ((pl.take (j + 1)).map (putP l)) w4) := Lib.hid ⟨HB3.out.grown hga hsz3 hrow, hq4⟩
                    clear hq4 hga hrow hls hown2 hown' hgrow
                    go_roundw
                    case rel => exact ⟨j + 1, _, by omega, by go_num, HQ4⟩
                    case measure => simp [intOf]; omega
        · obtain rfl : k = pl.length := by omega
          have HBR := Lib.hid (HB8.out.trans (HR.out.1.mono HB8.out.size))
          clear HR HVL
          have HO := Lib.hid (own_law l _ wr (HS.out.below HBR.out) (by omega))
          have ht4 : (n % 4).toNat < 4 := by omega
          have ht0 : 0 ≤ n % 4 := by omega
          have ht3 : n % 4 < 4 := by omega
          obtain ⟨himg, hz, hzl⟩ := HIMG.out (decide (3 < n % 8)) (n % 4).toNat ht4
          rw [show (((n % 4).toNat : Nat) : Int) = n % 4 by omega] at himg
          have HI1 := Lib.hid himg; clear himg
          have HI2 := Lib.hid hz; clear hz
          have HI3 := Lib.hid hzl; clear hzl
          have HSF := Lib.hid (fits_self HCL.out)
          clear ht4
          go_wp2_with fail
          refine HO.out.mono ?_
          rintro e w9 ⟨u9, rfl, hu9, hB9⟩
          have HPU := Lib.hid (put_any l u9 (decide (3 < n % 8)) (n % 4) 0 0 w9 hu9.has)
          have HB9 := Lib.hid (HBR.out.trans (hB9.mono HBR.out.size))
          clear HO hu9 hB9 HBR
          unfold placeV at HPU
          go_wp2_with fail
          refine HPU.out.mono ?_
          rintro e w10 ⟨u10, rfl, hu10, hB10⟩
          rw [HI1.out] at hu10 ⊢
          have HU10 := Lib.hid hu10.has
          have HB10 := Lib.hid (HB9.out.trans (hB10.mono HB9.out.size))
          clear HPU hu10 hB10 HB9
          have HO := Lib.hid (own_law g _ w10 (HG.out.below HB10.out) (by omega))
          go_wp2_with fail
          refine HO.out.mono ?_
          rintro e w11 ⟨u11, rfl, hu11, hB11⟩
          have HPC := Lib.hid (Places_any (imgL (decide (3 < n % 8)) (n % 4).toNat l) g _ _ w11 (HU10.out.below hB11) hu11.has)
          have HB11 := Lib.hid (HB10.out.trans (hB11.mono HB10.out.size))
          clear HO hu11 hB11 HB10
          go_wp2_with fail
          refine HPC.out.mono ?_
          rintro e w12 ⟨u12, rfl, hu12, hB12⟩
          rw [HI2.out]
          obtain ⟨p12, c12, rfl⟩ := hu12.slice
          rw [HI3.out]
          have HB12 := Lib.hid (HB11.out.trans (hB12.mono HB11.out.size))
          clear HPC hu12 hB12 HB11
          have HO := Lib.hid (own_law l _ w12 (HS.out.below HB12.out) (by omega))
          go_wp2_with fail
          refine HO.out.mono ?_
          rintro e w13 ⟨u13, rfl, hu13, hB13⟩
          have HU13 := Lib.hid hu13.has
          have HB13 := Lib.hid (HB12.out.trans (hB13.mono HB12.out.size))
          clear HO hu13 hB13 HB12
          have HO := Lib.hid (own_law l _ w13 (HS.out.below HB13.out) (by omega))
          go_wp2_with fail
          refine HO.out.mono ?_
          rintro e w14 ⟨u14, rfl, hu14, hB14⟩
          have HPC := Lib.hid (Places_any l l _ _ w14 (HU13.out.below hB14) hu14.has)
          have HB14 := Lib.hid (HB13.out.trans (hB14.mono HB13.out.size))
          clear HO hu14 hB14 HB13 HU13
          go_wp2_with fail
          refine HPC.out.mono ?_
          rintro e w15 ⟨u15, rfl, hu15, hB15⟩
          rw [HSF.out.1]
          obtain ⟨p15, c15, rfl⟩ := hu15.slice
          rw [HSF.out.2]
          have HB15 := Lib.hid (HB14.out.trans (hB15.mono HB14.out.size))
          clear HPC hu15 hB15 HB14
          have HKN := Lib.hid (known_law w15 (HK.out.below HB15.out) (shaped_below HSH.out HB15.out))
          go_wp2_with fail
          refine HKN.out.mono ?_
          rintro e w16 ⟨rfl, hB16⟩
          have HB16 := Lib.hid (HB15.out.trans (hB16.mono HB15.out.size))
          go_wp2_with fail
          go_ret
          exact ⟨rfl, HB16.out⟩
end Go.Proofs.YtimnmfjbfbkooaaDoor
