/- Parse and Kind: the shape is the call's own (printed by mkown.py out of the two walks). -/
import Derived.Test.YtiinlplgloaanaaGreatDoorZzTopHalved00

/- Parse and Kind: the shape is the call's own (printed by mkown.py out of the two walks). -/
namespace Go.Proofs.YtiinlplgloaanaaGreatDoor
set_option linter.all false
set_option linter.unusedSimpArgs false
set_option linter.unusedVariables false
open Go.RowKit
attribute [local go_sem] Oper.semAt_some

set_option maxRecDepth 100000 in
set_option maxHeartbeats 4000000 in
theorem Parse_own (s : ByteArray) (w : World) (hsh : w.ShapedOpen Tryz.prog) :
    Calls Tryz.prog 36 #[.string s] w fun e w' => ∃ u, e = .returned (.tuple #[u, .int .i64 (parseC s.data.toList).2]) ∧ OwnQ w' w.heap.size u (parseC s.data.toList).1 ∧ Below w.heap.size w w' := by
  have HSH := Lib.hid hsh; clear hsh
  have hsize : s.data.toList.length = s.size := Array.length_toList
  by_cases h272 : 272 < s.size
  case pos =>
    have HC : Hid (parseC s.data.toList = ([], 5)) := Lib.hid (by rw [parseC, if_pos (by rw [hsize]; exact h272)])
    clear hsize
    go_enter Tryz.func36, Tryz.ntmps36
    go_wp2_with fail
    go_ret2
    exact ⟨.slice none 0 0, by rw [HC.out]; rfl, by rw [HC.out]; exact OwnQ.nil _ _, Below.refl _ _⟩
  have HN := Lib.hid hsize; clear hsize
  have HSP := Lib.hid (Tryz.strings_Split_shaped s ⟨#[47]⟩ w HSH.out (by omega) (by decide))
  go_enter Tryz.func36, Tryz.ntmps36
  go_wp2_with fail
  refine HSP.out.mono ?_
  rintro e w1 ⟨rfl, rfl⟩
  have hRl : (Lib.splitB ⟨#[47]⟩ 0 (Lib.countB s ⟨#[47]⟩) s).length = Lib.countB s ⟨#[47]⟩ + 1 := Lib.splitB_all ⟨#[47]⟩ (by decide) 0 _ s rfl
  have hRs := rows_spl s
  clear HSP
  revert hRl hRs
  generalize Lib.splitB ⟨#[47]⟩ 0 (Lib.countB s ⟨#[47]⟩) s = R
  generalize Lib.countB s ⟨#[47]⟩ = m
  intro hRl hRs
  have HRS := Lib.hid hRs; clear hRs
  have hn : m + 1 = R.length := hRl.symm
  rw [hn]
  clear hRl hn
  have hB1 : Below w.heap.size w (w.alloc (.cells (R.map Value.string).toArray 9)) := (Below.refl _ w).alloc (Nat.le_refl _) _
  have hX1 : (w.alloc (.cells (R.map Value.string).toArray 9)).heap[w.heap.size]? = some (.cells (R.map Value.string).toArray 9) := World.alloc_heap_new w _
  revert hB1 hX1
  generalize w.alloc (.cells (R.map Value.string).toArray 9) = w1
  intro hB1 hX1
  have hlenR : (spl s.data.toList).length = R.length := by rw [← HRS.out, List.length_map]
  by_cases h16 : 16 < R.length
  case pos =>
    have HC : Hid (parseC s.data.toList = ([], 4)) := Lib.hid (parse_bad (by rw [HN.out]; exact h272) (fun h => by have := h.1; omega))
    clear hlenR
    go_wp2_with fail
    go_ret2
    exact ⟨.slice none 0 0, by rw [HC.out]; rfl, by rw [HC.out]; exact OwnQ.nil _ _, hB1⟩
  have HLR := Lib.hid hlenR; clear hlenR
  go_wp2_with fail
  have hG2 := HasG.new w1 zeroG
  rw [← gridA_zero'] at hG2
  have hX2 := heapO (.cells Tryz.zeroCells120 120) hX1
  have hB2 := hB1.alloc hB1.size (.cells Tryz.zeroCells120 120)
  have hgb : w.heap.size < w1.heap.size := (Array.getElem?_eq_some_iff.1 hX1).1
  clear hX1 hB1
  revert hG2 hX2 hB2 hgb
  generalize w1.alloc (.cells Tryz.zeroCells120 120) = w2
  generalize w1.heap.size = gb
  intro hG2 hX2 hB2 hgb
  have H2 := Lib.hid (And.intro hG2 (And.intro hX2 hB2))
  clear hG2 hX2 hB2
  go_loopw [22] (fun u wr => ∃ k : Nat, k ≤ R.length ∧ u = .int .i64 k ∧ Hid (HasG wr gb (rdG (spl s.data.toList) k 0) ∧ wr.heap[w.heap.size]? = some (.cells (R.map Value.string).toArray 9) ∧ Below w.heap.size w wr ∧ (∀ r ∈ (spl s.data.toList).take k, r.length ≤ 16 ∧ ∀ c ∈ r, 0 ≤ rdC c))) (fun u _ => R.length - (intOf u).toNat)
  case atStart => exact ⟨0, by omega, rfl, Lib.hid ⟨by rw [rdG_zero]; exact H2.out.1, H2.out.2.1, H2.out.2.2, fun r hr => by simp at hr⟩⟩
  case round =>
    obtain ⟨k, hk, rfl, HR⟩ := hrel
    by_cases hlt : k < R.length
    · obtain ⟨row, hrow⟩ : ∃ row, R[k]? = some row := ⟨_, List.getElem?_eq_getElem hlt⟩
      have hrs : (spl s.data.toList)[k]? = some row.data.toList := by rw [← HRS.out, List.getElem?_map, hrow]; rfl
      have HROW := Lib.hid hrs; clear hrs
      have hX := HR.out.2.1
      have c0 : wr.cell? ⟨w.heap.size, k, none⟩ = some (.string row) := by
        simp [World.cell?, hX, hrow]
      clear hX hrow
      have hsz : row.data.toList.length = row.size := Array.length_toList
      by_cases hr16 : 16 < row.size
      · have HC : Hid (parseC s.data.toList = ([], 4)) := Lib.hid (parse_bad (by rw [HN.out]; exact h272) (fun h => by
          have := (h.2 _ (List.mem_of_getElem? HROW.out)).1
          omega))
        have HBF := Lib.hid HR.out.2.2.1
        clear hsz
        go_wp2_with fail
        go_ret2
        exact ⟨.slice none 0 0, by rw [HC.out]; rfl, by rw [HC.out]; exact OwnQ.nil _ _, HBF.out⟩
      · have HSZ := Lib.hid hsz; clear hsz
        have hcv := run_bytes_of_string wr 9 37 5 row Tryz.underlying9 Tryz.underlying37 Tryz.underlying5
        go_wp2_with fail
        clear hcv c0
        have hBy : ((wr.alloc (.cells (bytesRow row (grownCap wr row.size 0 5)) 5 ((bytesRow row (grownCap wr row.size 0 5)).size, (bytesRow row (grownCap wr row.size 0 5)).size + 1))).drew).heap[wr.heap.size]? = some (.cells (bytesRow row (grownCap wr row.size 0 5)) 5 ((bytesRow row (grownCap wr row.size 0 5)).size, (bytesRow row (grownCap wr row.size 0 5)).size + 1)) := World.alloc_heap_new wr _
        have hdr : Below wr.heap.size wr ((wr.alloc (.cells (bytesRow row (grownCap wr row.size 0 5)) 5 ((bytesRow row (grownCap wr row.size 0 5)).size, (bytesRow row (grownCap wr row.size 0 5)).size + 1))).drew) := ((Below.refl _ wr).alloc (Nat.le_refl _) _).trans (below_drewN _ _ 1)
        have hbb : gb < wr.heap.size := HR.out.1.lt
        have HR3 : Hid (HasG ((wr.alloc (.cells (bytesRow row (grownCap wr row.size 0 5)) 5 ((bytesRow row (grownCap wr row.size 0 5)).size, (bytesRow row (grownCap wr row.size 0 5)).size + 1))).drew) gb (rdG (spl s.data.toList) k 0) ∧ ((wr.alloc (.cells (bytesRow row (grownCap wr row.size 0 5)) 5 ((bytesRow row (grownCap wr row.size 0 5)).size, (bytesRow row (grownCap wr row.size 0 5)).size + 1))).drew).heap[w.heap.size]? = some (.cells (R.map Value.string).toArray 9) ∧ Below w.heap.size w ((wr.alloc (.cells (bytesRow row (grownCap wr row.size 0 5)) 5 ((bytesRow row (grownCap wr row.size 0 5)).size, (bytesRow row (grownCap wr row.size 0 5)).size + 1))).drew)) :=
          Lib.hid ⟨HR.out.1.below hdr, (hdr.block _ (by omega)).trans HR.out.2.1, HR.out.2.2.1.trans (hdr.mono HR.out.2.2.1.size)⟩
        have HBY := Lib.hid hBy; clear hBy hdr
        revert HR3 HBY
        generalize (wr.alloc (.cells (bytesRow row (grownCap wr row.size 0 5)) 5 ((bytesRow row (grownCap wr row.size 0 5)).size, (bytesRow row (grownCap wr row.size 0 5)).size + 1))).drew = w3
        generalize ((bytesRow row (grownCap wr row.size 0 5)).size, (bytesRow row (grownCap wr row.size 0 5)).size + 1) = fr
        generalize grownCap wr row.size 0 5 = cap
        intro HR3 HBY
        have HGOOD := Lib.hid HR.out.2.2.2
        clear HR
        revert hbb HBY
        generalize wr.heap.size = bb
        intro hbb HBY
        go_loopw [33] (fun u wr => ∃ x : Nat, x ≤ row.size ∧ u = .int .i64 x ∧ Hid (HasG wr gb (rdG (spl s.data.toList) k x) ∧ wr.heap[w.heap.size]? = some (.cells (R.map Value.string).toArray 9) ∧ wr.heap[bb]? = some (.cells (bytesRow row cap) 5 fr) ∧ Below w.heap.size w wr ∧ (∀ c ∈ row.data.toList.take x, 0 ≤ rdC c))) (fun u _ => row.size - (intOf u).toNat)
        case atStart => exact ⟨0, by omega, rfl, Lib.hid ⟨HR3.out.1, HR3.out.2.1, HBY.out, HR3.out.2.2, fun c hc => by simp at hc⟩⟩
        case round =>
          obtain ⟨x, hx, rfl, HI⟩ := hrel
          by_cases hxl : x < row.size
          · have hxd : x < row.data.size := hxl
            obtain ⟨b, hb⟩ : ∃ b, row.data[x]'hxd = b := ⟨_, rfl⟩
            have hbl : row.data.toList[x]? = some b := by rw [Array.getElem?_toList, Array.getElem?_eq_getElem hxd, hb]
            have hBY := HI.out.2.2.1
            have c0 : wr.cell? ⟨bb, x, none⟩ = some (.int .u8 (b.toNat : Int)) := by
              have := bytesRow_at row cap x hxd
              rw [hb] at this
              simp [World.cell?, hBY, this]
            clear hBY hb
            have HBL := Lib.hid hbl; clear hbl
            have hidx := Tryz.strings_IndexByte { data := #[48, 49, 50, 51, 52, 53, 54, 55, 56, 57, 97, 98, 99, 100, 101, 102] } (b.toNat : Int) wr
            have e1 : Lib.indexByte (({ data := #[48, 49, 50, 51, 52, 53, 54, 55, 56, 57, 97, 98, 99, 100, 101, 102] } : ByteArray).data.toList) ((b.toNat : Int)).toNat.toUInt8 = rdC b := by
              rw [Int.toNat_natCast]
              show Lib.indexByte digs (UInt8.ofNat b.toNat) = _
              rw [UInt8.ofNat_toNat]; rfl
            rw [e1] at hidx
            clear e1
            have HIDX := Lib.hid hidx; clear hidx
            by_cases hneg : rdC b < 0
            · have HC : Hid (parseC s.data.toList = ([], 4)) := Lib.hid (parse_bad (by rw [HN.out]; exact h272) (fun h => by
                have := (h.2 _ (List.mem_of_getElem? HROW.out)).2 b (List.mem_of_getElem? HBL.out)
                omega))
              have HBF := Lib.hid HI.out.2.2.2.1
              go_wp2_with fail
              refine HIDX.out.mono ?_
              rintro e w5 ⟨rfl, rfl⟩
              go_wp2_with fail
              go_ret2
              exact ⟨.slice none 0 0, by rw [HC.out]; rfl, by rw [HC.out]; exact OwnQ.nil _ _, HBF.out⟩
            · obtain ⟨v, hv⟩ : ∃ v : Nat, rdC b = v := ⟨(rdC b).toNat, by omega⟩
              have hv16 : v < 16 := by have := rdC_lt b; omega
              rw [hv] at HIDX
              have HV := Lib.hid hv; clear hv hneg
              go_wp2_with fail
              refine HIDX.out.mono ?_
              rintro e w5 ⟨rfl, rfl⟩
              have hfz := fun off => HI.out.1.frozen off
              obtain ⟨y, hy⟩ : ∃ y, R.length = k + 1 + y := ⟨R.length - (k + 1), by omega⟩
              have hcl := HI.out.1.cell (i := y * 16 + x) (by omega)
              have hstep := rdG_step HROW.out HBL.out (by rw [HSZ.out]; omega)
              rw [HLR.out, HV.out, Int.toNat_natCast, hy, show 16 * (k + 1 + y - 1 - k) + x = y * 16 + x by omega] at hstep
              have HSTEP := Lib.hid hstep; clear hstep
              have hsub : ((R.length : Int) - 1 - k) = (y : Int) := by omega
              have HY := Lib.hid hy; clear hy
              go_wp2_with fail
              go_roundw
              case rel =>
                have hy := HY.out
                refine ⟨x + 1, by omega, by go_num, Lib.hid ⟨?_, (heap_setCell_other _ _ _ _ (by simp; omega)).trans HI.out.2.1, (heap_setCell_other _ _ _ _ (by simp; omega)).trans HI.out.2.2.1, HI.out.2.2.2.1.setCell (by simp; omega) _, fun c hc => ?_⟩⟩
                · rw [← HSTEP.out]
                  exact HI.out.1.set (by omega) v
                · rw [take_snoc' HBL.out] at hc
                  rcases List.mem_append.1 hc with hc | hc
                  · exact HI.out.2.2.2.2 c hc
                  · rw [List.mem_singleton.1 hc, HV.out]; omega
              case measure => simp [intOf]; omega
          · obtain rfl : x = row.size := by omega
            have HF : Hid (HasG wr gb (rdG (spl s.data.toList) (k + 1) 0) ∧ wr.heap[w.heap.size]? = some (.cells (R.map Value.string).toArray 9) ∧ Below w.heap.size w wr ∧ (∀ r ∈ (spl s.data.toList).take (k + 1), r.length ≤ 16 ∧ ∀ c ∈ r, 0 ≤ rdC c)) := Lib.hid ⟨by
                have := HI.out.1
                rw [← HSZ.out, rdG_next HROW.out] at this; exact this, HI.out.2.1, HI.out.2.2.2.1, fun r hr => by
                rw [take_snoc' HROW.out] at hr
                rcases List.mem_append.1 hr with hr | hr
                · exact HGOOD.out r hr
                · rw [List.mem_singleton.1 hr]
                  have h5 := HI.out.2.2.2.2
                  rw [← HSZ.out, List.take_length] at h5
                  exact ⟨by rw [HSZ.out]; omega, h5⟩⟩
            clear HI
            go_wp2_with fail
            go_roundw
            case rel => exact ⟨k + 1, by omega, by go_num, HF⟩
            case measure => simp [intOf]; omega
    · obtain rfl : k = R.length := by omega
      have hgood : goodR (spl s.data.toList) := ⟨by rw [HLR.out]; omega, fun r hr => HR.out.2.2.2 r (by rw [List.take_of_length_le (by rw [HLR.out]; exact Nat.le_refl _)]; exact hr)⟩
      have hG := HR.out.1
      have hpg : rdG (spl s.data.toList) R.length 0 = parseG s.data.toList := by unfold parseG; rw [HLR.out]
      rw [hpg] at hG
      have hok : okG (parseG s.data.toList) := rdG_ok hgood.1 _ _
      have HGD := Lib.hid hgood; clear hgood hpg
      have HOK := Lib.hid hok; clear hok
      have HBW := Lib.hid HR.out.2.2.1
      clear HR
      have HPC : Hid (parseC s.data.toList = if checkN (listG (parseG s.data.toList)) = 0 ∧ textG (parseG s.data.toList) = s.data.toList then (listG (parseG s.data.toList), 0) else ([], 4)) := Lib.hid (by
        rw [parseC, if_neg (by rw [HN.out]; exact h272)]
        by_cases h : checkN (listG (parseG s.data.toList)) = 0 ∧ textG (parseG s.data.toList) = s.data.toList
        · rw [if_pos h, if_pos ⟨HGD.out, h.1, h.2⟩]
        · rw [if_neg h, if_neg (fun h' => h h'.2)])
      revert HPC hG HOK
      generalize parseG s.data.toList = G
      intro hG HOK HPC
      go_wp2_with (refine wpList_load_row rfl 120 _ rfl gb rfl 120 _ (0, 0) _ hG Tryz.underlying120 rfl (by rw [size_gridA]; exact sizeG) ?_)
      refine (list_any G HOK.out wr).mono ?_
      rintro e w5 ⟨v, rfl, hown, hB5⟩
      have hG5 := hG.below hB5
      have hbw5 := HBW.out.trans (hB5.mono HBW.out.size)
      obtain ⟨vp, vc, rfl⟩ := own_slice hown
      have HOWN := Lib.hid hown; clear hown
      clear hG hB5
      go_wp2_with fail
      refine (check_any (listG G) _ w5 HOWN.out.has).mono ?_
      rintro e w6 ⟨rfl, hB6⟩
      have hG6 := hG5.below hB6
      have hbw6 := hbw5.trans (hB6.mono hbw5.size)
      have HOWN6 := Lib.hid (HOWN.out.below hB6)
      clear hG5 hB6 hbw5
      by_cases hc : checkN (listG G) = 0
      case neg =>
        have hc1 : ((checkN (listG G) : Int) == 0) = false := by simpa using hc
        have HC : Hid (parseC s.data.toList = ([], 4)) := Lib.hid (by rw [HPC.out, if_neg (fun h => hc h.1)])
        clear hc
        go_wp2_with fail
        go_ret2
        exact ⟨.slice none 0 0, by rw [HC.out]; rfl, by rw [HC.out]; exact OwnQ.nil _ _, hbw6⟩
      have hc1 : ((checkN (listG G) : Int) == 0) = true := by simpa using hc
      have HC := Lib.hid hc; clear hc
      go_wp2_with fail
      refine wp_load_row 120 _ rfl gb rfl 120 (gridA G) (0, 0) _ hG6 Tryz.underlying120 rfl (by rw [size_gridA]; exact sizeG) ?_
      go_wp2_with fail
      refine (format_any G HOK.out w6).mono ?_
      rintro e w7 ⟨rfl, hB7⟩
      have hbw7 := hbw6.trans (hB7.mono hbw6.size)
      have HOWN7 := Lib.hid (HOWN6.out.below hB7)
      clear hB7 hbw6 hG6
      by_cases ht : textG G = s.data.toList
      · have hT : ({ data := (textG G).toArray } : ByteArray) = s := by rw [ht]
        have HC2 : Hid (parseC s.data.toList = (listG G, 0)) := Lib.hid (by rw [HPC.out, if_pos ⟨HC.out, ht⟩])
        rw [hT]
        clear hT ht
        go_wp2_with fail
        go_ret2
        exact ⟨_, by rw [HC2.out]; rfl, by rw [HC2.out]; exact HOWN7.out.mono HBW.out.size, hbw7⟩
      · have hT : ({ data := (textG G).toArray } : ByteArray) ≠ s := fun e => ht (by rw [← e])
        have HC2 : Hid (parseC s.data.toList = ([], 4)) := Lib.hid (by rw [HPC.out, if_neg (fun h => ht h.2)])
        clear ht
        revert hT
        generalize ({ data := (textG G).toArray } : ByteArray) = T
        intro hT
        have hb2 : (T.toList == s.toList) = false := by
          rw [Bool.eq_false_iff]
          intro h
          have h1 := beq_iff_eq.1 h
          rw [ByteArray.toList_eq, ByteArray.toList_eq] at h1
          exact hT (ByteArray.ext (Array.toList_inj.mp h1))
        have hb1 : (T == s) = false := by rw [beq_toListBytes]; exact hb2
        go_wp2_with fail
        go_ret2
        exact ⟨.slice none 0 0, by rw [HC2.out]; rfl, by rw [HC2.out]; exact OwnQ.nil _ _, hbw7⟩
set_option maxRecDepth 100000 in
set_option maxHeartbeats 1000000 in
theorem Kind_own (s : ByteArray) (w : World) (hk : KindsAt w) (hsh : w.ShapedOpen Tryz.prog) :
    Calls Tryz.prog 10 #[.string s] w fun e w' => ∃ u, e = .returned (.tuple #[u, .int .i64 (kindC s).2]) ∧ OwnQ w' w.heap.size u (kindC s).1 ∧ Below w.heap.size w w' := by
  obtain ⟨t, fr, hkb⟩ := hk
  have HSH := Lib.hid hsh; clear hsh
  go_enter Tryz.func10, Tryz.ntmps10
  go_wp2_with (refine wpList_load_row rfl 93 _ rfl 0 rfl t kindsA fr _ hkb Tryz.underlying93 rfl (by kernel_rfl) ?_)
  go_loopw [7] (fun z wr => ∃ k : Nat, k ≤ 8 ∧ z = .int .i64 k ∧ Hid (kindsL.find? (fun p => p.1.data.toList == s.data.toList) = (kindsL.drop k).find? (fun p => p.1.data.toList == s.data.toList) ∧ Below w.heap.size w wr)) (fun z _ => 8 - (intOf z).toNat)
  case atStart => exact ⟨0, by omega, rfl, Lib.hid ⟨rfl, Below.refl _ _⟩⟩
  case round =>
    obtain ⟨k, hk, rfl, HR⟩ := hrel
    by_cases hlt : k < 8
    · obtain ⟨n, tx, hkk, hix⟩ := kinds_get hlt wr
      have hfd := find_drop hkk s
      clear hkk
      by_cases hq : n = s
      · subst hq
        simp only [beq_self_eq_true, if_true] at hfd
        have HC : Hid (kindC n = parseC tx.data.toList) := Lib.hid (by unfold kindC; rw [HR.out.1, hfd])
        clear hfd
        have hal : Below wr.heap.size wr (wr.alloc (.cells #[.string n, .string tx] 92)) := (Below.refl _ wr).alloc (Nat.le_refl _) _
        have HB := Lib.hid (HR.out.2.trans (hal.mono HR.out.2.size))
        have HP := Lib.hid (Parse_own tx (wr.alloc (.cells #[.string n, .string tx] 92)) (shaped_below HSH.out HB.out))
        clear hal
        go_wp2_with fail
        refine HP.out.mono ?_
        rintro e w5 ⟨u, rfl, hq, hb5⟩
        have HQ := Lib.hid hq; clear hq
        have HBF := Lib.hid (HB.out.trans (hb5.mono HB.out.size)); clear hb5 HP
        go_wp2_with fail
        go_ret2
        exact ⟨u, by rw [HC.out]; rfl, by rw [HC.out]; exact HQ.out.mono HB.out.size, HBF.out⟩
      · have hb0 : (n.data.toList == s.data.toList) = false := by
          rw [Bool.eq_false_iff]
          intro h
          exact hq (ByteArray.ext (Array.toList_inj.mp (beq_iff_eq.1 h)))
        have hb2 : (n.toList == s.toList) = false := by rw [ByteArray.toList_eq, ByteArray.toList_eq]; exact hb0
        have hb1 : (n == s) = false := by rw [beq_toListBytes]; exact hb2
        simp only [hb0, Bool.false_eq_true, if_false] at hfd
        have HN : Hid (kindsL.find? (fun p => p.1.data.toList == s.data.toList) = (kindsL.drop (k + 1)).find? (fun p => p.1.data.toList == s.data.toList)) := Lib.hid (HR.out.1.trans hfd)
        clear hfd hb0
        have HB : Hid (Below w.heap.size w (wr.alloc (.cells #[.string n, .string tx] 92))) := Lib.hid (HR.out.2.alloc HR.out.2.size _)
        go_wp2_with fail
        go_roundw
        case rel => exact ⟨k + 1, by omega, by go_num, Lib.hid ⟨HN.out, HB.out⟩⟩
        case measure => simp [intOf]; omega
    · obtain rfl : k = 8 := by omega
      have HC : Hid (kindC s = ([], 7)) := Lib.hid (by unfold kindC; rw [HR.out.1]; rfl)
      go_wp2_with fail
      go_ret2
      exact ⟨.slice none 0 0, by rw [HC.out]; rfl, by rw [HC.out]; exact OwnQ.nil _ _, HR.out.2⟩
end Go.Proofs.YtiinlplgloaanaaGreatDoor
