/- BrickSpelled. -/
import Derived.Test.YtimnmfjbfbkooaaDoorBn
namespace Go.Proofs.YtimnmfjbfbkooaaDoor
set_option linter.all false
set_option linter.unusedSimpArgs false
set_option linter.unusedVariables false
open Go.RowKit
attribute [local go_sem] Oper.semAt_some

set_option maxRecDepth 100000 in
set_option maxHeartbeats 4000000 in
theorem BrickSpelled_any (l : List Q) (v : Value) (s : ByteArray) (w : World) (h : HasQ w v l) (hk : KindsAt w) (hsh : w.ShapedOpen Tryd.prog) :
    Calls Tryd.prog 4 #[v, .string s] w fun e w' => e = .returned (.bool true) ∧ Below w.heap.size w w' := by
  obtain ⟨p, c, rfl⟩ := h.slice
  have H := Lib.hid h; clear h
  have HK := Lib.hid hk; clear hk
  have HSH := Lib.hid hsh; clear hsh
  have HKN := Lib.hid (known_law w HK.out HSH.out)
  by_cases h80 : 80 < l.length
  case pos =>
    go_enter Tryd.func4, Tryd.ntmps4
    go_wp2_with fail
    refine HKN.out.mono ?_
    rintro e w1 ⟨rfl, hB1⟩
    go_wp2_with fail
    go_ret
    exact ⟨rfl, hB1⟩
  by_cases h300 : 300 < s.size
  case pos =>
    go_enter Tryd.func4, Tryd.ntmps4
    go_wp2_with fail
    refine HKN.out.mono ?_
    rintro e w1 ⟨rfl, hB1⟩
    go_wp2_with fail
    go_ret
    exact ⟨rfl, hB1⟩
  clear HKN
  have HO1 := Lib.hid (own_law l _ w H.out (by omega))
  go_enter Tryd.func4, Tryd.ntmps4
  go_wp2_with fail
  refine HO1.out.mono ?_
  rintro e w1 ⟨u1, rfl, hu1, hB1⟩
  have HN := Lib.hid (norm_any l u1 w1 hu1.has)
  clear HO1 hu1
  go_wp2_with fail
  refine HN.out.mono ?_
  rintro e w2 ⟨u2, rfl, hu2, hB2⟩
  have HB := Lib.hid (hB1.trans (hB2.mono hB1.size)); clear hB1 hB2 HN
  by_cases hc : checkN l = 0
  case neg =>
    have hb : (((putC l false 0 0 0).2 : Int) == 0) = false := by
      rw [putC, if_pos hc]; simpa using hc
    clear hu2

    have H9 := Lib.hid (Parse_any s w2 (shaped_below HSH.out HB.out))
    go_wp2_with fail
    refine H9.out.mono ?_
    rintro e t1 ⟨x1, rfl, hx1, hT1⟩
    obtain ⟨xp, xc, rfl⟩ := hx1.slice
    have HX1 := Lib.hid hx1; clear hx1 H9
    have HB1 := Lib.hid (HB.out.trans (hT1.mono HB.out.size)); clear hT1
    by_cases hp : (parseC s.data.toList).2 = 0
    case neg =>
      have hnil := parse_err hp
      rw [hnil] at HX1
      simp only [hnil]
      have hb : (((parseC s.data.toList).2 : Int) != 0) = true := by simpa using hp
      have HKN := Lib.hid (known_law t1 (HK.out.below HB1.out) (shaped_below HSH.out HB1.out))
      clear hp hnil
      go_wp2_with fail
      refine HKN.out.mono ?_
      rintro e t2 ⟨rfl, hT2⟩
      have HB2 := Lib.hid (HB1.out.trans (hT2.mono HB1.out.size))
      go_wp2_with fail
      go_ret
      exact ⟨rfl, HB2.out⟩
    obtain ⟨x, hpx⟩ : ∃ x, parseC s.data.toList = (x, 0) := ⟨_, Prod.ext rfl hp⟩
    rw [hpx] at HX1
    simp only [hpx]
    obtain ⟨hcx, hnx, hfx⟩ := format_parse hpx
    clear hp hpx
    have hx400 := (checkN_ok hcx).2.2
    have HO := Lib.hid (own_law x _ t1 HX1.out (by omega))
    go_wp2_with fail
    refine HO.out.mono ?_
    rintro e t2 ⟨u2, rfl, hu2, hT2⟩
    have HF := Lib.hid (Format_any x u2 t2 hu2.has)
    have HB2 := Lib.hid (HB1.out.trans (hT2.mono HB1.out.size))
    have HX2 := Lib.hid (HX1.out.below hT2)
    clear hT2 hu2 HO HB1 HX1
    go_wp2_with fail
    refine HF.out.mono ?_
    rintro e t3 ⟨rfl, hT3⟩
    rw [hfx]
    have hss : ({ data := s.data.toList.toArray } : ByteArray) = s := rfl
    simp only [hss]
    clear hss hfx HF
    have HB3 := Lib.hid (HB2.out.trans (hT3.mono HB2.out.size))
    have HX3 := Lib.hid (HX2.out.below hT3)
    clear hT3 HB2 HX2
    have HO3 := Lib.hid (own_law x _ t3 HX3.out (by omega))
    go_wp2_with fail
    refine HO3.out.mono ?_
    rintro e t4 ⟨u4, rfl, hu4, hT4⟩
    have HN4 := Lib.hid (norm_any x u4 t4 hu4.has)
    have HB4 := Lib.hid (HB3.out.trans (hT4.mono HB3.out.size))
    have HX4 := Lib.hid (HX3.out.below hT4)
    clear hT4 hu4 HO3 HB3 HX3
    go_wp2_with fail
    refine HN4.out.mono ?_
    rintro e t5 ⟨u5, rfl, hu5, hT5⟩
    rw [norm_code hcx, hnx] at hu5
    rw [norm_code hcx]
    obtain ⟨p5, c5, rfl⟩ := own_slice hu5
    have HB5 := Lib.hid (HB4.out.trans (hT5.mono HB4.out.size))
    have HEQ := Lib.hid (equal_law x x _ _ t5 hu5.has (HX4.out.below hT5))
    clear hT5 hu5 HN4 HB4 HX4
    go_wp2_with fail
    refine HEQ.out.mono ?_
    rintro e t6 ⟨rfl, hT6⟩
    simp only [decide_true]
    have HB6 := Lib.hid (HB5.out.trans (hT6.mono HB5.out.size))
    have HKN := Lib.hid (known_law t6 (HK.out.below HB6.out) (shaped_below HSH.out HB6.out))
    clear hT6 HEQ HB5
    go_wp2_with fail
    refine HKN.out.mono ?_
    rintro e t7 ⟨rfl, hT7⟩
    have HB7 := Lib.hid (HB6.out.trans (hT7.mono HB6.out.size))
    go_wp2_with fail
    go_ret
    exact ⟨rfl, HB7.out⟩

  obtain ⟨hcn, hnn⟩ := norm_ok hc
  rw [norm_code hc] at hu2 ⊢
  have hn400 := (checkN_ok hcn).2.2
  obtain ⟨p2, c2, rfl⟩ := own_slice hu2
  have HU2 := Lib.hid hu2.has; clear hu2
  have HO2 := Lib.hid (own_law (normL l) _ w2 HU2.out (by omega))
  obtain ⟨hfm, hps⟩ := parse_format hcn hnn
  have HPS := Lib.hid hps; clear hps
  have HFM := Lib.hid hfm; clear hfm
  clear hc
  go_wp2_with fail
  refine HO2.out.mono ?_
  rintro e w3 ⟨u3, rfl, hu3, hB3⟩
  have HF3 := Lib.hid (Format_any (normL l) u3 w3 hu3.has)
  have HB3 := Lib.hid (HB.out.trans (hB3.mono HB.out.size))
  have HU3 := Lib.hid (HU2.out.below hB3)
  clear hB3 hu3 HO2 HB HU2
  go_wp2_with fail
  refine HF3.out.mono ?_
  rintro e w4 ⟨rfl, hB4⟩
  rw [HFM.out]
  have HB4 := Lib.hid (HB3.out.trans (hB4.mono HB3.out.size))
  have HU4 := Lib.hid (HU3.out.below hB4)
  clear hB4 HF3 HB3 HU3
  have HP4 := Lib.hid (Parse_any ⟨(textG (layG (normL l))).toArray⟩ w4 (shaped_below HSH.out HB4.out))
  go_wp2_with fail
  refine HP4.out.mono ?_
  rintro e w5 ⟨u5, rfl, hu5, hB5⟩
  have e5 : parseC (({ data := (textG (layG (normL l))).toArray } : ByteArray).data.toList) = (normL l, 0) := HPS.out
  rw [e5] at hu5 ⊢
  obtain ⟨p5, c5, rfl⟩ := hu5.slice
  have HB5 := Lib.hid (HB4.out.trans (hB5.mono HB4.out.size))
  have HEQ5 := Lib.hid (equal_law (normL l) (normL l) _ _ w5 hu5 (HU4.out.below hB5))
  clear hB5 hu5 HP4 HB4 HU4 e5
  go_wp2_with fail
  refine HEQ5.out.mono ?_
  rintro e w6 ⟨rfl, hB6⟩
  simp only [decide_true]
  have HB := Lib.hid (HB5.out.trans (hB6.mono HB5.out.size))
  clear hB6 HEQ5 HB5

  have H9 := Lib.hid (Parse_any s w6 (shaped_below HSH.out HB.out))
  go_wp2_with fail
  refine H9.out.mono ?_
  rintro e t1 ⟨x1, rfl, hx1, hT1⟩
  obtain ⟨xp, xc, rfl⟩ := hx1.slice
  have HX1 := Lib.hid hx1; clear hx1 H9
  have HB1 := Lib.hid (HB.out.trans (hT1.mono HB.out.size)); clear hT1
  by_cases hp : (parseC s.data.toList).2 = 0
  case neg =>
    have hnil := parse_err hp
    rw [hnil] at HX1
    simp only [hnil]
    have hb : (((parseC s.data.toList).2 : Int) != 0) = true := by simpa using hp
    have HKN := Lib.hid (known_law t1 (HK.out.below HB1.out) (shaped_below HSH.out HB1.out))
    clear hp hnil
    go_wp2_with fail
    refine HKN.out.mono ?_
    rintro e t2 ⟨rfl, hT2⟩
    have HB2 := Lib.hid (HB1.out.trans (hT2.mono HB1.out.size))
    go_wp2_with fail
    go_ret
    exact ⟨rfl, HB2.out⟩
  obtain ⟨x, hpx⟩ : ∃ x, parseC s.data.toList = (x, 0) := ⟨_, Prod.ext rfl hp⟩
  rw [hpx] at HX1
  simp only [hpx]
  obtain ⟨hcx, hnx, hfx⟩ := format_parse hpx
  clear hp hpx
  have hx400 := (checkN_ok hcx).2.2
  have HO := Lib.hid (own_law x _ t1 HX1.out (by omega))
  go_wp2_with fail
  refine HO.out.mono ?_
  rintro e t2 ⟨u2, rfl, hu2, hT2⟩
  have HF := Lib.hid (Format_any x u2 t2 hu2.has)
  have HB2 := Lib.hid (HB1.out.trans (hT2.mono HB1.out.size))
  have HX2 := Lib.hid (HX1.out.below hT2)
  clear hT2 hu2 HO HB1 HX1
  go_wp2_with fail
  refine HF.out.mono ?_
  rintro e t3 ⟨rfl, hT3⟩
  rw [hfx]
  have hss : ({ data := s.data.toList.toArray } : ByteArray) = s := rfl
  simp only [hss]
  clear hss hfx HF
  have HB3 := Lib.hid (HB2.out.trans (hT3.mono HB2.out.size))
  have HX3 := Lib.hid (HX2.out.below hT3)
  clear hT3 HB2 HX2
  have HO3 := Lib.hid (own_law x _ t3 HX3.out (by omega))
  go_wp2_with fail
  refine HO3.out.mono ?_
  rintro e t4 ⟨u4, rfl, hu4, hT4⟩
  have HN4 := Lib.hid (norm_any x u4 t4 hu4.has)
  have HB4 := Lib.hid (HB3.out.trans (hT4.mono HB3.out.size))
  have HX4 := Lib.hid (HX3.out.below hT4)
  clear hT4 hu4 HO3 HB3 HX3
  go_wp2_with fail
  refine HN4.out.mono ?_
  rintro e t5 ⟨u5, rfl, hu5, hT5⟩
  rw [norm_code hcx, hnx] at hu5
  rw [norm_code hcx]
  obtain ⟨p5, c5, rfl⟩ := own_slice hu5
  have HB5 := Lib.hid (HB4.out.trans (hT5.mono HB4.out.size))
  have HEQ := Lib.hid (equal_law x x _ _ t5 hu5.has (HX4.out.below hT5))
  clear hT5 hu5 HN4 HB4 HX4
  go_wp2_with fail
  refine HEQ.out.mono ?_
  rintro e t6 ⟨rfl, hT6⟩
  simp only [decide_true]
  have HB6 := Lib.hid (HB5.out.trans (hT6.mono HB5.out.size))
  have HKN := Lib.hid (known_law t6 (HK.out.below HB6.out) (shaped_below HSH.out HB6.out))
  clear hT6 HEQ HB5
  go_wp2_with fail
  refine HKN.out.mono ?_
  rintro e t7 ⟨rfl, hT7⟩
  have HB7 := Lib.hid (HB6.out.trans (hT7.mono HB6.out.size))
  go_wp2_with fail
  go_ret
  exact ⟨rfl, HB7.out⟩
end Go.Proofs.YtimnmfjbfbkooaaDoor
