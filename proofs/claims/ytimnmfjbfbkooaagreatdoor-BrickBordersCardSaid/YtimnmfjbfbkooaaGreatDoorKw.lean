/- known. -/
import Derived.Test.YtimnmfjbfbkooaaGreatDoorKn
namespace Go.Proofs.YtimnmfjbfbkooaaGreatDoor
set_option linter.all false
set_option linter.unusedSimpArgs false
set_option linter.unusedVariables false
open Go.RowKit
attribute [local go_sem] Oper.semAt_some

theorem HasQQ.slice {W : World} {v : Value} {ls : List (List Q)} (h : HasQQ W v ls) : ∃ p c, v = .slice p ls.length c := by
  rcases h with ⟨rfl, rfl⟩ | ⟨a, cap, vs, rfl, _⟩
  · exact ⟨_, _, rfl⟩
  · exact ⟨_, _, rfl⟩
theorem HasP.slice {W : World} {v : Value} {l : List Plc} (h : HasP W v l) : ∃ p c, v = .slice p l.length c := by
  rcases h with ⟨rfl, rfl⟩ | ⟨a, c, rfl, _⟩
  · exact ⟨_, _, rfl⟩
  · exact ⟨_, _, rfl⟩
theorem HasEs.slice {W : World} {v : Value} {l : List E} (h : HasEs W v l) : ∃ p c, v = .slice p l.length c := by
  rcases h with ⟨rfl, rfl⟩ | ⟨a, c, rfl, _⟩
  · exact ⟨_, _, rfl⟩
  · exact ⟨_, _, rfl⟩

theorem joint_lay (W : World) : HasQQ (((W.alloc (.cells #[.int .i64 0, .int .i64 0, .int .i64 0, .int .i64 0, .int .i64 0, .int .i64 1] 64)).alloc (.cells #[.int .i64 0, .int .i64 0, .int .i64 2, .int .i64 0, .int .i64 0, .int .i64 3] 64)).alloc (.cells #[.slice (some ⟨W.heap.size, 0, none⟩) 2 2, .slice (some ⟨W.heap.size + 1, 0, none⟩) 2 2] 22))
    (.slice (some ⟨W.heap.size + 1 + 1, 0, none⟩) 2 2) jointLs := by
  obtain ⟨h0, h1, h2, hB, hsz⟩ := alloc3 W (.cells #[.int .i64 0, .int .i64 0, .int .i64 0, .int .i64 0, .int .i64 0, .int .i64 1] 64) (.cells #[.int .i64 0, .int .i64 0, .int .i64 2, .int .i64 0, .int .i64 0, .int .i64 3] 64) (.cells #[.slice (some ⟨W.heap.size, 0, none⟩) 2 2, .slice (some ⟨W.heap.size + 1, 0, none⟩) 2 2] 22)
  revert h0 h1 h2 hB hsz
  generalize ((W.alloc (.cells #[.int .i64 0, .int .i64 0, .int .i64 0, .int .i64 0, .int .i64 0, .int .i64 1] 64)).alloc (.cells #[.int .i64 0, .int .i64 0, .int .i64 2, .int .i64 0, .int .i64 0, .int .i64 3] 64)).alloc (.cells #[.slice (some ⟨W.heap.size, 0, none⟩) 2 2, .slice (some ⟨W.heap.size + 1, 0, none⟩) 2 2] 22) = W'
  intro h0 h1 h2 hB hsz
  have rowq : ∀ (b : Nat) (x y z x' y' z' : Int), W'.heap[b]? = some (.cells #[.int .i64 x, .int .i64 y, .int .i64 z, .int .i64 x', .int .i64 y', .int .i64 z'] 64) → HasQ W' (.slice (some ⟨b, 0, none⟩) 2 2) [⟨x, y, z⟩, ⟨x', y', z'⟩] := fun b x y z x' y' z' hb => by
    refine .inr ⟨_, 2, rfl, Nat.le_refl _, by decide, (fun _ => (Array.getElem?_eq_some_iff.1 hb).1), fun i q hq => ?_, fun i q hq => ?_, fun i q hq => ?_⟩
    all_goals
      match i, hq with
      | 0, hq => simp at hq; subst hq; simp [Addr.add, World.cell?, hb]
      | 1, hq => simp at hq; subst hq; simp [Addr.add, World.cell?, hb]
      | i + 2, hq => simp at hq
  refine .inr ⟨_, 2, [.slice (some ⟨W.heap.size, 0, none⟩) 2 2, .slice (some ⟨W.heap.size + 1, 0, none⟩) 2 2], rfl, Nat.le_refl _, by decide, ⟨(Array.getElem?_eq_some_iff.1 h2).1, fun i v hv => ?_⟩, rfl, fun i u l hu hl => ?_⟩
  · match i, hv with
    | 0, hv => simp at hv; subst hv; simp [Addr.add, World.cell?, h2]
    | 1, hv => simp at hv; subst hv; simp [Addr.add, World.cell?, h2]
    | i + 2, hv => simp at hv
  · match i, hu, hl with
    | 0, hu, hl => simp [jointLs] at hu hl; subst hu; subst hl; exact rowq _ _ _ _ _ _ _ h0
    | 1, hu, hl => simp [jointLs] at hu hl; subst hu; subst hl; exact rowq _ _ _ _ _ _ _ h1
    | i + 2, hu, hl => simp at hu

set_option maxRecDepth 100000 in
set_option maxHeartbeats 4000000 in
theorem known_law (w : World) (hk : KindsAt w) (hsh : w.ShapedOpen Tryz.prog) :
    Calls Tryz.prog 12 #[] w fun e w' => e = .returned (.bool true) ∧ Below w.heap.size w w' := by
  have HK := Lib.hid hk; clear hk
  have HSH := Lib.hid hsh; clear hsh
  have H1 := Lib.hid (Kind_any ⟨#[104, 97, 108, 102]⟩ w HK.out HSH.out)
  go_enter Tryz.func12, Tryz.ntmps12
  go_wp2_with fail
  refine H1.out.mono ?_
  rintro e w1 ⟨v1, rfl, hq1, hB1⟩
  rw [half_is] at hq1 ⊢
  obtain ⟨p1, c1, rfl⟩ := hq1.slice
  have HQ1 := Lib.hid hq1; clear hq1
  have HB1 := Lib.hid hB1; clear hB1 H1
  have H2 := Lib.hid (Images_any halfL _ w1 HQ1.out)
  go_wp2_with fail
  refine H2.out.mono ?_
  rintro e w2 ⟨v2, ls2, rfl, hq2, _, hl2, hB2⟩
  have hn2 : ls2.length = 4 := ((hl2 half_ok).1.length_eq).trans half_images
  obtain ⟨p2, c2, rfl⟩ := hq2.slice
  rw [hn2, half_ok]
  clear hq2 hl2 hn2 H2
  have HB2 := Lib.hid (HB1.out.trans (hB2.mono HB1.out.size))
  have HQ1b := Lib.hid (HQ1.out.below hB2)
  clear HB1 HQ1 hB2
  have H3 := Lib.hid (Parse_any ⟨#[102, 102, 47, 102, 102]⟩ w2 (shaped_below HSH.out HB2.out))
  go_wp2_with fail
  refine H3.out.mono ?_
  rintro e w3 ⟨v3, rfl, hq3, hB3⟩
  have eg : parseC (({ data := #[102, 102, 47, 102, 102] } : ByteArray).data.toList) = (greatL, 0) := great_is
  rw [eg] at hq3 ⊢
  obtain ⟨p3, c3, rfl⟩ := hq3.slice
  have HQ3 := Lib.hid hq3; clear hq3 eg H3
  have HB3 := Lib.hid (HB2.out.trans (hB3.mono HB2.out.size))
  have HQ1c := Lib.hid (HQ1b.out.below hB3)
  clear HB2 HQ1b hB3
  have H4 := Lib.hid (Kind_any ⟨#[111, 98, 108, 111, 110, 103]⟩ w3 (HK.out.below HB3.out) (shaped_below HSH.out HB3.out))
  go_wp2_with fail
  refine H4.out.mono ?_
  rintro e w4 ⟨v4, rfl, hq4, hB4⟩
  rw [oblong_is] at hq4 ⊢
  obtain ⟨p4, c4, rfl⟩ := hq4.slice
  have HQ4 := Lib.hid hq4; clear hq4 H4
  have HB4 := Lib.hid (HB3.out.trans (hB4.mono HB3.out.size))
  have HQ1d := Lib.hid (HQ1c.out.below hB4)
  have HQ3d := Lib.hid (HQ3.out.below hB4)
  clear HB3 HQ1c HQ3 hB4
  have H5 := Lib.hid (Places_any oblongL greatL _ _ w4 HQ4.out HQ3d.out)
  go_wp2_with fail
  refine H5.out.mono ?_
  rintro e w5 ⟨v5, rfl, hq5, hB5⟩
  obtain ⟨p5, c5, rfl⟩ := hq5.slice
  rw [oblong_places.1, oblong_places.2]
  clear hq5 H5
  have HB5 := Lib.hid (HB4.out.trans (hB5.mono HB4.out.size))
  have HQ1e := Lib.hid (HQ1d.out.below hB5)
  have HQ3e := Lib.hid (HQ3d.out.below hB5)
  clear HB4 HQ1d HQ3d HQ4 hB5
  have H6 := Lib.hid (Places_any halfL greatL _ _ w5 HQ1e.out HQ3e.out)
  go_wp2_with fail
  refine H6.out.mono ?_
  rintro e w6 ⟨v6, rfl, hq6, hB6⟩
  obtain ⟨p6, c6, rfl⟩ := hq6.slice
  rw [half_places.1, half_places.2]
  clear hq6 H6
  have HB6 := Lib.hid (HB5.out.trans (hB6.mono HB5.out.size))
  have HQ3f := Lib.hid (HQ3e.out.below hB6)
  clear HB5 HQ1e HQ3e hB6
  go_wp2_with fail
  have H7 := Lib.hid (Joints_any jointLs _ _ (joint_lay w6) (by decide))
  have hal := (alloc3 w6 (.cells #[.int .i64 0, .int .i64 0, .int .i64 0, .int .i64 0, .int .i64 0, .int .i64 1] 64) (.cells #[.int .i64 0, .int .i64 0, .int .i64 2, .int .i64 0, .int .i64 0, .int .i64 3] 64) (.cells #[.slice (some ⟨w6.heap.size, 0, none⟩) 2 2, .slice (some ⟨w6.heap.size + 1, 0, none⟩) 2 2] 22)).2.2.2.1
  have HAL := Lib.hid hal; clear hal
  refine H7.out.mono ?_
  rintro e w7 ⟨v7, es, rfl, hes, _, hj, hB7⟩
  rw [joint_code]
  have hese := joint_sorted (hj joint_code).1 (hj joint_code).2
  subst hese
  clear hj H7
  have HB67 := Lib.hid (HAL.out.trans (hB7.mono HAL.out.size))
  have HB7 := Lib.hid (HB6.out.trans (HB67.out.mono HB6.out.size))
  have HQ3g := Lib.hid (HQ3f.out.below HB67.out)
  clear hB7 HAL HB6 HQ3f HB67
  obtain ⟨a7, c7, rfl, hea⟩ : ∃ a c, v7 = .slice (some a) 2 c ∧ EsAt w7 a [⟨0, 0, 1⟩, ⟨0, 0, 3⟩] := by
    rcases hes with ⟨_, h⟩ | ⟨a, c, h, _, _, h2⟩
    · cases h
    · exact ⟨a, c, h, h2⟩
  clear hes
  have H8 := Lib.hid (Format_any greatL _ w7 HQ3g.out)
  have HEA := Lib.hid hea; clear hea
  go_wp2_with fail
  refine H8.out.mono ?_
  rintro e w8 ⟨rfl, hB8⟩
  rw [great_format]
  have hea := HEA.out.below hB8
  have e00 := hea.at0 0 _ rfl
  have e01 := hea.at1 0 _ rfl
  have e02 := hea.at2 0 _ rfl
  have e10 := hea.at0 1 _ rfl
  have e11 := hea.at1 1 _ rfl
  have e12 := hea.at2 1 _ rfl
  simp [Addr.add] at e00 e01 e02 e10 e11 e12
  have HB8 := Lib.hid (HB7.out.trans (hB8.mono HB7.out.size))
  clear hea hB8 H8 HB7
  go_wp2_with fail
  go_ret
  exact ⟨rfl, HB8.out⟩
end Go.Proofs.YtimnmfjbfbkooaaGreatDoor
