/- Format. -/
import Derived.Test.YtimnmfjbfbkooaaGreatDoorFm
namespace Go.Proofs.YtimnmfjbfbkooaaGreatDoor
set_option linter.all false
set_option linter.unusedSimpArgs false
set_option linter.unusedVariables false
open Go.RowKit
attribute [local go_sem] Oper.semAt_some

noncomputable instance (g h : Grid) : Decidable (g = h) := Classical.propDecidable _
theorem equal_grid {g h : Grid} (hg : okG g) (hh : okG h) (W : World) : (Op.equal 76 (gridV g) (gridV h)).run Tryz.prog W = .ok (decide (g = h)) W := by
  have hf := KeyEnc.find (l := [(h, Value.bool true)]) encG (fun p hp => by rw [List.mem_singleton.1 hp]; exact hh) hg W
  have e1 : (entriesM gridV [(h, Value.bool true)]).toList = [{ key := gridV h, val := .bool true, born := 0 }] := rfl
  rw [e1] at hf
  have e2 : (Instr.findKey 76 (gridV g) [{ key := gridV h, val := .bool true, born := 0 }]).run Tryz.prog W = ((Op.equal 76 (gridV g) (gridV h)).run Tryz.prog W).andThen fun b w' => .ok (if b then some (0, .bool true) else none) w' := by
    simp only [Instr.findKey, Sem.run_bind, run_underlying Tryz.underlying76, Result.andThen_ok]
    simp only [Instr.findNow, Instr.sameNow, gridV, Instr.findAsking, Sem.run_bind]
    congr 1
    funext b w'
    cases b <;> simp
  rw [e2] at hf
  cases hr : (Op.equal 76 (gridV g) (gridV h)).run Tryz.prog W with
  | halt x w' => rw [hr] at hf; simp [Result.andThen] at hf
  | ok b w' =>
    rw [hr] at hf
    simp only [Result.andThen_ok] at hf
    rcases hf with ⟨h1, h2⟩ | ⟨j, p, h1, h2, h3⟩
    · cases b with
      | true => simp at h1
      | false =>
        simp at h1
        have hne : ¬ g = h := fun e => h2 (h, .bool true) (by simp) e.symm
        rw [h1, decide_eq_false hne]
    · cases b with
      | false => simp at h1
      | true =>
        simp at h1
        have he : g = h := by
          have := List.mem_of_getElem? h2
          rw [List.mem_singleton.1 this] at h3; exact h3.symm
        rw [h1.2, decide_eq_true he]
theorem equalIn_grid {g h : Grid} (hg : okG g) (hh : okG h) (W : World) : (Op.equalIn 10000 76 (.agg (gridA g)) (.agg (gridA h))).run Tryz.prog W = .ok (decide (g = h)) W := equal_grid hg hh W

def formatC (l : List Q) : List UInt8 × Nat := if checkN l ≠ 0 then ([], checkN l) else if normL l = l then (textG (layG l), 0) else ([], 4)

set_option maxRecDepth 100000 in
set_option maxHeartbeats 1000000 in
theorem Format_any (l : List Q) (v : Value) (w : World) (h : HasQ w v l) :
    Calls Tryz.prog 17 #[v] w fun e w' => e = .returned (.tuple #[.string ⟨(formatC l).1.toArray⟩, .int .i64 (formatC l).2]) ∧ Below w.heap.size w w' := by
  have H := Lib.hid h; clear h
  go_enter Tryz.func17, Tryz.ntmps17
  go_wp2_with fail
  refine (check_any l v w H.out).mono ?_
  rintro e w1 ⟨rfl, hB1⟩
  by_cases hc : checkN l = 0
  case neg =>
    have hc1 : ((checkN l : Int) != 0) = true := by simpa using hc
    have HC : Hid (formatC l = ([], checkN l)) := Lib.hid (by rw [formatC, if_pos hc])
    clear hc
    go_wp2_with fail
    go_ret2
    exact ⟨by rw [HC.out]; rfl, hB1⟩
  have hc1 : ((checkN l : Int) != 0) = false := by simpa using hc
  have HC := Lib.hid hc; clear hc
  obtain ⟨okl, hne, hlen⟩ := checkN_ok HC.out
  have HOK := Lib.hid okl; clear okl
  have HNE := Lib.hid hne; clear hne hlen
  go_wp2_with fail
  refine (lay_any l HOK.out.1 v w1 (H.out.below hB1)).mono ?_
  rintro e w2 ⟨rfl, hB2⟩
  have hB : Below w.heap.size w w2 := hB1.trans (hB2.mono hB1.size)
  clear hB1 hB2
  unfold gridV
  go_upto_region 5 with (refine wpList_store_row rfl 76 _ _ rfl w2.heap.size rfl 76 _ (gridA (layG l)) rfl (World.alloc_heap_new w2 _) (by rw [size_gridA]; exact sizeG) (by rw [gridA_zero, size_gridA, size_gridA]) (gridA_one _) ?_; rw [World.setRow_alloc_new])
  have hG := HasG.new w2 (layG l)
  have hB3 := hB.alloc hB.size (.cells (gridA (layG l)) 76)
  clear hB
  revert hG hB3
  generalize w2.alloc (.cells (gridA (layG l)) 76) = w3
  intro hG hB3
  go_wp2_with (refine wpList_load_row rfl 76 _ rfl w2.heap.size rfl 76 _ (0, 0) _ hG Tryz.underlying76 rfl (by rw [size_gridA]; exact sizeG) ?_)
  refine (moved_any (layG l) w3).mono ?_
  rintro e w4 ⟨rfl, hB4⟩
  have hG4 := hG.below hB4
  have hB5 := hB3.trans (hB4.mono hB3.size)
  clear hG hB3 hB4
  unfold gridV
  go_upto_region 6 with (refine wpList_store_row rfl 76 _ _ rfl w4.heap.size rfl 76 _ (gridA (movedG (layG l))) rfl (World.alloc_heap_new w4 _) (by rw [size_gridA]; exact sizeG) (by rw [gridA_zero, size_gridA, size_gridA]) (gridA_one _) ?_; rw [World.setRow_alloc_new])
  have hM := HasG.new w4 (movedG (layG l))
  have hG6 := hG4.alloc (.cells (gridA (movedG (layG l))) 76)
  have hB6 := hB5.alloc hB5.size (.cells (gridA (movedG (layG l))) 76)
  clear hG4 hB5
  revert hM hG6 hB6
  generalize w4.alloc (.cells (gridA (movedG (layG l))) 76) = w6
  intro hM hG6 hB6
  have hneq := equalIn_grid (okG_moved (okG_lay HOK.out.1)) (okG_lay HOK.out.1) w6
  have hsame : movedG (layG l) = layG l ↔ normL l = l := by
    have hr : RepG (layG l) l := rep_lay HOK.out.1
    have hl := hr.list HNE.out (Srt.nodup HOK.out.2)
    constructor
    · intro e; rw [← hl, e, lay_list HOK.out]
    · intro e; exact listG_inj (okG_moved (okG_lay HOK.out.1)) (okG_lay HOK.out.1) (by rw [hl, lay_list HOK.out, e])
  by_cases hn : normL l = l
  · rw [decide_eq_true (hsame.2 hn)] at hneq
    have HF : Hid (formatC l = (textG (layG l), 0)) := Lib.hid (by rw [formatC, if_neg (fun h => h HC.out), if_pos hn])
    clear hsame hn
    go_wp2_with (first
      | (refine wpList_load_row rfl 76 _ rfl w2.heap.size rfl 76 _ (0, 0) _ hG6 Tryz.underlying76 rfl (by rw [size_gridA]; exact sizeG) ?_)
      | (refine wpList_load_row rfl 76 _ rfl w4.heap.size rfl 76 _ (0, 0) _ hM Tryz.underlying76 rfl (by rw [size_gridA]; exact sizeG) ?_))
    refine (format_any (layG l) (okG_lay HOK.out.1) w6).mono ?_
    rintro e w7 ⟨rfl, hB7⟩
    have hB8 := hB6.trans (hB7.mono hB6.size)
    go_wp2_with fail
    go_ret2
    exact ⟨by rw [HF.out]; rfl, hB8⟩
  · rw [decide_eq_false (fun e => hn (hsame.1 e))] at hneq
    have HF : Hid (formatC l = ([], 4)) := Lib.hid (by rw [formatC, if_neg (fun h => h HC.out), if_neg hn])
    clear hsame hn
    go_wp2_with (first
      | (refine wpList_load_row rfl 76 _ rfl w2.heap.size rfl 76 _ (0, 0) _ hG6 Tryz.underlying76 rfl (by rw [size_gridA]; exact sizeG) ?_)
      | (refine wpList_load_row rfl 76 _ rfl w4.heap.size rfl 76 _ (0, 0) _ hM Tryz.underlying76 rfl (by rw [size_gridA]; exact sizeG) ?_))
    go_ret2
    exact ⟨by rw [HF.out]; rfl, hB6⟩
end Go.Proofs.YtimnmfjbfbkooaaGreatDoor
