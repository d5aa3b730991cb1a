/- Kind. -/
import Derived.Test.YtimnmfjbfbkooaaGreatDoorLw
namespace Go.Proofs.YtimnmfjbfbkooaaGreatDoor
set_option linter.all false
set_option linter.unusedSimpArgs false
set_option linter.unusedVariables false
open Go.RowKit
attribute [local go_sem] Oper.semAt_some

def kindsL : List (ByteArray × ByteArray) := [(⟨#[115, 113, 117, 97, 114, 101]⟩, ⟨#[102]⟩), (⟨#[111, 98, 108, 111, 110, 103]⟩, ⟨#[102, 102]⟩), (⟨#[103, 114, 101, 97, 116]⟩, ⟨#[102, 102, 47, 102, 102]⟩), (⟨#[104, 97, 108, 102]⟩, ⟨#[51]⟩),
  (⟨#[113, 117, 97, 114, 116, 101, 114]⟩, ⟨#[49]⟩), (⟨#[116, 114, 105, 97, 110, 103, 108, 101]⟩, ⟨#[54, 99]⟩), (⟨#[100, 105, 97, 109, 111, 110, 100]⟩, ⟨#[54, 99, 47, 51, 57]⟩), (⟨#[98, 101, 110, 116]⟩, ⟨#[102, 48, 47, 102, 102]⟩)]
def kindsA : Array Value := (kindsL.flatMap fun p => [Value.string p.1, Value.string p.2]).toArray
/-- The package's table of kinds lies as its initialiser lays it. -/
def KindsAt (W : World) : Prop := ∃ t fr, W.heap[0]? = some (.cells kindsA t fr)
theorem KindsAt.below {W W' : World} (h : KindsAt W) (e : Below W.heap.size W W') : KindsAt W' := by
  obtain ⟨t, fr, h⟩ := h
  exact ⟨t, fr, (e.block _ (Array.getElem?_eq_some_iff.1 h).1).trans h⟩
theorem kinds_get {k : Nat} (h : k < 8) (W : World) : ∃ n t, kindsL[k]? = some (n, t) ∧ (Instr.index 107 (.agg kindsA) (.int .i64 (k : Int))).run Tryz.prog W = .ok (.agg #[.string n, .string t]) W := by
  rcases (by omega : k = 0 ∨ k = 1 ∨ k = 2 ∨ k = 3 ∨ k = 4 ∨ k = 5 ∨ k = 6 ∨ k = 7) with rfl | rfl | rfl | rfl | rfl | rfl | rfl | rfl <;> exact ⟨_, _, rfl, by kernel_rfl⟩
def kindC (s : ByteArray) : List Q × Nat := match kindsL.find? (fun p => p.1.data.toList == s.data.toList) with
  | some p => parseC p.2.data.toList
  | none => ([], 7)
theorem find_drop {k : Nat} {p : ByteArray × ByteArray} (h : kindsL[k]? = some p) (s : ByteArray) : (kindsL.drop k).find? (fun p => p.1.data.toList == s.data.toList) = if p.1.data.toList == s.data.toList then some p else (kindsL.drop (k + 1)).find? (fun p => p.1.data.toList == s.data.toList) := by
  obtain ⟨hk, rfl⟩ := List.getElem?_eq_some_iff.1 h
  rw [List.drop_eq_getElem_cons hk, List.find?_cons]
  split <;> simp_all

set_option maxRecDepth 100000 in
set_option maxHeartbeats 1000000 in
theorem Kind_any (s : ByteArray) (w : World) (hk : KindsAt w) (hsh : w.ShapedOpen Tryz.prog) :
    Calls Tryz.prog 35 #[.string s] w fun e w' => ∃ u, e = .returned (.tuple #[u, .int .i64 (kindC s).2]) ∧ HasQ w' u (kindC s).1 ∧ Below w.heap.size w w' := by
  obtain ⟨t, fr, hkb⟩ := hk
  have HSH := Lib.hid hsh; clear hsh
  go_enter Tryz.func35, Tryz.ntmps35
  go_wp2_with (refine wpList_load_row rfl 107 _ rfl 0 rfl t kindsA fr _ hkb Tryz.underlying107 rfl (by kernel_rfl) ?_)
  go_loopw [7] (fun z wr => ∃ k : Nat, k ≤ 8 ∧ z = .int .i64 k ∧ Hid (kindsL.find? (fun p => p.1.data.toList == s.data.toList) = (kindsL.drop k).find? (fun p => p.1.data.toList == s.data.toList) ∧ Below w.heap.size w wr)) (fun z _ => 8 - (intOf z).toNat)
  case atStart => exact ⟨0, by omega, rfl, Lib.hid ⟨rfl, Below.refl _ _⟩⟩
  case round =>
    obtain ⟨k, hk, rfl, HR⟩ := hrel
    by_cases hlt : k < 8
    · obtain ⟨n, tx, hkk, hix⟩ := kinds_get hlt wr
      have hfd := find_drop hkk s
      clear hkk
      by_cases hq : n = s
      · subst hq
        simp only [beq_self_eq_true, if_true] at hfd
        have HC : Hid (kindC n = parseC tx.data.toList) := Lib.hid (by unfold kindC; rw [HR.out.1, hfd])
        clear hfd
        have hal : Below wr.heap.size wr (wr.alloc (.cells #[.string n, .string tx] 60)) := (Below.refl _ wr).alloc (Nat.le_refl _) _
        have HB := Lib.hid (HR.out.2.trans (hal.mono HR.out.2.size))
        have HP := Lib.hid (Parse_any tx (wr.alloc (.cells #[.string n, .string tx] 60)) (shaped_below HSH.out HB.out))
        clear hal
        go_wp2_with fail
        refine HP.out.mono ?_
        rintro e w5 ⟨u, rfl, hq, hb5⟩
        have HQ := Lib.hid hq; clear hq
        have HBF := Lib.hid (HB.out.trans (hb5.mono HB.out.size)); clear hb5 HP
        go_wp2_with fail
        go_ret2
        exact ⟨u, by rw [HC.out]; rfl, by rw [HC.out]; exact HQ.out, HBF.out⟩
      · have hb0 : (n.data.toList == s.data.toList) = false := by
          rw [Bool.eq_false_iff]
          intro h
          exact hq (ByteArray.ext (Array.toList_inj.mp (beq_iff_eq.1 h)))
        have hb2 : (n.toList == s.toList) = false := by rw [ByteArray.toList_eq, ByteArray.toList_eq]; exact hb0
        have hb1 : (n == s) = false := by rw [beq_toListBytes]; exact hb2
        simp only [hb0, Bool.false_eq_true, if_false] at hfd
        have HN : Hid (kindsL.find? (fun p => p.1.data.toList == s.data.toList) = (kindsL.drop (k + 1)).find? (fun p => p.1.data.toList == s.data.toList)) := Lib.hid (HR.out.1.trans hfd)
        clear hfd hb0
        have HB : Hid (Below w.heap.size w (wr.alloc (.cells #[.string n, .string tx] 60))) := Lib.hid (HR.out.2.alloc HR.out.2.size _)
        go_wp2_with fail
        go_roundw
        case rel => exact ⟨k + 1, by omega, by go_num, Lib.hid ⟨HN.out, HB.out⟩⟩
        case measure => simp [intOf]; omega
    · obtain rfl : k = 8 := by omega
      have HC : Hid (kindC s = ([], 7)) := Lib.hid (by unfold kindC; rw [HR.out.1]; rfl)
      go_wp2_with fail
      go_ret2
      exact ⟨.slice none 0 0, by rw [HC.out]; rfl, by rw [HC.out]; exact .inl ⟨rfl, rfl⟩, HR.out.2⟩
end Go.Proofs.YtimnmfjbfbkooaaGreatDoor
