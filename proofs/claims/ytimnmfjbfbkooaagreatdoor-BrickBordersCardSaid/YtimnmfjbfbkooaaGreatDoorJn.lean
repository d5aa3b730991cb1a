/- check of several shapes; Joints. -/
import Derived.Test.YtimnmfjbfbkooaaGreatDoorOd
namespace Go.Proofs.YtimnmfjbfbkooaaGreatDoor
set_option linter.all false
set_option linter.unusedSimpArgs false
set_option linter.unusedVariables false
open Go.RowKit
attribute [local go_sem] Oper.semAt_some

def checks : List (List Q) → Nat
  | [] => 0
  | l :: ls => if checkN l = 0 then checks ls else checkN l
theorem checks_drop {ls : List (List Q)} {k : Nat} {l : List Q} (h : ls[k]? = some l) : checks (ls.drop k) = if checkN l = 0 then checks (ls.drop (k + 1)) else checkN l := by
  obtain ⟨hk, rfl⟩ := List.getElem?_eq_some_iff.1 h
  rw [List.drop_eq_getElem_cons hk, checks]
theorem checks_zero {ls : List (List Q)} (h : checks ls = 0) : ∀ l ∈ ls, checkN l = 0 := by
  induction ls with
  | nil => intro l hl; cases hl
  | cons a ls ih =>
    simp only [checks] at h
    split at h
    · rename_i h0
      intro l hl
      rcases List.mem_cons.1 hl with rfl | hl
      · exact h0
      · exact ih h l hl
    · rename_i h0; exact absurd h h0

set_option maxRecDepth 100000 in
set_option maxHeartbeats 1000000 in
theorem checkAll_any (ls : List (List Q)) (v : Value) (w : World) (h : HasQQ w v ls) :
    Calls Tryz.prog 45 #[v] w fun e w' => e = .returned (.int .i64 (checks ls)) ∧ Below w.heap.size w w' := by
  rcases h with ⟨rfl, rfl⟩ | ⟨a, cap, vs, rfl, hlc, hcm, hva, hvl, heach⟩
  case inl =>
    go_enter Tryz.func45, Tryz.ntmps45
    go_wp2
    refine wp_loop_rounds 1 ?_
    rw [rounds_succ]
    go_wp2
    go_ret
    exact ⟨rfl, Below.refl _ _⟩
  have hm : ls.length ≤ maxLen := Nat.le_trans hlc hcm
  simp only [maxLen] at hm
  have HV := Lib.hid hva; clear hva
  have HE := Lib.hid heach; clear heach
  have HVL := Lib.hid hvl; clear hvl
  go_enter Tryz.func45, Tryz.ntmps45
  go_wp2
  go_loopw [8] (fun u wr => ∃ k : Nat, k ≤ ls.length ∧ u = .int .i64 k ∧ Hid (checks ls = checks (ls.drop k) ∧ Below w.heap.size w wr)) (fun u _ => ls.length - (intOf u).toNat)
  case atStart => exact ⟨0, by omega, rfl, Lib.hid ⟨rfl, Below.refl _ _⟩⟩
  case round =>
    obtain ⟨k, hk, rfl, HR⟩ := hrel
    by_cases hlt : k < ls.length
    · obtain ⟨l, hl⟩ : ∃ l, ls[k]? = some l := ⟨_, List.getElem?_eq_getElem hlt⟩
      obtain ⟨u, hu⟩ : ∃ u, vs[k]? = some u := ⟨_, List.getElem?_eq_getElem (by rw [HVL.out]; exact hlt)⟩
      have c0 := (HV.out.below HR.out.2).at_ k u hu
      have hq := (HE.out k u l hu hl).below HR.out.2
      have HQ := Lib.hid hq; clear hq
      have HL := Lib.hid hl; clear hl hu
      have hu' : ∃ p n c, u = .slice p n c := by
        rcases HQ.out with ⟨rfl, _⟩ | ⟨a, c, rfl, _⟩
        · exact ⟨_, _, _, rfl⟩
        · exact ⟨_, _, _, rfl⟩
      obtain ⟨up, un, uc, rfl⟩ := hu'
      go_wp2_with fail
      refine (check_any l _ wr HQ.out).mono ?_
      rintro e w1 ⟨rfl, hB1⟩
      have HB := Lib.hid (HR.out.2.trans (hB1.mono HR.out.2.size))
      by_cases hc : checkN l = 0
      · have hc1 : ((checkN l : Int) != 0) = false := by simpa using hc
        have HD : Hid (checks ls = checks (ls.drop (k + 1))) := Lib.hid (by rw [HR.out.1, checks_drop HL.out, if_pos hc])
        clear hc c0 hB1
        go_wp2_with fail
        go_roundw
        case rel => exact ⟨k + 1, by omega, by go_num, Lib.hid ⟨HD.out, HB.out⟩⟩
        case measure => simp [intOf]; omega
      · have hc1 : ((checkN l : Int) != 0) = true := by simpa using hc
        have HD : Hid (checks ls = checkN l) := Lib.hid (by rw [HR.out.1, checks_drop HL.out, if_neg hc])
        clear hc c0 hB1
        go_wp2_with fail
        go_ret
        exact ⟨by rw [HD.out]; rfl, HB.out⟩
    · obtain rfl : k = ls.length := by omega
      have HD : Hid (checks ls = 0) := Lib.hid (by rw [HR.out.1, List.drop_of_length_le (Nat.le_refl _)]; rfl)
      go_wp2
      go_ret
      exact ⟨by rw [HD.out]; rfl, HR.out.2⟩

/-! ### Which shape has a quarter -/
def shapeM (S : List (Q × Nat)) : List (Q × Value) := S.map fun p => (p.1, Value.int .i64 p.2)
theorem shapeM_keys (S : List (Q × Nat)) : (shapeM S).map (·.1) = S.map (·.1) := by simp [shapeM, Function.comp_def]
theorem mem_shapeM {S : List (Q × Nat)} {p : Q × Nat} (h : p ∈ S) : (p.1, Value.int .i64 p.2) ∈ shapeM S := List.mem_map.2 ⟨p, h, rfl⟩
def shapeAt (S : List (Q × Nat)) (q : Q) : Nat := ((S.find? (fun p => p.1 = q)).map (·.2)).getD 0
theorem shapeAt_mem {S : List (Q × Nat)} {q : Q} (h : q ∈ S.map (·.1)) : (q, shapeAt S q) ∈ S := by
  obtain ⟨p, hp, rfl⟩ := List.mem_map.1 h
  unfold shapeAt
  cases hf : S.find? (fun r => decide (r.1 = p.1)) with
  | none => have := List.find?_eq_none.1 hf p hp; simp at this
  | some r =>
    have h1 := List.find?_some hf
    have h2 := List.mem_of_find?_eq_some hf
    simp at h1
    simp only [Option.map_some, Option.getD_some]
    rw [← h1]; exact h2
def jointP (S : List (Q × Nat)) : List Q → Bool
  | [a, b] => shapeAt S a != shapeAt S b
  | _ => false

set_option maxRecDepth 100000 in
set_option maxHeartbeats 1000000 in
theorem jointsP_any (S : List (Q × Nat)) (bs bx : Nat) (row : List Q) (v : Value) (W : World) (hv : HasQ W v row) (hS : HasM Q.val W bs (shapeM S)) (hx : Boxed W bx 99 (.map (some bs)))
    (hSk : (S.map (·.1)).Nodup) (hSi : ∀ p ∈ S, inQ p.1) (hrow : ∀ q ∈ row, q ∈ S.map (·.1)) :
    Calls Tryz.prog 64 #[v, .pointer (some ⟨bx, 0, none⟩)] W fun e W' => e = .returned (.bool (jointP S row)) ∧ Below W.heap.size W W' := by
  by_cases h2 : row.length = 2
  · obtain ⟨⟨ax, ay, as_⟩, ⟨bx', b_y, bs'⟩, rfl⟩ : ∃ a b, row = [a, b] := by
      match row, h2 with
      | [a, b], _ => exact ⟨a, b, rfl⟩
    rcases hv with ⟨_, h⟩ | ⟨ad, cap, rfl, hlc, hcm, hqs⟩
    · cases h
    have look : ∀ q ∈ S.map (·.1), ∀ n, (Instr.lookup 99 (.map (some bs)) (Q.val q) false).run Tryz.prog (W.drewN n) = .ok (.int .i64 (shapeAt S q)) (W.drewN n) := fun q hq n => by
      have := run_lookup_hit encQ Tryz.underlying99 (hS.drewN (n := n)) (fun p hp => by
        simp only [shapeM, List.mem_map] at hp
        obtain ⟨r, hr, rfl⟩ := hp; exact hSi r hr) (by rw [shapeM_keys]; exact hSk) (mem_shapeM (shapeAt_mem hq)) false
      simpa using this
    have l0 := look ⟨ax, ay, as_⟩ (hrow _ (by simp))
    have l1 := look ⟨bx', b_y, bs'⟩ (hrow _ (by simp))
    have hp : jointP S [⟨ax, ay, as_⟩, ⟨bx', b_y, bs'⟩] = (shapeAt S ⟨ax, ay, as_⟩ != shapeAt S ⟨bx', b_y, bs'⟩) := rfl
    have HP := Lib.hid hp; clear hp
    have a0 := hqs.at0 0 _ rfl
    have a1 := hqs.at1 0 _ rfl
    have a2 := hqs.at2 0 _ rfl
    have b0 := hqs.at0 1 _ rfl
    have b1 := hqs.at1 1 _ rfl
    have b2 := hqs.at2 1 _ rfl
    have c0 := hx.cell
    clear look hqs hS hx
    revert l0 l1 HP
    generalize shapeAt S ⟨ax, ay, as_⟩ = i
    generalize shapeAt S ⟨bx', b_y, bs'⟩ = j
    intro l0 l1 HP
    simp [Addr.add] at a0 a1 a2 b0 b1 b2
    unfold Q.val at l0 l1
    go_enter Tryz.func64, Tryz.ntmps64
    go_wp2
    go_quiet (fail)
    go_wp2
    go_ret
    have e : ((i : Int) != (j : Int)) = (i != j) := by rw [Bool.eq_iff_iff]; simp; omega
    exact ⟨by rw [HP.out, ← e]; rfl, below_drewN _ _ _⟩
  · have hne : jointP S row = false := by
      unfold jointP
      split
      · exact absurd rfl h2
      · rfl
    have HN := Lib.hid hne; clear hne
    rcases hv with ⟨rfl, rfl⟩ | ⟨ad, cap, rfl, hlc, hcm, hqs⟩
    case inl =>
      go_enter Tryz.func64, Tryz.ntmps64
      go_wp2
      go_quiet (fail)
      go_wp2
      go_ret
      exact ⟨rfl, below_drewN _ _ _⟩
    case inr =>
      have h2' : ¬ (row.length : Int) = 2 := by omega
      have hd : decide ((row.length : Int) = 2) = false := decide_eq_false h2'
      have hb : ((row.length : Int) == 2) = false := by rw [Bool.eq_false_iff]; intro h; exact h2' (by simpa using h)
      clear h2'
      clear h2
      go_enter Tryz.func64, Tryz.ntmps64
      go_wp2
      go_quiet (fail)
      go_wp2
      go_ret
      exact ⟨by rw [HN.out]; rfl, below_drewN _ _ _⟩
end Go.Proofs.YtimnmfjbfbkooaaGreatDoor
