/- What known asks: plain. -/
import Derived.Test.YtimnmfjbfbkooaaGreatDoorKi
namespace Go.Proofs.YtimnmfjbfbkooaaGreatDoor
set_option linter.all false
set_option linter.unusedSimpArgs false
set_option linter.unusedVariables false
open Go.RowKit

def halfL : List Q := [⟨0, 0, 0⟩, ⟨0, 0, 1⟩]
def oblongL : List Q := [⟨0, 0, 0⟩, ⟨0, 0, 1⟩, ⟨0, 0, 2⟩, ⟨0, 0, 3⟩, ⟨1, 0, 0⟩, ⟨1, 0, 1⟩, ⟨1, 0, 2⟩, ⟨1, 0, 3⟩]
def greatL : List Q := [⟨0, 0, 0⟩, ⟨0, 0, 1⟩, ⟨0, 0, 2⟩, ⟨0, 0, 3⟩, ⟨1, 0, 0⟩, ⟨1, 0, 1⟩, ⟨1, 0, 2⟩, ⟨1, 0, 3⟩, ⟨0, 1, 0⟩, ⟨0, 1, 1⟩, ⟨0, 1, 2⟩, ⟨0, 1, 3⟩, ⟨1, 1, 0⟩, ⟨1, 1, 1⟩, ⟨1, 1, 2⟩, ⟨1, 1, 3⟩]
theorem half_is : kindC ⟨#[104, 97, 108, 102]⟩ = (halfL, 0) := by decide +kernel
theorem oblong_is : kindC ⟨#[111, 98, 108, 111, 110, 103]⟩ = (oblongL, 0) := by decide +kernel
theorem great_is : parseC [102, 102, 47, 102, 102] = (greatL, 0) := by decide +kernel
theorem half_images : (diffW halfL).length = 4 := by decide +kernel
theorem half_ok : checkN halfL = 0 := by decide +kernel
theorem oblong_places : (placesC oblongL greatL).2 = 0 ∧ (placesC oblongL greatL).1.length = 4 := by decide +kernel
theorem half_places : (placesC halfL greatL).2 = 0 ∧ (placesC halfL greatL).1.length = 16 := by decide +kernel
theorem great_format : formatC greatL = ([102, 102, 47, 102, 102], 0) := by decide +kernel
def jointLs : List (List Q) := [[⟨0, 0, 0⟩, ⟨0, 0, 1⟩], [⟨0, 0, 2⟩, ⟨0, 0, 3⟩]]
theorem joint_code : jointsCode jointLs = 0 := by decide +kernel
theorem joint_es : jointE jointLs = [⟨0, 0, 1⟩, ⟨0, 0, 3⟩] ∨ jointE jointLs = [⟨0, 0, 3⟩, ⟨0, 0, 1⟩] := by decide +kernel
theorem joint_sorted {es : List E} (hp : es.Perm (jointE jointLs)) (hs : es.Pairwise (fun a b => ¬ ltE b a)) : es = [⟨0, 0, 1⟩, ⟨0, 0, 3⟩] := by
  have hlt : ltE ⟨0, 0, 1⟩ ⟨0, 0, 3⟩ := by unfold ltE Q.lt E.toQ; decide
  have hp2 : es.Perm [⟨0, 0, 1⟩, ⟨0, 0, 3⟩] := by
    rcases joint_es with h | h
    · rwa [h] at hp
    · rw [h] at hp; exact hp.trans (List.Perm.swap _ _ _)
  have hl := hp2.length_eq
  match es, hl, hp2, hs with
  | [a, b], _, hp2, hs =>
    have ha : a ∈ [(⟨0, 0, 1⟩ : E), ⟨0, 0, 3⟩] := hp2.mem_iff.1 (by simp)
    have hb : b ∈ [(⟨0, 0, 1⟩ : E), ⟨0, 0, 3⟩] := hp2.mem_iff.1 (by simp)
    have hn : [a, b].Nodup := hp2.nodup_iff.2 (by decide)
    simp only [List.mem_cons, List.not_mem_nil, or_false] at ha hb
    rcases ha with rfl | rfl <;> rcases hb with rfl | rfl
    · exact absurd hn (by decide)
    · rfl
    · exact absurd hlt (by simpa using hs)
    · exact absurd hn (by decide)
end Go.Proofs.YtimnmfjbfbkooaaGreatDoor
