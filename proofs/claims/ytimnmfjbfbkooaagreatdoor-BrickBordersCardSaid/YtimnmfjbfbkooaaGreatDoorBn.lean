/- BrickSpelled and BrickFits: the plain law of Norm and Put. -/
import Derived.Test.YtimnmfjbfbkooaaGreatDoorBp
namespace Go.Proofs.YtimnmfjbfbkooaaGreatDoor
set_option linter.all false
set_option linter.unusedSimpArgs false
set_option linter.unusedVariables false
open Go.RowKit

theorem norm_in {l : List Q} (h : okQ l) (hl : l ≠ []) : ∀ q ∈ normL l, inQ q := fun q hq => by
  have h1 := mem_normL.1 hq
  have h2 := h.1 _ h1
  have h3 := minL_le (·.x) h1
  have h4 := minL_le (·.y) h1
  unfold inQ at h2 ⊢
  simp only [sh] at h2 h3 h4
  have hx : 0 ≤ leftL l ∧ 0 ≤ lowL l := by
    obtain ⟨q, hq, e⟩ := minL_mem (·.x) hl
    obtain ⟨p, hp, e'⟩ := minL_mem (·.y) hl
    have := h.1 q hq; have := h.1 p hp
    unfold inQ at *; unfold leftL lowL; omega
  unfold leftL lowL at *
  omega
theorem norm_code {l : List Q} (hc : checkN l = 0) : putC l false 0 0 0 = (normL l, 0) := by
  obtain ⟨h, hl, _⟩ := checkN_ok hc
  have hb : ∀ q ∈ normL l, 0 ≤ q.x ∧ q.x < 16 ∧ 0 ≤ q.y ∧ q.y < 16 := fun q hq => by
    have h1 := mem_normL.1 hq
    have h2 := h.1 _ h1
    have h3 := minL_le (·.x) h1
    have h4 := minL_le (·.y) h1
    unfold inQ at h2
    simp only [sh] at h2 h3 h4
    have hx : 0 ≤ leftL l ∧ 0 ≤ lowL l := by
      obtain ⟨q, hq, e⟩ := minL_mem (·.x) hl
      obtain ⟨p, hp, e'⟩ := minL_mem (·.y) hl
      have := h.1 q hq; have := h.1 p hp
      unfold inQ at *; unfold leftL lowL; omega
    unfold leftL lowL at *
    omega
  have hne : normL l ≠ [] := by rw [← imgL_id]; exact imgL_ne hl
  have hw : widthL (normL l) ≤ 16 ∧ heightL (normL l) ≤ 16 := by
    obtain ⟨q, hq, e⟩ := maxL_mem (·.x) hne
    obtain ⟨p, hp, e'⟩ := maxL_mem (·.y) hne
    have := hb q hq; have := hb p hp
    unfold widthL heightL; omega
  have hid : imgL false (0 : Int).toNat l = normL l := imgL_id
  have hf : fitsP l false 0 0 0 := ⟨by omega, by omega, by omega, by rw [hid]; omega, by rw [hid]; omega⟩
  rw [putC, if_neg (fun h => h hc), if_pos hf, hid]
  have : (normL l).map (sh 0 0) = normL l := by
    have e : sh 0 0 = id := by funext q; rw [sh_zero]; rfl
    rw [e, List.map_id]
  rw [this]
theorem norm_ok {l : List Q} (hc : checkN l = 0) : checkN (normL l) = 0 ∧ normL (normL l) = normL l := by
  obtain ⟨h, hl, hlen⟩ := checkN_ok hc
  have hne : normL l ≠ [] := by rw [← imgL_id]; exact imgL_ne hl
  refine ⟨?_, ?_⟩
  · unfold checkN
    rw [if_neg (by rw [length_normL]; omega), if_pos ⟨⟨norm_in h hl, srt_normL (Srt.nodup h.2)⟩, hne⟩]
  · have := normL_img (Srt.nodup h.2) (fun q hq => (h.1 q hq).okS) (w := (false, 0)) (by decide)
    have e : imgW l (false, 0) = normL l := imgL_id
    rwa [e] at this
end Go.Proofs.YtimnmfjbfbkooaaGreatDoor
