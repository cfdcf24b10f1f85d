/- Words for the laws that use no specification. -/
import Derived.Test.YtcgieiocbjkdlaaLaw
import Derived.Test.YtcgieiocbjkdlaaPal2
namespace Go.Proofs.Ytcgieiocbjkdlaa
open Go.RowKit

theorem wf_u8 {x : Int} (h : (Lit.int .u8 x).wf = true) : 0 ≤ x ∧ x ≤ 255 := by
  simp [Lit.wf] at h
  exact h
theorem Pal.packB_byt {l : List Int} (h : Pal.bad l = false) : Byt (Pal.packB l) := by
  have hl := Pal.good_len h
  have hb := Pal.bad_bytes h
  by_cases h0 : l.length = 0
  · rw [Pal.packB_nil h h0]
    intro x hx
    simp at hx
    subst hx
    decide
  · rw [Pal.packB_main h h0, Pal.packMain_eq]
    have hd := Pal.diff_length l
    intro x hx
    rcases List.mem_cons.1 hx with rfl | hx
    · omega
    rcases List.mem_cons.1 hx with rfl | hx
    · omega
    rcases List.mem_append.1 hx with hx | hx
    · exact hb x ((Pal.mem_diff l x).1 hx)
    · unfold Pal.pk Pal.packs at hx
      simp only [List.mem_map, List.mem_range] at hx
      obtain ⟨j, hj, rfl⟩ := hx
      rcases Pal.width_cases (Pal.diff l).length with h1 | hw
      · rw [show Pal.width (Pal.diff l).length = 0 by unfold Pal.width; rw [if_pos h1]] at hj
        omega
      · have := (Pal.byt_lt _ (Pal.ix l) hw l.length (fun i hi => Nat.lt_of_lt_of_le (Pal.ix_lt hi) (Pal.width_fits (by omega))) j).2.2
        omega
end Go.Proofs.Ytcgieiocbjkdlaa
