/- Words for the laws that use no specification. -/
import Derived.Test.YtcgieiocbjkdlaaLaw
import Derived.Test.YtcgieiocbjkdlaaPal2
namespace Go.Proofs.Ytcgieiocbjkdlaa
open Go.RowKit

theorem wf_u8 {x : Int} (h : (Lit.int .u8 x).wf = true) : 0 ≤ x ∧ x ≤ 255 := by
  simp [Lit.wf] at h
  exact h
theorem Pal.packB_byt {l : List Int} (h : Pal.bad l = false) : Byt (Pal.packB l) := by
  have hl := Pal.good_len h
  have hb := Pal.bad_bytes h
  by_cases h0 : l.length = 0
  · rw [Pal.packB_nil h h0]
    intro x hx
    simp at hx
    subst hx
    decide
  · rw [Pal.packB_main h h0, Pal.packMain_eq]
    have hd := Pal.diff_length l
    intro x hx
    rcases List.mem_cons.1 hx with rfl | hx
    · omega
    rcases List.mem_cons.1 hx with rfl | hx
    · omega
    rcases List.mem_append.1 hx with hx | hx
    · exact hb x ((Pal.mem_diff l x).1 hx)
    · unfold Pal.pk Pal.packs at hx
      simp only [List.mem_map, List.mem_range] at hx
      obtain ⟨j, hj, rfl⟩ := hx
      rcases Pal.width_cases (Pal.diff l).length with h1 | hw
      · rw [show Pal.width (Pal.diff l).length = 0 by unfold Pal.width; rw [if_pos h1]] at hj
        omega
      · have := (Pal.byt_lt _ (Pal.ix l) hw l.length (fun i hi => Nat.lt_of_lt_of_le (Pal.ix_lt hi) (Pal.width_fits (by omega))) j).2.2
        omega
theorem Pal.dltB_byt {old new : List Int} (h : Pal.brick old = true) (h' : Pal.brick new = true) : Byt (Pal.dltB old new) := by
  rw [Pal.dltB_good h h']
  refine Byt.append ?_ (Pal.packB_byt (Pal.chg_bad h'))
  intro x hx
  unfold Pal.bytes at hx
  simp only [List.mem_map, List.mem_range] at hx
  obtain ⟨j, hj, rfl⟩ := hx
  have := (Pal.byt_lt 1 (Pal.dbit old new) (.inl rfl) 64 (fun i _ => Pal.dbit_lt old new i) j).2.2
  omega
theorem Pal.dltB_le {old new : List Int} (h : Pal.brick old = true) (h' : Pal.brick new = true) : (Pal.dltB old new).length ≤ 1000000 := by
  rw [Pal.dltB_good h h', List.length_append, Pal.bytes_length]
  have hb := Pal.chg_bad (old := old) h'
  have hl := Pal.good_len hb
  have hd := Pal.diff_length (Pal.chg old new 64)
  by_cases h0 : (Pal.chg old new 64).length = 0
  · rw [Pal.packB_nil hb h0]; decide
  · rw [Pal.packB_length hb h0]
    have h3 : Pal.width (Pal.diff (Pal.chg old new 64)).length ≤ 8 := by unfold Pal.width; repeat (split <;> try omega)
    have h4 : (Pal.chg old new 64).length * Pal.width (Pal.diff (Pal.chg old new 64)).length ≤ (Pal.chg old new 64).length * 8 := Nat.mul_le_mul_left _ h3
    omega
end Go.Proofs.Ytcgieiocbjkdlaa
