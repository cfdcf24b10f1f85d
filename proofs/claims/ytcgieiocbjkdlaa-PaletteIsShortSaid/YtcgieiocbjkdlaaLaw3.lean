/- One more word for the laws that use no specification. -/
import Derived.Test.YtcgieiocbjkdlaaLaw2
namespace Go.Proofs.Ytcgieiocbjkdlaa
theorem Pal.packB_len130 {l : List Int} (hb : Pal.bad l = false) : (Pal.packB l).length ≤ 130 := by
  have hl := Pal.good_len hb
  have hd := Pal.diff_length l
  by_cases h0 : l.length = 0
  · rw [Pal.packB_nil hb h0]; decide
  · rw [Pal.packB_length hb h0]
    have h3 : Pal.width (Pal.diff l).length ≤ 8 := by unfold Pal.width; repeat (split <;> try omega)
    have h4 : l.length * Pal.width (Pal.diff l).length ≤ l.length * 8 := Nat.mul_le_mul_left _ h3
    omega
end Go.Proofs.Ytcgieiocbjkdlaa
