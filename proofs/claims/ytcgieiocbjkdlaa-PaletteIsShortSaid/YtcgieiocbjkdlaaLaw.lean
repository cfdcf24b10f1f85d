/- From the row's words to ours. -/
import Derived.Test.YtcgieiocbjkdlaaSan2
namespace Go.Proofs.Ytcgieiocbjkdlaa
open Go.RowKit

theorem row_sl {k : IntKind} {w : World} {a : Option Addr} {len cap : Nat} {zs : List Int}
    (h : (a = none ∧ len = 0 ∧ cap = 0 ∧ zs = []) ∨ ∃ x, a = some x ∧ len ≤ cap ∧ cap ≤ maxLen ∧ zs.length = cap ∧ (∀ i, i < zs.length → w.cell? (x.add i) = some (.int k (zs.getD i 0))) ∧ ∀ n ∈ zs, (Lit.int k n).wf = true) :
    ∃ xs : List Int, len = xs.length ∧ Sl w k a xs := by
  rcases h with ⟨rfl, rfl, rfl, rfl⟩ | ⟨x, rfl, hl, hm, hz, hc, hw⟩
  · exact ⟨[], rfl, Sl.nil _ _ _⟩
  · refine ⟨zs.take len, by simp; omega, fun i y hy => ?_⟩
    rw [List.getElem?_take] at hy
    split at hy
    · rename_i hi
      have h1 := hc i (by omega)
      have h2 : w.cell? (x.add i) = some (.int k y) := by rw [h1]; simp [List.getD, hy]
      obtain ⟨b, off, spot⟩ := x
      have hspot : spot = none := by
        have h0 := hc 0 (by omega)
        simpa [Addr.add] using World.cell?_spot h0
      subst hspot
      refine ⟨b, off, rfl, ?_⟩
      have : (⟨b, off, none⟩ : Addr).add i = ⟨b, off + i, none⟩ := by unfold Addr.add; split <;> simp_all
      rwa [this] at h2
    · cases hy
theorem str_of (s : ByteArray) : ∃ t, s = strOfNums t ∧ Byt t := ⟨bs s, (str_bs s).symm, bs_byt s⟩
theorem same_true {W : World} (a b : Option Addr) (c d : Nat) (xs : List Int) (hl : xs.length ≤ 1000000) (h : Sl W .i64 a xs) (h' : Sl W .i64 b xs) :
    Calls Try.prog 15 #[.slice a xs.length c, .slice b xs.length d] W fun e w' => e = .returned (.bool true) ∧ Below W.heap.size W w' :=
  (ref_same a b c d xs xs W hl hl h h').mono (by rintro e w' ⟨rfl, hb⟩; exact ⟨ret_bool (by simp), hb⟩)
end Go.Proofs.Ytcgieiocbjkdlaa
