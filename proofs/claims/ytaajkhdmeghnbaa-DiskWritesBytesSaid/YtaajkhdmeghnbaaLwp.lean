/- Write, plainly. -/
import Derived.Test.YtaajkhdmeghnbaaOne
namespace Go.Proofs.Ytaajkhdmeghnbaa
open Go.RowKit Go.Sort

theorem step_off (d : Dk) (h : d.step.2 = false) : d.step.1.off = true := by
  unfold Dk.step at h ⊢
  split at h
  · rw [if_pos ‹_›]
  · split at h <;> cases h
theorem step_on (d : Dk) (h : d.step.2 = true) : d.step.1.off = d.off := by
  unfold Dk.step at h ⊢
  split at h
  · cases h
  · rw [if_neg ‹_›]
    split <;> rfl
theorem write_gives {D : Dk} (ho : DkOk D) (i at_ : Int) (t : List Int) :
    (∃ D6, D.write i at_ t = (D6, 20) ∧ D6.off = true ∧ D6.image = D.image) ∨
    (D.write i at_ t = (D, 1) ∧ D.off = false ∧ (i < 0 ∨ (D.p.length : Int) ≤ i ∨ at_ < 0 ∨ 128 < at_ ∨ 128 < at_ + t.length)) ∨
    (∃ D6, ∃ i' o : Nat, D.write i at_ t = (D6, 0) ∧ i = i' ∧ at_ = o ∧ i' < D.p.length ∧ o + t.length ≤ 128 ∧ D6.image = D.image ∧
      ∀ (k : Nat) (l : List Int), (D.reads D.p.length)[k]? = some l → l.length = 128 ∧ D6.read (k : Int) = (if k = i' then put l o t else l, 0)) := by
  by_cases h1 : D.off = true
  · left
    refine ⟨D, ?_, h1, rfl⟩
    unfold Dk.write eDown
    rw [if_pos h1]
  replace h1 : D.off = false := by simpa using h1
  by_cases h2 : (D.is i && decide (0 ≤ at_) && decide (at_ ≤ 128) && decide ((t.length : Int) ≤ 128 - at_)) = false
  · right; left
    refine ⟨?_, h1, ?_⟩
    · unfold Dk.write eArg
      rw [if_neg (by rw [h1]; simp), if_pos h2]
    · unfold Dk.is at h2
      simp only [Bool.and_eq_false_iff, decide_eq_false_iff_not] at h2
      omega
  rw [Bool.not_eq_false] at h2
  by_cases h3 : D.step.2 = false
  · left
    refine ⟨D.step.1, ?_, step_off D h3, ?_⟩
    · unfold Dk.write eDown
      rw [if_neg (by rw [h1]; simp), if_neg (by rw [h2]; simp), if_pos h3]
    · unfold Dk.image; rw [step_p]
  · right; right
    replace h3 : D.step.2 = true := by simpa using h3
    have h2' := h2
    simp only [Bool.and_eq_true, decide_eq_true_eq] at h2
    obtain ⟨⟨⟨hi, ha⟩, hb⟩, hc⟩ := h2
    obtain ⟨i', x, rfl, hx⟩ := is_at hi
    obtain ⟨o, rfl⟩ := Int.eq_ofNat_of_zero_le ha
    have hil := (List.getElem?_eq_some_iff.1 hx).1
    refine ⟨{ D.step.1 with p := D.p.modify i' fun x => (x.1, some (put x.now o t)) }, i', o, ?_, rfl, rfl, hil, by omega, ?_, ?_⟩
    · unfold Dk.write
      rw [if_neg (by rw [h1]; simp), if_neg (by rw [h2']; simp), if_neg (by rw [h3]; simp), Int.toNat_natCast, Int.toNat_natCast]
    · unfold Dk.image
      apply List.ext_getElem?
      intro k
      show ((List.modify _ _ _).map _)[k]? = _
      rw [List.getElem?_map, List.getElem?_map, List.getElem?_modify]
      cases D.p[k]? with
      | none => rfl
      | some y => by_cases e : i' = k <;> simp [e]
    · intro k l hl
      have hk : k < D.p.length := by
        have := (List.getElem?_eq_some_iff.1 hl).1
        rwa [reads_len] at this
      rw [reads_at D hk] at hl
      injection hl with hl
      have hy := List.getElem?_eq_getElem hk
      rw [read_on h1 hy] at hl
      simp only at hl
      refine ⟨by rw [← hl]; exact (ho.pages _ (List.getElem_mem hk)).now.1, ?_⟩
      have hon : ({ D.step.1 with p := D.p.modify i' fun x => (x.1, some (put x.now o t)) } : Dk).off = false := (step_on D h3).trans h1
      have hat : ({ D.step.1 with p := D.p.modify i' fun x => (x.1, some (put x.now o t)) } : Dk).p[k]? = some (if i' = k then ((D.p[k]).1, some (put (D.p[k]).now o t)) else D.p[k]) := by
        show (List.modify _ _ _)[k]? = _
        rw [List.getElem?_modify, hy]
        by_cases e : i' = k <;> simp [e]
      rw [read_on hon hat]
      by_cases e : i' = k
      · rw [if_pos e, if_pos e.symm, ← hl]; rfl
      · rw [if_neg e, if_neg (fun h => e h.symm), ← hl]
end Go.Proofs.Ytaajkhdmeghnbaa
