import Derived.Test.YtabclecmehdeoaaGreatGGen
import Derived.Test.YtabclecmehdeoaaGreatGMtp
import Derived.Deep.Slices
import Derived.Deep.Fields
section
/- A slice of edits that comes in. -/
namespace Go.Proofs.YtabclecmehdeoaaGreat
open Go.RowKit Go.ChangeShapes Go.WideShapes
open Oct

section
variable {H : Type} {enc : TypeId × Value → H} {w : World} {base : Nat} {held : Bool}
theorem trod_edits {fuel : Nat} {x : DataW H × List MemPlace} {v : Value} (h : DataW.trod enc Tryz.prog w base (fun _ => true) held fuel 29 [v] = some x) :
    ∃ ha hcp, ∃ es : List Ed, v = .slice ha es.length hcp ∧ SlE w ha es ∧ es.length ≤ hcp := by
  rcases Go.Deep.open_slice Tryz.underlying29 h with ⟨h1, _⟩ | ⟨a, len, cap, m, n, D, Pl, h1, _, hl, _, hm, _, hi⟩
  · simp only [List.cons.injEq, and_true] at h1
    exact ⟨none, 0, [], h1, fun i ed h => (by simp at h), Nat.le_refl _⟩
  · simp only [List.cons.injEq, and_true] at h1
    simp only [if_true] at hm
    subst hm
    have key : ∀ i, i < len → ∃ ed : Ed, w.cell? (a.add (i * 4)) = some (.int .i64 ed.x) ∧ w.cell? (a.add (i * 4 + 1)) = some (.int .i64 ed.y) ∧ w.cell? (a.add (i * 4 + 2)) = some (.int .i64 ed.z) ∧ w.cell? (a.add (i * 4 + 3)) = some (.int .i64 ed.c) := by
      intro i hil
      obtain ⟨cs, hcs, ht⟩ := hi i (by omega)
      rw [cellsEdit] at hcs
      obtain ⟨_, hlen, hat⟩ := World.cells?_some hcs
      obtain ⟨c0, c1, c2, c3, rfl⟩ := list4 hlen
      obtain ⟨p, q, r, s, rfl, rfl, rfl, rfl⟩ := trod_edit ht
      refine ⟨⟨p, q, r, s⟩, ?_, ?_, ?_, ?_⟩
      · have := hat 0 (by omega); rw [Go.Deep.add_add] at this; simpa using this
      · have := hat 1 (by omega); rw [Go.Deep.add_add] at this; simpa using this
      · have := hat 2 (by omega); rw [Go.Deep.add_add] at this; simpa using this
      · have := hat 3 (by omega); rw [Go.Deep.add_add] at this; simpa using this
    have hf : ∃ f : Nat → Ed, ∀ i, i < len → w.cell? (a.add (i * 4)) = some (.int .i64 (f i).x) ∧ w.cell? (a.add (i * 4 + 1)) = some (.int .i64 (f i).y) ∧ w.cell? (a.add (i * 4 + 2)) = some (.int .i64 (f i).z) ∧ w.cell? (a.add (i * 4 + 3)) = some (.int .i64 (f i).c) :=
      ⟨fun i => if h : i < len then (key i h).choose else ⟨0, 0, 0, 0⟩, fun i h => by simp only [dif_pos h]; exact (key i h).choose_spec⟩
    obtain ⟨f, hf⟩ := hf
    refine ⟨some a, m, (List.range len).map f, by simpa using h1, fun i ed he => ?_, by simpa using hl⟩
    rw [List.getElem?_map] at he
    have hil : i < len := by
      rcases Nat.lt_or_ge i len with h | h
      · exact h
      · rw [List.getElem?_eq_none (by simpa using h)] at he; cases he
    rw [List.getElem?_range hil] at he
    simp only [Option.map_some, Option.some.injEq] at he
    subst he
    obtain ⟨g0, g1, g2, g3⟩ := hf i hil
    obtain ⟨b, off, spot⟩ := a
    have hspot : spot = none := by
      have h0 := (hf 0 (by omega)).1
      simpa [Addr.add] using World.cell?_spot h0
    subst hspot
    have ha : ∀ j, (⟨b, off, none⟩ : Addr).add j = ⟨b, off + j, none⟩ := fun j => by unfold Addr.add; split <;> simp_all
    rw [ha] at g0 g1 g2 g3
    exact ⟨b, off, rfl, g0, by rw [Nat.add_assoc]; exact g1, by rw [Nat.add_assoc]; exact g2, by rw [Nat.add_assoc]; exact g3⟩
set_option maxRecDepth 100000 in
theorem open_edits {r : Reach} {b0 : Nat} {v : Value} {d : DataW H} {p : List MemPlace} (hv : Value.okWide Tryz.prog w r b0 29 v) (h : DataW.Trod enc Tryz.prog w base (fun _ => true) held 29 v d p) :
    ∃ ha hcp, ∃ es : List Ed, v = .slice ha es.length hcp ∧ SlE w ha es ∧ es.length ≤ hcp := by
  obtain ⟨a, n, cap, rfl⟩ := okWide_slice Tryz.underlying29 hv
  obtain ⟨fuel, hf⟩ := h
  exact trod_edits (by simpa [Value.cells] using hf)
end
end Go.Proofs.YtabclecmehdeoaaGreat
end
