/- A script that comes in. -/
import Derived.Test.YtaajkhdmeghnbaaSnw
import Derived.ProofKit
import Derived.OpenShut
import Derived.ChangeArms
import Derived.ChangeSlices
import Derived.ChangeSame
import Derived.WideShapes
import Derived.Deep.Strs
import Derived.Deep.Slices
import Derived.Deep.Fields
namespace Go.Proofs.Ytaajkhdmeghnbaa
open Go.RowKit Go.ChangeShapes Go.WideShapes

theorem cellsOp : Try.prog.cellsOf 34 = 5 := by kernel_rfl
theorem cellsI : Try.prog.cellsOf 3 = 1 := by kernel_rfl
theorem cellsS : Try.prog.cellsOf 9 = 1 := by kernel_rfl
theorem cellsL : Try.prog.cellsOf 32 = 1 := by kernel_rfl
theorem row_sl {k : IntKind} {w : World} {a : Option Addr} {len cap : Nat} {zs : List Int}
    (h : (a = none ∧ len = 0 ∧ cap = 0 ∧ zs = []) ∨ ∃ x, a = some x ∧ len ≤ cap ∧ cap ≤ maxLen ∧ zs.length = cap ∧ (∀ i, i < zs.length → w.cell? (x.add i) = some (.int k (zs.getD i 0))) ∧ ∀ n ∈ zs, (Lit.int k n).wf = true) :
    ∃ xs : List Int, len = xs.length ∧ Sl w k a xs := by
  rcases h with ⟨rfl, rfl, rfl, rfl⟩ | ⟨x, rfl, hl, hm, hz, hc, hw⟩
  · exact ⟨[], rfl, Sl.nil _ _ _⟩
  · refine ⟨zs.take len, by simp; omega, fun i y hy => ?_⟩
    rw [List.getElem?_take] at hy
    split at hy
    · rename_i hi
      have h1 := hc i (by omega)
      have h2 : w.cell? (x.add i) = some (.int k y) := by rw [h1]; simp [List.getD, hy]
      obtain ⟨b, off, spot⟩ := x
      have hspot : spot = none := by
        have h0 := hc 0 (by omega)
        simpa [Addr.add] using World.cell?_spot h0
      subst hspot
      refine ⟨b, off, rfl, ?_⟩
      have : (⟨b, off, none⟩ : Addr).add i = ⟨b, off + i, none⟩ := by unfold Addr.add; split <;> simp_all
      rwa [this] at h2
    · cases hy
theorem list5 {α : Type} {l : List α} (h : l.length = 5) : ∃ a b c d e, l = [a, b, c, d, e] := by
  match l, h with
  | [a, b, c, d, e], _ => exact ⟨a, b, c, d, e, rfl⟩
section
variable {H : Type} {enc : TypeId × Value → H} {w : World} {base : Nat} {spare : Nat → Bool} {held : Bool} {fuel : Nat} {x : DataW H × List MemPlace}
theorem trod_struct5 {P : Program} {t : TypeId} {f0 f1 f2 f3 f4 : Field} {cs : List Value} (ht : P.underlying t = some (.struct #[f0, f1, f2, f3, f4])) (h : DataW.trod enc P w base spare held fuel t cs = some x) :
    ∃ y0 y1 y2 y3 y4 n, DataW.trod enc P w base spare held n f0.type ((cs.drop f0.offset).take (P.cellsOf f0.type)) = some y0 ∧ DataW.trod enc P w base spare held n f1.type ((cs.drop f1.offset).take (P.cellsOf f1.type)) = some y1 ∧
      DataW.trod enc P w base spare held n f2.type ((cs.drop f2.offset).take (P.cellsOf f2.type)) = some y2 ∧ DataW.trod enc P w base spare held n f3.type ((cs.drop f3.offset).take (P.cellsOf f3.type)) = some y3 ∧ DataW.trod enc P w base spare held n f4.type ((cs.drop f4.offset).take (P.cellsOf f4.type)) = some y4 := by
  obtain ⟨xs, n, _, rfl, hl, hlen, hf⟩ := DataW.trod_struct ht h
  match xs, hlen with
  | [y0, y1, y2, y3, y4], _ => exact ⟨y0, y1, y2, y3, y4, n, by simpa using hf 0 f0 rfl, by simpa using hf 1 f1 rfl, by simpa using hf 2 f2 rfl, by simpa using hf 3 f3 rfl, by simpa using hf 4 f4 rfl⟩
theorem trod_int1 {v : Value} (h : DataW.trod enc Try.prog w base spare held fuel 3 [v] = some x) : ∃ n : Int, v = .int .i64 n ∧ (Lit.int .i64 n).wf = true := by
  obtain ⟨n, h1, _, h2⟩ := DataW.trod_int Try.underlying3 h
  simp only [List.cons.injEq, and_true] at h1
  exact ⟨n, h1, h2⟩
theorem trod_str1 {v : Value} (h : DataW.trod enc Try.prog w base spare held fuel 9 [v] = some x) : ∃ t : List Int, v = .string (strOfNums t) ∧ Byt t ∧ t.length ≤ maxLen := by
  obtain ⟨s, h1, _, h2⟩ := DataW.trod_string Try.underlying9 h
  simp only [List.cons.injEq, and_true] at h1
  exact ⟨bs s, by rw [str_bs]; exact h1, bs_byt s, by rw [bs_length]; exact h2⟩
theorem trod_ints {v : Value} (h : DataW.trod enc Try.prog w base (fun _ => true) held fuel 32 [v] = some x) :
    ∃ ha hcp, ∃ xs : List Int, v = .slice ha xs.length hcp ∧ Sl w .i64 ha xs ∧ xs.length ≤ hcp ∧ hcp ≤ maxLen := by
  rcases open_ints Try.underlying32 Try.underlying3 cellsI h with ⟨h1, _⟩ | ⟨a, len, cap, zs, h1, _, hl, hm, hz, _, hc, hw⟩
  · simp only [List.cons.injEq, and_true] at h1
    exact ⟨none, 0, [], h1, Sl.nil _ _ _, by simp, by simp [maxLen]⟩
  · simp only [List.cons.injEq, and_true] at h1
    simp only [if_true] at hz
    obtain ⟨xs, e, hs⟩ := row_sl (k := .i64) (w := w) (a := some a) (len := len) (cap := cap) (zs := zs) (Or.inr ⟨a, rfl, hl, hm, hz, hc, hw⟩)
    exact ⟨some a, cap, xs, by rw [h1, e], hs, by omega, hm⟩
/-- what an operation of the argument has -/
structure OpnIn (w : World) (y : Opn) : Prop where
  sl : Sl w .i64 y.a y.picks
  by_ : Byt y.text ∧ (-9223372036854775808 ≤ y.i ∧ y.i ≤ 9223372036854775807) ∧ (-9223372036854775808 ≤ y.at_ ∧ y.at_ ≤ 9223372036854775807) ∧ y.text.length ≤ 9223372036854775807 ∧ y.picks.length ≤ 9223372036854775807
theorem trod_op {c0 c1 c2 c3 c4 : Value} (h : DataW.trod enc Try.prog w base (fun _ => true) held fuel 34 [c0, c1, c2, c3, c4] = some x) :
    ∃ y : Opn, c0 = .int .i64 y.kind ∧ c1 = .int .i64 y.i ∧ c2 = .int .i64 y.at_ ∧ c3 = .string (strOfNums y.text) ∧ c4 = .slice y.a y.picks.length y.c ∧ OpnIn w y := by
  obtain ⟨y0, y1, y2, y3, y4, n, h0, h1, h2, h3, h4⟩ := trod_struct5 Try.underlying34 h
  have h0 : DataW.trod enc Try.prog w base (fun _ => true) held n 3 [c0] = some y0 := by simpa [cellsI] using h0
  have h1 : DataW.trod enc Try.prog w base (fun _ => true) held n 3 [c1] = some y1 := by simpa [cellsI] using h1
  have h2 : DataW.trod enc Try.prog w base (fun _ => true) held n 3 [c2] = some y2 := by simpa [cellsI] using h2
  have h3 : DataW.trod enc Try.prog w base (fun _ => true) held n 9 [c3] = some y3 := by simpa [cellsS] using h3
  have h4 : DataW.trod enc Try.prog w base (fun _ => true) held n 32 [c4] = some y4 := by simpa [cellsL] using h4
  obtain ⟨k, e0, _⟩ := trod_int1 h0
  obtain ⟨i, e1, w1⟩ := trod_int1 h1
  obtain ⟨a, e2, w2⟩ := trod_int1 h2
  obtain ⟨t, e3, hb, hl⟩ := trod_str1 h3
  obtain ⟨ha, hcp, ps, e4, hs, hc, hm⟩ := trod_ints h4
  exact ⟨⟨k, i, a, t, ha, hcp, ps⟩, e0, e1, e2, e3, e4, hs, hb, bounds_i64 w1, bounds_i64 w2, by simpa [maxLen] using hl, by simp only [maxLen] at hm; show ps.length ≤ _; omega⟩
end
section
variable {H : Type} {enc : TypeId × Value → H} {w : World} {base : Nat} {held : Bool}
theorem trod_ops {fuel : Nat} {x : DataW H × List MemPlace} {v : Value} (h : DataW.trod enc Try.prog w base (fun _ => true) held fuel 22 [v] = some x) :
    ∃ ha hcp, ∃ xs : List Opn, v = .slice ha xs.length hcp ∧ Ops w w.heap.size ha xs ∧ xs.length ≤ 9223372036854775807 := by
  rcases Go.Deep.open_slice Try.underlying22 h with ⟨h1, _⟩ | ⟨a, len, cap, m, n, D, Pl, h1, _, hl, hcm, hm, _, hi⟩
  · simp only [List.cons.injEq, and_true] at h1
    exact ⟨none, 0, [], h1, ⟨fun i ed h => (by simp at h), fun x h => by simp at h, fun x h => by simp at h, Nat.le_refl _⟩, by simp⟩
  · simp only [List.cons.injEq, and_true] at h1
    simp only [if_true] at hm
    subst hm
    have key : ∀ i, i < len → ∃ y : Opn, w.cell? (a.add (i * 5)) = some (.int .i64 y.kind) ∧ w.cell? (a.add (i * 5 + 1)) = some (.int .i64 y.i) ∧ w.cell? (a.add (i * 5 + 2)) = some (.int .i64 y.at_) ∧ w.cell? (a.add (i * 5 + 3)) = some (.string (strOfNums y.text)) ∧ w.cell? (a.add (i * 5 + 4)) = some (.slice y.a y.picks.length y.c) ∧ OpnIn w y := by
      intro i hil
      obtain ⟨cs, hcs, ht⟩ := hi i (by omega)
      rw [cellsOp] at hcs
      obtain ⟨_, hlen, hat⟩ := World.cells?_some hcs
      obtain ⟨c0, c1, c2, c3, c4, rfl⟩ := list5 hlen
      obtain ⟨y, rfl, rfl, rfl, rfl, rfl, hy⟩ := trod_op ht
      refine ⟨y, ?_, ?_, ?_, ?_, ?_, hy⟩
      · have := hat 0 (by omega); rw [Go.Deep.add_add] at this; simpa using this
      · have := hat 1 (by omega); rw [Go.Deep.add_add] at this; simpa using this
      · have := hat 2 (by omega); rw [Go.Deep.add_add] at this; simpa using this
      · have := hat 3 (by omega); rw [Go.Deep.add_add] at this; simpa using this
      · have := hat 4 (by omega); rw [Go.Deep.add_add] at this; simpa using this
    have hf : ∃ f : Nat → Opn, ∀ i, i < len → w.cell? (a.add (i * 5)) = some (.int .i64 (f i).kind) ∧ w.cell? (a.add (i * 5 + 1)) = some (.int .i64 (f i).i) ∧ w.cell? (a.add (i * 5 + 2)) = some (.int .i64 (f i).at_) ∧ w.cell? (a.add (i * 5 + 3)) = some (.string (strOfNums (f i).text)) ∧ w.cell? (a.add (i * 5 + 4)) = some (.slice (f i).a (f i).picks.length (f i).c) ∧ OpnIn w (f i) :=
      ⟨fun i => if h : i < len then (key i h).choose else ⟨0, 0, 0, [], none, 0, []⟩, fun i h => by simp only [dif_pos h]; exact (key i h).choose_spec⟩
    obtain ⟨f, hf⟩ := hf
    have hmem : ∀ y ∈ (List.range len).map f, OpnIn w y := fun y hy => by
      obtain ⟨i, hi, rfl⟩ := List.mem_map.1 hy
      exact (hf i (List.mem_range.1 hi)).2.2.2.2.2
    refine ⟨some a, m, (List.range len).map f, by simpa using h1, ⟨fun i ed he => ?_, fun y hy => ⟨(hmem y hy).sl, fun b o e hl => ?_⟩, fun y hy => (hmem y hy).by_, Nat.le_refl _⟩, by simp only [List.length_map, List.length_range]; simp only [maxLen] at hcm; omega⟩
    · rw [List.getElem?_map] at he
      have hil : i < len := by
        rcases Nat.lt_or_ge i len with h | h
        · exact h
        · rw [List.getElem?_eq_none (by simpa using h)] at he; cases he
      rw [List.getElem?_range hil] at he
      simp only [Option.map_some, Option.some.injEq] at he
      subst he
      obtain ⟨g0, g1, g2, g3, g4, _⟩ := hf i hil
      obtain ⟨b, off, spot⟩ := a
      have hspot : spot = none := by
        have h0 := (hf 0 (by omega)).1
        simpa [Addr.add] using World.cell?_spot h0
      subst hspot
      have ha : ∀ j, (⟨b, off, none⟩ : Addr).add j = ⟨b, off + j, none⟩ := fun j => by unfold Addr.add; split <;> simp_all
      rw [ha] at g0 g1 g2 g3 g4
      exact ⟨b, off, rfl, block_lt_of_cell g0, g0, by rw [Nat.add_assoc]; exact g1, by rw [Nat.add_assoc]; exact g2, by rw [Nat.add_assoc]; exact g3, by rw [Nat.add_assoc]; exact g4⟩
    · obtain ⟨b', o', e', hc⟩ := (hmem y hy).sl 0 _ (List.getElem?_eq_getElem hl)
      rw [e] at e'
      injection e' with e'
      injection e' with e1 _ _
      rw [e1]
      exact block_lt_of_cell hc
set_option maxRecDepth 100000 in
theorem open_ops {r : Reach} {b0 : Nat} {v : Value} {d : DataW H} {p : List MemPlace} (hv : Value.okWide Try.prog w r b0 22 v) (h : DataW.Trod enc Try.prog w base (fun _ => true) held 22 v d p) :
    ∃ ha hcp, ∃ xs : List Opn, v = .slice ha xs.length hcp ∧ Ops w w.heap.size ha xs ∧ xs.length ≤ 9223372036854775807 := by
  obtain ⟨a, n, cap, rfl⟩ := okWide_slice Try.underlying22 hv
  obtain ⟨fuel, hf⟩ := h
  exact trod_ops (by simpa [Value.cells] using hf)
set_option maxRecDepth 100000 in
theorem open_picks {r : Reach} {b0 : Nat} {v : Value} {d : DataW H} {p : List MemPlace} (hv : Value.okWide Try.prog w r b0 32 v) (h : DataW.Trod enc Try.prog w base (fun _ => true) held 32 v d p) :
    ∃ ha hcp, ∃ xs : List Int, v = .slice ha xs.length hcp ∧ Sl w .i64 ha xs ∧ xs.length ≤ 9223372036854775807 := by
  obtain ⟨a, n, cap, rfl⟩ := okWide_slice Try.underlying32 hv
  obtain ⟨fuel, hf⟩ := h
  obtain ⟨ha, hcp, xs, e, hs, hl, hm⟩ := trod_ints (by simpa [Value.cells] using hf)
  exact ⟨ha, hcp, xs, e, hs, by simp only [maxLen] at hm; omega⟩
end
end Go.Proofs.Ytaajkhdmeghnbaa
