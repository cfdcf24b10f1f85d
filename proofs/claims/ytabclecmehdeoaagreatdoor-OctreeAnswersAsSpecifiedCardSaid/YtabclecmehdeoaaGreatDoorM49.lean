/- Opn: joined by program, for one claim. -/
import Derived.Test.YtabclecmehdeoaaGreatDoorM22
import Derived.ProofKit
import Derived.OpenShut
import Derived.ChangeArms
import Derived.ChangeSlices
import Derived.WideShapes
import Derived.Deep.Strs
section
namespace Go.Proofs.YtabclecmehdeoaaGreatDoor
open Go.RowKit Go.ChangeShapes Go.WideShapes
open Oct
theorem cellsPt : Tryz.prog.cellsOf 23 = 3 := by kernel_rfl
theorem cellsBox : Tryz.prog.cellsOf 25 = 6 := by kernel_rfl
theorem cellsGrid : Tryz.prog.cellsOf 28 = 7 := by kernel_rfl
theorem cellsIntT : Tryz.prog.cellsOf 3 = 1 := by kernel_rfl
theorem cellsInts : Tryz.prog.cellsOf 26 = 1 := by kernel_rfl
theorem row_sl {k : IntKind} {w : World} {a : Option Addr} {len cap : Nat} {zs : List Int}
 (h : (a = none ∧ len = 0 ∧ cap = 0 ∧ zs = []) ∨ ∃ x, a = some x ∧ len ≤ cap ∧ cap ≤ maxLen ∧ zs.length = cap ∧ (∀ i, i < zs.length → w.cell? (x.add i) = some (.int k (zs.getD i 0))) ∧ ∀ n ∈ zs, (Lit.int k n).wf = true) :
 ∃ xs : List Int, len = xs.length ∧ Sl w k a xs := by
 rcases h with ⟨rfl, rfl, rfl, rfl⟩ | ⟨x, rfl, hl, hm, hz, hc, hw⟩
 · exact ⟨[], rfl, Sl.nil _ _ _⟩
 · refine ⟨zs.take len, by simp; omega, fun i y hy => ?_⟩
   rw [List.getElem?_take] at hy
   split at hy
   · rename_i hi
     have h1 := hc i (by omega)
     have h2 : w.cell? (x.add i) = some (.int k y) := by rw [h1]; simp [List.getD, hy]
     obtain ⟨b, off, spot⟩ := x
     have hspot : spot = none := by
      have h0 := hc 0 (by omega)
      simpa [Addr.add] using World.cell?_spot h0
     subst hspot
     refine ⟨b, off, rfl, ?_⟩
     have : (⟨b, off, none⟩ : Addr).add i = ⟨b, off + i, none⟩ := by unfold Addr.add; split <;> simp_all
     rwa [this] at h2
   · cases hy
section
variable {H : Type} {enc : TypeId × Value → H} {w : World} {base : Nat} {spare : Nat → Bool} {held : Bool} {fuel : Nat} {x : DataW H × List MemPlace}
theorem trod_int1 {v : Value} (h : DataW.trod enc Tryz.prog w base spare held fuel 3 [v] = some x) : ∃ n : Int, v = .int .i64 n ∧ (Lit.int .i64 n).wf = true := by
 obtain ⟨n, h1, _, h2⟩ := DataW.trod_int Tryz.underlying3 h
 simp only [List.cons.injEq, and_true] at h1
 exact ⟨n, h1, h2⟩
theorem trod_pt {c0 c1 c2 : Value} (h : DataW.trod enc Tryz.prog w base spare held fuel 23 [c0, c1, c2] = some x) :
 ∃ a b c : Int, c0 = .int .i64 a ∧ c1 = .int .i64 b ∧ c2 = .int .i64 c := by
 obtain ⟨y0, y1, y2, n, _, _, h0, h1, h2⟩ := Go.Deep.trod_struct3 Tryz.underlying23 h
 have h0 : DataW.trod enc Tryz.prog w base spare held n 3 [c0] = some y0 := by simpa [cellsIntT] using h0
 have h1 : DataW.trod enc Tryz.prog w base spare held n 3 [c1] = some y1 := by simpa [cellsIntT] using h1
 have h2 : DataW.trod enc Tryz.prog w base spare held n 3 [c2] = some y2 := by simpa [cellsIntT] using h2
 obtain ⟨a, e0, _⟩ := trod_int1 h0
 obtain ⟨b, e1, _⟩ := trod_int1 h1
 obtain ⟨c, e2, _⟩ := trod_int1 h2
 exact ⟨a, b, c, e0, e1, e2⟩
theorem trod_box {c0 c1 c2 c3 c4 c5 : Value} (h : DataW.trod enc Tryz.prog w base spare held fuel 25 [c0, c1, c2, c3, c4, c5] = some x) :
 ∃ a b c d e f : Int, c0 = .int .i64 a ∧ c1 = .int .i64 b ∧ c2 = .int .i64 c ∧ c3 = .int .i64 d ∧ c4 = .int .i64 e ∧ c5 = .int .i64 f := by
 obtain ⟨y0, y1, n, _, _, h0, h1⟩ := trod_struct2 Tryz.underlying25 h
 have h0 : DataW.trod enc Tryz.prog w base spare held n 23 [c0, c1, c2] = some y0 := by simpa [cellsPt] using h0
 have h1 : DataW.trod enc Tryz.prog w base spare held n 23 [c3, c4, c5] = some y1 := by simpa [cellsPt] using h1
 obtain ⟨a, b, c, e0, e1, e2⟩ := trod_pt h0
 obtain ⟨d, e, f, e3, e4, e5⟩ := trod_pt h1
 exact ⟨a, b, c, d, e, f, e0, e1, e2, e3, e4, e5⟩
theorem trod_ints {v : Value} (h : DataW.trod enc Tryz.prog w base (fun _ => true) held fuel 26 [v] = some x) :
 ∃ ha hcp, ∃ xs : List Int, v = .slice ha xs.length hcp ∧ Sl w .i64 ha xs ∧ xs.length ≤ hcp := by
 rcases open_ints Tryz.underlying26 Tryz.underlying3 cellsIntT h with ⟨h1, _⟩ | ⟨a, len, cap, zs, h1, _, hl, hm, hz, _, hc, hw⟩
 · simp only [List.cons.injEq, and_true] at h1
   exact ⟨none, 0, [], h1, Sl.nil _ _ _, by simp⟩
 · simp only [List.cons.injEq, and_true] at h1
   simp only [if_true] at hz
   obtain ⟨xs, e, hs⟩ := row_sl (k := .i64) (w := w) (a := some a) (len := len) (cap := cap) (zs := zs) (Or.inr ⟨a, rfl, hl, hm, hz, hc, hw⟩)
   exact ⟨some a, cap, xs, by rw [h1, e], hs, by omega⟩
theorem list7 {α : Type} {l : List α} (h : l.length = 7) : ∃ a b c d e f g, l = [a, b, c, d, e, f, g] := by
 match l, h with
 | [a, b, c, d, e, f, g], _ => exact ⟨a, b, c, d, e, f, g, rfl⟩
theorem list3 {α : Type} {l : List α} (h : l.length = 3) : ∃ a b c, l = [a, b, c] := by
 match l, h with
 | [a, b, c], _ => exact ⟨a, b, c, rfl⟩
set_option maxRecDepth 100000 in
theorem open_grid {r : Reach} {b0 : Nat} {v : Value} {d : DataW H} {p : List MemPlace} (hv : Value.okWide Tryz.prog w r b0 28 v) (h : DataW.Trod enc Tryz.prog w base (fun _ => true) held 28 v d p) :
 ∃ (a b c d e f : Int) (ha : Option Addr) (hcp : Nat) (xs : List Int), v = .agg #[.int .i64 a, .int .i64 b, .int .i64 c, .int .i64 d, .int .i64 e, .int .i64 f, .slice ha xs.length hcp] ∧ Sl w .i64 ha xs ∧ xs.length ≤ hcp := by
 obtain ⟨cs, rfl, hsz⟩ := okWide_struct Tryz.underlying28 hv
 obtain ⟨l⟩ := cs
 have hl : l.length = 7 := by rw [cellsGrid] at hsz; exact hsz
 obtain ⟨c0, c1, c2, c3, c4, c5, c6, rfl⟩ := list7 hl
 obtain ⟨fuel, hf⟩ := h
 obtain ⟨y0, y1, n, _, _, h0, h1⟩ := trod_struct2 Tryz.underlying28 hf
 have h0 : DataW.trod enc Tryz.prog w base (fun _ => true) held n 25 [c0, c1, c2, c3, c4, c5] = some y0 := by simpa [Value.cells, cellsBox] using h0
 have h1 : DataW.trod enc Tryz.prog w base (fun _ => true) held n 26 [c6] = some y1 := by simpa [Value.cells, cellsInts] using h1
 obtain ⟨a, b, c, d, e, f, rfl, rfl, rfl, rfl, rfl, rfl⟩ := trod_box h0
 obtain ⟨ha, hcp, xs, rfl, hs, hc⟩ := trod_ints h1
 exact ⟨a, b, c, d, e, f, ha, hcp, xs, rfl, hs, hc⟩
set_option maxRecDepth 100000 in
theorem open_pt {r : Reach} {b0 : Nat} {v : Value} {d : DataW H} {p : List MemPlace} (hv : Value.okWide Tryz.prog w r b0 23 v) (h : DataW.Trod enc Tryz.prog w base spare held 23 v d p) :
 ∃ a b c : Int, v = .agg #[.int .i64 a, .int .i64 b, .int .i64 c] := by
 obtain ⟨cs, rfl, hsz⟩ := okWide_struct Tryz.underlying23 hv
 obtain ⟨l⟩ := cs
 have hl : l.length = 3 := by rw [cellsPt] at hsz; exact hsz
 obtain ⟨c0, c1, c2, rfl⟩ := list3 hl
 obtain ⟨fuel, hf⟩ := h
 obtain ⟨a, b, c, rfl, rfl, rfl⟩ := trod_pt (by simpa [Value.cells] using hf)
 exact ⟨a, b, c, rfl⟩
end
end Go.Proofs.YtabclecmehdeoaaGreatDoor
end
