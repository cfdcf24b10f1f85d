import Derived.Test.YtabclecmehdeoaaRows
import Derived.Test.YtabclecmehdeoaaGNod
import Derived.Test.YtabclecmehdeoaaGGen
import Derived.WalkKit
import Derived.ProofKit
import Derived.OpenShut
import Derived.ShutString
import Derived.ChangeOld
import Derived.Below
/- For every input, OctreeMakesNodes returns true. -/
namespace Go.Proofs.Ytabclecmehdeoaa.octreeMakesNodes
open Go.ChangeShapes Go.WideShapes Go.ChangeAt Go.RowKit
set_option linter.unusedVariables false
open Go.Proofs.Ytabclecmehdeoaa

theorem own : ownKnob Try.prog.godebug = none := by kernel_rfl
theorem laidOut : laidOutB Try.prog = true := by kernel_rfl
theorem cellsArr : Try.prog.cellsOf 49 = 8 := by kernel_rfl
theorem cellsByte : Try.prog.cellsOf 5 = 1 := by kernel_rfl
theorem list8 {α : Type} {l : List α} (h : l.length = 8) : ∃ a b c d e f g i, l = [a, b, c, d, e, f, g, i] := by
  match l, h with
  | [a, b, c, d, e, f, g, i], _ => exact ⟨a, b, c, d, e, f, g, i, rfl⟩
set_option maxRecDepth 100000 in
theorem open_arr8 {H : Type} {enc : TypeId × Value → H} {w : World} {base : Nat} {spare : Nat → Bool} {held : Bool} {r : Reach} {b0 : Nat} {v : Value} {d : DataW H} {p : List MemPlace} (hv : Value.okWide Try.prog w r b0 49 v) (h : DataW.Trod enc Try.prog w base spare held 49 v d p) :
    ∃ x : Nat → Int, v = .agg #[.int .u8 (x 0), .int .u8 (x 1), .int .u8 (x 2), .int .u8 (x 3), .int .u8 (x 4), .int .u8 (x 5), .int .u8 (x 6), .int .u8 (x 7)] ∧ ∀ k, 0 ≤ x k ∧ x k ≤ 255 := by
  obtain ⟨cs, rfl, hsz⟩ : ∃ cs : Array Value, v = .agg cs ∧ cs.size = Try.prog.cellsOf 49 := by
    simp only [Value.okWide, Try.underlying49] at hv
    obtain ⟨cs, h1, h2, _⟩ := hv
    exact ⟨cs, h1, h2⟩
  obtain ⟨l⟩ := cs
  have hl : l.length = 8 := by rw [cellsArr] at hsz; exact hsz
  obtain ⟨c0, c1, c2, c3, c4, c5, c6, c7, rfl⟩ := list8 hl
  obtain ⟨fuel, hf⟩ := h
  obtain ⟨xs, m, _, _, _, hlen, hi⟩ := DataW.trod_array Try.underlying49 hf
  have key : ∀ i, i < 8 → ∃ n : Int, [c0, c1, c2, c3, c4, c5, c6, c7][i]? = some (.int .u8 n) ∧ 0 ≤ n ∧ n ≤ 255 := by
    intro i h8
    obtain ⟨y, hy⟩ : ∃ y, xs[i]? = some y := ⟨_, List.getElem?_eq_getElem (by omega)⟩
    have h1 := hi i h8
    rw [cellsByte, hy] at h1
    have h0 : i = 0 ∨ i = 1 ∨ i = 2 ∨ i = 3 ∨ i = 4 ∨ i = 5 ∨ i = 6 ∨ i = 7 := by omega
    rcases h0 with rfl | rfl | rfl | rfl | rfl | rfl | rfl | rfl
    all_goals
      obtain ⟨n, h2, _, h3⟩ := DataW.trod_int Try.underlying5 h1
      simp [Value.cells] at h2
      have := wf_u8 h3
      exact ⟨n, by simp [h2], by omega, by omega⟩
  obtain ⟨n0, g0, b0⟩ := key 0 (by omega)
  obtain ⟨n1, g1, b1⟩ := key 1 (by omega)
  obtain ⟨n2, g2, b2⟩ := key 2 (by omega)
  obtain ⟨n3, g3, b3⟩ := key 3 (by omega)
  obtain ⟨n4, g4, b4⟩ := key 4 (by omega)
  obtain ⟨n5, g5, b5⟩ := key 5 (by omega)
  obtain ⟨n6, g6, b6⟩ := key 6 (by omega)
  obtain ⟨n7, g7, b7⟩ := key 7 (by omega)
  simp only [List.getElem?_cons_zero, List.getElem?_cons_succ, Option.some.injEq] at g0 g1 g2 g3 g4 g5 g6 g7
  refine ⟨fun k => match k with | 0 => n0 | 1 => n1 | 2 => n2 | 3 => n3 | 4 => n4 | 5 => n5 | 6 => n6 | 7 => n7 | _ => 0, ?_, fun k => ?_⟩
  · rw [g0, g1, g2, g3, g4, g5, g6, g7]; rfl
  · match k with
    | 0 => exact b0
    | 1 => exact b1
    | 2 => exact b2
    | 3 => exact b3
    | 4 => exact b4
    | 5 => exact b5
    | 6 => exact b6
    | 7 => exact b7
    | k + 8 => exact ⟨Int.le_refl 0, Int.ofNat_le.2 (Nat.zero_le 255)⟩
set_option maxRecDepth 100000 in
theorem lifted (os : Os) (started : os.Started) (H : Type) (enc : TypeId × Value → H) :
    ReturnsInHanded {} Try.checked os 5 .any (Rows.octreeMakesNodesSpec.pre6 enc Try.prog Try.f5 Rows.octreeMakesNodesRow.domain false) (Rows.octreeMakesNodesSpec.post enc Try.prog Try.f5 false true false false) := by
  refine returnsInHanded_of_change (C := Try.checked) own started (by kernel_rfl) Try.func5
    (ChangeSpec.witness6 (enc := enc) (C := Try.checked) false ⟨#[], #[.slice none 0 0, .slice none 0 0, .int .i64 0, .agg #[.int .u8 0, .int .u8 0, .int .u8 0, .int .u8 0, .int .u8 0, .int .u8 0, .int .u8 0, .int .u8 0], .int .i64 0], []⟩ 8 (by kernel_rfl) (by kernel_rfl) (by kernel_rfl) (by kernel_rfl)) ?_
  intro W base args ds gs before hval0 hW hcnd _
  have hval : ∀ (j : Nat) t v, Try.f5.params[j]? = some t → args[j]? = some v → Value.okWide Try.prog W .any base t v := hval0
  have hW' := hW
  obtain ⟨p, q, hA0, hV, rfl, hfz, hnd⟩ := hW
  have hA : DataW.TrodAll enc Try.prog W 0 (fun _ => true) true Try.f5.params.toList args.toList ds p := hA0
  rw [Try.params5] at hA hval
  obtain ⟨v0, vs0, d0, ds0, p0, q0, hargs, rfl, rfl, h0, r0⟩ := trodAll_cons hA
  obtain ⟨v1, vs1, d1, ds1, p1, q1, rfl, rfl, rfl, h1, r1⟩ := trodAll_cons r0
  obtain ⟨v2, vs2, d2, ds2, p2, q2, rfl, rfl, rfl, h2, r2⟩ := trodAll_cons r1
  obtain ⟨v3, vs3, d3, ds3, p3, q3, rfl, rfl, rfl, h3, r3⟩ := trodAll_cons r2
  obtain ⟨v4, vs4, d4, ds4, p4, q4, rfl, rfl, rfl, h4, r4⟩ := trodAll_cons r3
  obtain ⟨rfl, rfl, rfl⟩ := trodAll_nil r4
  obtain rfl : args = #[v0, v1, v2, v3, v4] := by cases args; simp_all
  obtain ⟨rfl, rfl⟩ := trodVars_none hV
  have k0 := h0
  have k1 := h1
  have k3 := h3
  have lt0 : ∀ x ∈ p0, x.block < W.heap.size := by obtain ⟨m, hm⟩ := k0; exact DataW.trod_lt m _ _ _ hm
  have lt1 : ∀ x ∈ p1, x.block < W.heap.size := by obtain ⟨m, hm⟩ := k1; exact DataW.trod_lt m _ _ _ hm
  have lt3 : ∀ x ∈ p3, x.block < W.heap.size := by obtain ⟨m, hm⟩ := k3; exact DataW.trod_lt m _ _ _ hm
  obtain ⟨ca, capa, xs, rfl, hsx, hcap⟩ : ∃ ca capa, ∃ xs : List Int, v0 = .slice ca xs.length capa ∧ Sl W .i64 ca xs ∧ xs.length ≤ capa := by
    obtain ⟨a, n, cap, rfl⟩ := okWide_slice Try.underlying26 (hval 0 _ v0 rfl rfl)
    obtain ⟨fuel, hf⟩ := h0
    exact trod_ints (by simpa [Value.cells] using hf)
  obtain ⟨cb, capb, ys, rfl, hsy, hcap2⟩ : ∃ ca capa, ∃ xs : List Int, v1 = .slice ca xs.length capa ∧ Sl W .i64 ca xs ∧ xs.length ≤ capa := by
    obtain ⟨a, n, cap, rfl⟩ := okWide_slice Try.underlying26 (hval 1 _ v1 rfl rfl)
    obtain ⟨fuel, hf⟩ := h1
    exact trod_ints (by simpa [Value.cells] using hf)
  obtain ⟨c, rfl, rfl, rfl, w2⟩ := open_int Try.underlying3 (hval 2 _ v2 rfl rfl) h2
  obtain ⟨x, rfl, hx⟩ := open_arr8 (hval 3 _ v3 rfl rfl) h3
  obtain ⟨dd, rfl, rfl, rfl, w4⟩ := open_int Try.underlying3 (hval 4 _ v4 rfl rfl) h4
  clear hA0 hval0
  refine (nodes_true ca cb capa capb xs ys c dd x W hcap hcap2 hx hsx hsy).mono fun e W' ⟨he, bel⟩ => ?_
  subst he
  exact ⟨_, rfl, _, _, _, [], _, [], hW', trodAll_mk1 (shut_bool Try.underlying4 _), (trodAll_cons_mk (Below.trod laidOut (by kernel_rfl) (of_decide_eq_true (by kernel_rfl)) k0 bel lt0) (trodAll_cons_mk (Below.trod laidOut (by kernel_rfl) (of_decide_eq_true (by kernel_rfl)) k1 bel lt1) (trodAll_cons_mk (shut_int Try.underlying3 w2) (trodAll_cons_mk (Below.trod laidOut (by kernel_rfl) (of_decide_eq_true (by kernel_rfl)) k3 bel lt3) (trodAll_cons_mk (shut_int Try.underlying3 w4) trodAll_mk0))))), rfl, bel.frame _, fun h => by cases h⟩

theorem over : Rows.octreeMakesNodesRow.holds Try.pinned (OpenSpec.ofChange Rows.octreeMakesNodesSpec) :=
  OpenClaim.holds_of_wide 5 Try.f5 rfl rfl rfl rfl rfl rfl rfl ⟨rfl, rfl, rfl, rfl, rfl⟩ rfl rfl rfl rfl rfl (by kernel_rfl) Try.func5 (by kernel_rfl)
    (of_decide_eq_true (by kernel_rfl)) (by unfold Func.isWrapper; first | (rw [if_pos (by decide +kernel)]; kernel_rfl) | (rw [if_neg (by decide +kernel)]; exact ⟨rfl, rfl⟩))
    (fun os started H enc _ => lifted os started H enc)

/-- ████ THE STATEMENT ████ -/
theorem proved : Rows.OctreeMakesNodesSaid := over
#print axioms proved
end Go.Proofs.Ytabclecmehdeoaa.octreeMakesNodes
