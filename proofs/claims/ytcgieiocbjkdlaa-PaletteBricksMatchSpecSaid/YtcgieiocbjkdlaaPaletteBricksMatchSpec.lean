/- For every input, PaletteBricksMatchSpec returns true. -/
import Derived.Test.YtcgieiocbjkdlaaRows
import Derived.Test.YtcgieiocbjkdlaaLaw
import Derived.Test.YtcgieiocbjkdlaaPal2
import Derived.WalkKit
import Derived.ProofKit
import Derived.OpenShut
import Derived.ShutString
import Derived.ChangeOld
import Derived.Below
namespace Go.Proofs.Ytcgieiocbjkdlaa.paletteBricksMatchSpec
open Go.ChangeShapes Go.WideShapes Go.ChangeAt Go.RowKit
open Go.ChangeMaps (open_string shut_string)
set_option linter.unusedVariables false
open Go.Proofs.Ytcgieiocbjkdlaa

theorem own : ownKnob Try.prog.godebug = none := by kernel_rfl
theorem laidOut : laidOutB Try.prog = true := by kernel_rfl

/-- WHAT THE WALK IS TOLD OF A SLICE OF INTEGERS THAT CAME IN: it is nil; or it leads to a row of 'cap' cells, the numbers 'zs' (the first 'len' are its elements, the rest its spare room), each fitting its kind. -/
def IsRow (k : IntKind) (w : World) (a : Option Addr) (len cap : Nat) (zs : List Int) : Prop :=
  (a = none ∧ len = 0 ∧ cap = 0 ∧ zs = []) ∨
  ∃ x, a = some x ∧ len ≤ cap ∧ cap ≤ maxLen ∧ zs.length = cap ∧ (∀ i, i < zs.length → w.cell? (x.add i) = some (.int k (zs.getD i 0))) ∧ ∀ n ∈ zs, (Lit.int k n).wf = true

/-! ### STEP 1: THE WALK: the Go text returns true, AND WRITES NOTHING THAT WAS THERE: 'Below w.heap.size w w'' (Derived/Below.lean: '.refl', '.alloc', '.drew', '.setCell' at a new block, '.trans'). Open each 'IsRow' by 'rcases' AHEAD of 'go_enter'; part every test ahead of the walk. -/
set_option maxRecDepth 100000 in
set_option maxHeartbeats 4000000 in
theorem walk (a0 : Option Addr) (len0 cap0 : Nat) (z0 : List Int) (a1 : ByteArray) (w : World) (w0 : IsRow .i64 w a0 len0 cap0 z0) (w1 : a1.size ≤ maxLen) :
    Calls Try.prog 4 #[.slice a0 len0 cap0, .string a1] w fun e w' => e = .returned (.bool true) ∧ Below w.heap.size w w' := by
  obtain ⟨xs, rfl, hsl⟩ := row_sl w0
  obtain ⟨t, rfl, hbt⟩ := str_of a1
  have hsz := strOfNums_size t
  by_cases h1 : 100 < xs.length
  · go_enter Try.func4, Try.ntmps4
    go_wp2_with (first | (go_at_call 10; refine (sanity_true _).mono ?_; rintro e w1 ⟨rfl, hb⟩))
    go_ret
    exact ⟨rfl, hb⟩
  by_cases h2 : 300 < t.length
  · go_enter Try.func4, Try.ntmps4
    go_wp2_with (first | (go_at_call 10; refine (sanity_true _).mono ?_; rintro e w1 ⟨rfl, hb⟩))
    go_ret
    exact ⟨rfl, hb⟩
  have c1 := Bx.mk (fun W h => pal_encode a0 cap0 xs W (by omega) h)
  have c2 := Bx.mk (fun W h => ref_encode a0 cap0 xs W (by omega) h)
  have c3 := Bx.mk (fun W => pal_decode t W hbt (by omega))
  have c4 := Bx.mk (fun W => ref_decode t W hbt (by omega))
  have c5 := Bx.mk (fun W => pal_materials t W hbt (by omega))
  have c6 := Bx.mk (fun W => ref_materials t W hbt (by omega))
  have hdl := Bx.mk (Pal.dec_length t)
  have hml := Bx.mk (Pal.mat_length t)
  generalize strOfNums (Pal.encB xs) = pb at *
  generalize Pal.encE xs = pe at *
  generalize Pal.dec t = u at *
  generalize Pal.mat t = v at *
  obtain ⟨cells, e⟩ := u
  obtain ⟨mats, e2⟩ := v
  generalize strOfNums t = S at *
  go_enter Try.func4, Try.ntmps4
  go_wp2_with fail
  refine (c1.out _ hsl).mono ?_
  rintro _ w1 ⟨rfl, hb1⟩
  replace hsl := hsl.below hb1
  go_wp2_with fail
  refine (c2.out _ hsl).mono ?_
  rintro _ w2 ⟨rfl, hb2⟩
  have hB := hb1.trans (hb2.mono hb1.size)
  clear hb1 hb2 hsl
  go_wp2_with fail
  refine (c3.out _).mono ?_
  rintro _ w3 ⟨a3, q3, rfl, hs3, hb3⟩
  replace hB := hB.trans (hb3.mono hB.size)
  go_wp2_with fail
  refine (c4.out _).mono ?_
  rintro _ w4 ⟨a4, q4, rfl, hs4, hb4⟩
  replace hB := hB.trans (hb4.mono hB.size)
  replace hs3 := hs3.below hb4
  clear hb3 hb4
  go_wp2_with fail
  refine (c5.out _).mono ?_
  rintro _ w5 ⟨a5, q5, rfl, hs5, hb5⟩
  replace hB := hB.trans (hb5.mono hB.size)
  replace hs3 := hs3.below hb5
  replace hs4 := hs4.below hb5
  clear hb5
  go_wp2_with fail
  refine (c6.out _).mono ?_
  rintro _ w6 ⟨a6, q6, rfl, hs6, hb6⟩
  replace hB := hB.trans (hb6.mono hB.size)
  replace hs3 := hs3.below hb6
  replace hs4 := hs4.below hb6
  replace hs5 := hs5.below hb6
  clear hb6
  go_wp2_with fail
  refine (sanity_true _).mono ?_
  rintro _ w7 ⟨rfl, hb7⟩
  replace hB := hB.trans (hb7.mono hB.size)
  replace hs3 := hs3.below hb7
  replace hs4 := hs4.below hb7
  replace hs5 := hs5.below hb7
  replace hs6 := hs6.below hb7
  clear hb7
  have hcl : cells.length ≤ 1000000 := by have h := hdl.out; exact Nat.le_trans h (by decide)
  have hml2 : mats.length ≤ 1000000 := by have h := hml.out; exact Nat.le_trans h (by decide)
  go_wp2_with fail
  refine (same_true a3 a4 q3 q4 cells hcl hs3 hs4).mono ?_
  rintro _ w8 ⟨rfl, hb8⟩
  replace hB := hB.trans (hb8.mono hB.size)
  replace hs5 := hs5.below hb8
  replace hs6 := hs6.below hb8
  clear hb8
  go_wp2_with fail
  refine (same_true a5 a6 q5 q6 mats hml2 hs5 hs6).mono ?_
  rintro _ w9 ⟨rfl, hb9⟩
  replace hB := hB.trans (hb9.mono hB.size)
  go_wp2_with fail
  go_ret
  exact ⟨rfl, hB⟩

/-! ### THE ROW's STEP: WRITTEN OUT: LEAVE IT -/
set_option maxRecDepth 100000 in
theorem lifted (os : Os) (started : os.Started) (H : Type) (enc : TypeId × Value → H) :
    ReturnsInHanded {} Try.checked os 4 .any (Rows.paletteBricksMatchSpecSpec.pre6 enc Try.prog Try.f4 Rows.paletteBricksMatchSpecRow.domain false) (Rows.paletteBricksMatchSpecSpec.post enc Try.prog Try.f4 false true false false) := by
  refine returnsInHanded_of_change (C := Try.checked) own started (by kernel_rfl) Try.func4
    (ChangeSpec.witness6 (enc := enc) (C := Try.checked) false ⟨#[], #[.slice none 0 0, .string ByteArray.empty], []⟩ 8 (by kernel_rfl) (by kernel_rfl) (by kernel_rfl) (by kernel_rfl)) ?_
  intro W base args ds gs before hval0 hW hcnd _
  have hval : ∀ (j : Nat) t v, Try.f4.params[j]? = some t → args[j]? = some v → Value.okWide Try.prog W .any base t v := hval0
  have hW' := hW
  obtain ⟨p, q, hA0, hV, rfl, hfz, hnd⟩ := hW
  have hA : DataW.TrodAll enc Try.prog W 0 (fun _ => true) true Try.f4.params.toList args.toList ds p := hA0
  rw [Try.params4] at hA hval
  obtain ⟨v0, vs0, d0, ds0, p0, q0, hargs, rfl, rfl, h0, r0⟩ := trodAll_cons hA
  obtain ⟨v1, vs1, d1, ds1, p1, q1, rfl, rfl, rfl, h1, r1⟩ := trodAll_cons r0
  obtain ⟨rfl, rfl, rfl⟩ := trodAll_nil r1
  obtain rfl : args = #[v0, v1] := by cases args; simp_all
  obtain ⟨rfl, rfl⟩ := trodVars_none hV
  obtain ⟨a0, len0, cap0, rfl⟩ := okWide_slice Try.underlying22 (hval 0 22 v0 rfl rfl)
  have k0 := h0
  have lt0 : ∀ x ∈ p0, x.block < W.heap.size := by obtain ⟨m, hm⟩ := k0; exact DataW.trod_lt m _ _ _ hm
  obtain ⟨z0, w0⟩ : ∃ zs, IsRow .i64 W a0 len0 cap0 zs := by
    obtain ⟨fuel, hf⟩ := h0
    rcases open_ints Try.underlying22 Try.underlying3 (by kernel_rfl) hf with ⟨hcs, _⟩ | ⟨x, l, c, zs, hcs, _, hl, hm, hz, _, hcell, hwz⟩
    · simp [Value.cells] at hcs
      obtain ⟨rfl, rfl, rfl⟩ := hcs
      exact ⟨[], .inl ⟨rfl, rfl, rfl, rfl⟩⟩
    · simp [Value.cells] at hcs
      obtain ⟨rfl, rfl, rfl⟩ := hcs
      exact ⟨zs, .inr ⟨_, rfl, hl, hm, by simpa using hz, hcell, hwz⟩⟩
  obtain ⟨a1, rfl, rfl, rfl, w1⟩ := open_string Try.underlying9 (hval 1 9 v1 rfl rfl) h1
  clear hA0 hval0
  refine (walk a0 len0 cap0 z0 a1 W w0 w1).mono fun e W' ⟨he, bel⟩ => ?_
  subst he
  exact ⟨_, rfl, _, _, _, [], _, [], hW', trodAll_mk1 (shut_bool Try.underlying4 _), (trodAll_cons_mk (Below.trod laidOut (by kernel_rfl) (of_decide_eq_true (by kernel_rfl)) k0 bel lt0) (trodAll_cons_mk (shut_string Try.underlying9 w1) trodAll_mk0)), rfl, bel.frame _, fun h => by cases h⟩

theorem over : Rows.paletteBricksMatchSpecRow.holds Try.pinned (OpenSpec.ofChange Rows.paletteBricksMatchSpecSpec) :=
  OpenClaim.holds_of_wide 4 Try.f4 rfl rfl rfl rfl rfl rfl rfl ⟨rfl, rfl, rfl, rfl, rfl⟩ rfl rfl rfl rfl rfl (by kernel_rfl) Try.func4 (by kernel_rfl)
    (of_decide_eq_true (by kernel_rfl)) (by unfold Func.isWrapper; first | (rw [if_pos (by decide +kernel)]; kernel_rfl) | (rw [if_neg (by decide +kernel)]; exact ⟨rfl, rfl⟩))
    (fun os started H enc _ => lifted os started H enc)

/-- ████ THE STATEMENT ████ -/
theorem proved : Rows.PaletteBricksMatchSpecSaid := over
#print axioms proved
end Go.Proofs.Ytcgieiocbjkdlaa.paletteBricksMatchSpec
