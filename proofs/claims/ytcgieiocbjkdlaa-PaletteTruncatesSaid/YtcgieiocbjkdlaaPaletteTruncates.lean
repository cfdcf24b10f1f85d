/- For every input, PaletteTruncates returns true. -/
import Derived.Test.YtcgieiocbjkdlaaRows
import Derived.Test.YtcgieiocbjkdlaaLaw
import Derived.Test.YtcgieiocbjkdlaaLaw2
import Derived.WalkKit
import Derived.ProofKit
import Derived.OpenShut
import Derived.ShutString
import Derived.ChangeOld
import Derived.Below
namespace Go.Proofs.Ytcgieiocbjkdlaa.paletteTruncates
open Go.ChangeShapes Go.WideShapes Go.ChangeAt Go.RowKit
open Go.ChangeMaps (open_string shut_string)
set_option linter.unusedVariables false
open Go.Proofs.Ytcgieiocbjkdlaa

theorem own : ownKnob Try.prog.godebug = none := by kernel_rfl
theorem laidOut : laidOutB Try.prog = true := by kernel_rfl

/-- WHAT THE WALK IS TOLD OF A SLICE OF INTEGERS THAT CAME IN: it is nil; or it leads to a row of 'cap' cells, the numbers 'zs' (the first 'len' are its elements, the rest its spare room), each fitting its kind. -/
def IsRow (k : IntKind) (w : World) (a : Option Addr) (len cap : Nat) (zs : List Int) : Prop :=
  (a = none ∧ len = 0 ∧ cap = 0 ∧ zs = []) ∨
  ∃ x, a = some x ∧ len ≤ cap ∧ cap ≤ maxLen ∧ zs.length = cap ∧ (∀ i, i < zs.length → w.cell? (x.add i) = some (.int k (zs.getD i 0))) ∧ ∀ n ∈ zs, (Lit.int k n).wf = true

/-! ### STEP 1: THE WALK: the Go text returns true, AND WRITES NOTHING THAT WAS THERE: 'Below w.heap.size w w'' (Derived/Below.lean: '.refl', '.alloc', '.drew', '.setCell' at a new block, '.trans'). Open each 'IsRow' by 'rcases' AHEAD of 'go_enter'; part every test ahead of the walk. -/
set_option maxRecDepth 100000 in
set_option maxHeartbeats 4000000 in
theorem walk (a0 : Option Addr) (len0 cap0 : Nat) (z0 : List Int) (a1 : Int) (w : World) (w0 : IsRow .i64 w a0 len0 cap0 z0) (w1 : (Lit.int .u8 a1).wf = true) :
    Calls Try.prog 9 #[.slice a0 len0 cap0, .int .u8 a1] w fun e w' => e = .returned (.bool true) ∧ Below w.heap.size w w' := by
  obtain ⟨xs, rfl, hsl⟩ := row_sl w0
  by_cases h1 : 64 < xs.length
  · go_enter Try.func9, Try.ntmps9
    go_wp2_with (first | (go_at_call 10; refine (sanity_true _).mono ?_; rintro e w1 ⟨rfl, hb⟩))
    go_ret
    exact ⟨rfl, hb⟩
  have c1 := Bx.mk (fun W h => pal_pack a0 cap0 xs W (by omega) h)
  cases hbad : Pal.bad xs with
  | true =>
    rw [Pal.packB_bad hbad, Pal.packE_bad hbad] at c1
    generalize strOfNums [] = S at *
    go_enter Try.func9, Try.ntmps9
    go_wp2_with fail
    refine (c1.out _ hsl).mono ?_
    rintro _ v1 ⟨rfl, hb1⟩
    go_wp2_with fail
    refine (sanity_true _).mono ?_
    rintro _ v2 ⟨rfl, hb2⟩
    have hB := hb1.trans (hb2.mono hb1.size)
    go_wp2_with fail
    go_ret
    exact ⟨rfl, hB⟩
  | false =>
    rw [Pal.packE_good hbad] at c1
    have hpos := Pal.packB_nonempty hbad
    have hle := Pal.packB_length_le xs
    have hbyt : Byt (Pal.packB xs) := Pal.packB_byt hbad
    have hcut := fun k h => Pal.unp_cut (k := k) hbad h
    generalize Pal.packB xs = t at *
    have hx := wf_u8 w1
    obtain ⟨x, rfl⟩ : ∃ x : Nat, a1 = (x : Int) := ⟨a1.toNat, by omega⟩
    have hlt : x % t.length < t.length := Nat.mod_lt _ hpos
    have hrem : (x : Int).tmod (t.length : Int) = ((x % t.length : Nat) : Int) := (Int.ofNat_tmod x t.length).symm
    have hs := (fun W => slice_to (P := Try.prog) 9 Try.underlying9 t (x % t.length) (by omega) W)
    have hex := (show (strOfNums t).extract 0 (x % t.length) = strOfNums (t.take (x % t.length)) by rw [str_extract]; simp)
    have c2 := Bx.mk (fun W => pal_unpack (t.take (x % t.length)) W (hbyt.take _) (by rw [List.length_take]; omega))
    rw [hcut _ hlt] at c2
    have hsz := strOfNums_size t
    generalize strOfNums (t.take (x % t.length)) = S2 at *
    generalize strOfNums t = S at *
    generalize hk : x % t.length = k at *
    generalize t.length = tl at *
    clear hcut hbyt hk w1
    go_enter Try.func9, Try.ntmps9
    go_wp2_with fail
    refine (c1.out _ hsl).mono ?_
    rintro _ v1 ⟨rfl, hb1⟩
    go_wp2_with fail
    refine (c2.out _).mono ?_
    rintro _ v2 ⟨a3, q3, rfl, hs3, hb2⟩
    have hB := hb1.trans (hb2.mono hb1.size)
    clear hb1 hb2 hs3
    go_wp2_with fail
    refine (sanity_true _).mono ?_
    rintro _ v3 ⟨rfl, hb3⟩
    replace hB := hB.trans (hb3.mono hB.size)
    go_wp2_with fail
    go_ret
    exact ⟨rfl, hB⟩

/-! ### THE ROW's STEP: WRITTEN OUT: LEAVE IT -/
set_option maxRecDepth 100000 in
theorem lifted (os : Os) (started : os.Started) (H : Type) (enc : TypeId × Value → H) :
    ReturnsInHanded {} Try.checked os 9 .any (Rows.paletteTruncatesSpec.pre6 enc Try.prog Try.f9 Rows.paletteTruncatesRow.domain false) (Rows.paletteTruncatesSpec.post enc Try.prog Try.f9 false true false false) := by
  refine returnsInHanded_of_change (C := Try.checked) own started (by kernel_rfl) Try.func9
    (ChangeSpec.witness6 (enc := enc) (C := Try.checked) false ⟨#[], #[.slice none 0 0, .int .u8 0], []⟩ 8 (by kernel_rfl) (by kernel_rfl) (by kernel_rfl) (by kernel_rfl)) ?_
  intro W base args ds gs before hval0 hW hcnd _
  have hval : ∀ (j : Nat) t v, Try.f9.params[j]? = some t → args[j]? = some v → Value.okWide Try.prog W .any base t v := hval0
  have hW' := hW
  obtain ⟨p, q, hA0, hV, rfl, hfz, hnd⟩ := hW
  have hA : DataW.TrodAll enc Try.prog W 0 (fun _ => true) true Try.f9.params.toList args.toList ds p := hA0
  rw [Try.params9] at hA hval
  obtain ⟨v0, vs0, d0, ds0, p0, q0, hargs, rfl, rfl, h0, r0⟩ := trodAll_cons hA
  obtain ⟨v1, vs1, d1, ds1, p1, q1, rfl, rfl, rfl, h1, r1⟩ := trodAll_cons r0
  obtain ⟨rfl, rfl, rfl⟩ := trodAll_nil r1
  obtain rfl : args = #[v0, v1] := by cases args; simp_all
  obtain ⟨rfl, rfl⟩ := trodVars_none hV
  obtain ⟨a0, len0, cap0, rfl⟩ := okWide_slice Try.underlying22 (hval 0 22 v0 rfl rfl)
  have k0 := h0
  have lt0 : ∀ x ∈ p0, x.block < W.heap.size := by obtain ⟨m, hm⟩ := k0; exact DataW.trod_lt m _ _ _ hm
  obtain ⟨z0, w0⟩ : ∃ zs, IsRow .i64 W a0 len0 cap0 zs := by
    obtain ⟨fuel, hf⟩ := h0
    rcases open_ints Try.underlying22 Try.underlying3 (by kernel_rfl) hf with ⟨hcs, _⟩ | ⟨x, l, c, zs, hcs, _, hl, hm, hz, _, hcell, hwz⟩
    · simp [Value.cells] at hcs
      obtain ⟨rfl, rfl, rfl⟩ := hcs
      exact ⟨[], .inl ⟨rfl, rfl, rfl, rfl⟩⟩
    · simp [Value.cells] at hcs
      obtain ⟨rfl, rfl, rfl⟩ := hcs
      exact ⟨zs, .inr ⟨_, rfl, hl, hm, by simpa using hz, hcell, hwz⟩⟩
  obtain ⟨a1, rfl, rfl, rfl, w1⟩ := open_int Try.underlying5 (hval 1 5 v1 rfl rfl) h1
  clear hA0 hval0
  refine (walk a0 len0 cap0 z0 a1 W w0 w1).mono fun e W' ⟨he, bel⟩ => ?_
  subst he
  exact ⟨_, rfl, _, _, _, [], _, [], hW', trodAll_mk1 (shut_bool Try.underlying4 _), (trodAll_cons_mk (Below.trod laidOut (by kernel_rfl) (of_decide_eq_true (by kernel_rfl)) k0 bel lt0) (trodAll_cons_mk (shut_int Try.underlying5 w1) trodAll_mk0)), rfl, bel.frame _, fun h => by cases h⟩

theorem over : Rows.paletteTruncatesRow.holds Try.pinned (OpenSpec.ofChange Rows.paletteTruncatesSpec) :=
  OpenClaim.holds_of_wide 9 Try.f9 rfl rfl rfl rfl rfl rfl rfl ⟨rfl, rfl, rfl, rfl, rfl⟩ rfl rfl rfl rfl rfl (by kernel_rfl) Try.func9 (by kernel_rfl)
    (of_decide_eq_true (by kernel_rfl)) (by unfold Func.isWrapper; first | (rw [if_pos (by decide +kernel)]; kernel_rfl) | (rw [if_neg (by decide +kernel)]; exact ⟨rfl, rfl⟩))
    (fun os started H enc _ => lifted os started H enc)

/-- ████ THE STATEMENT ████ -/
theorem proved : Rows.PaletteTruncatesSaid := over
#print axioms proved
end Go.Proofs.Ytcgieiocbjkdlaa.paletteTruncates
