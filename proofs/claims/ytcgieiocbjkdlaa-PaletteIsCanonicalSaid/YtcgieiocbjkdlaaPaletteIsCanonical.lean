/- For every input, PaletteIsCanonical returns true. -/
import Derived.Test.YtcgieiocbjkdlaaRows
import Derived.Test.YtcgieiocbjkdlaaLaw
import Derived.Test.YtcgieiocbjkdlaaLaw3
import Derived.WalkKit
import Derived.ProofKit
import Derived.OpenShut
import Derived.ShutString
import Derived.ChangeOld
import Derived.Below
namespace Go.Proofs.Ytcgieiocbjkdlaa.paletteIsCanonical
open Go.ChangeShapes Go.WideShapes Go.ChangeAt Go.RowKit
open Go.ChangeMaps (open_string shut_string)
set_option linter.unusedVariables false
open Go.Proofs.Ytcgieiocbjkdlaa

theorem own : ownKnob Try.prog.godebug = none := by kernel_rfl
theorem laidOut : laidOutB Try.prog = true := by kernel_rfl

/-- WHAT THE WALK IS TOLD OF A SLICE OF INTEGERS THAT CAME IN: it is nil; or it leads to a row of 'cap' cells, the numbers 'zs' (the first 'len' are its elements, the rest its spare room), each fitting its kind. -/
def IsRow (k : IntKind) (w : World) (a : Option Addr) (len cap : Nat) (zs : List Int) : Prop :=
  (a = none ∧ len = 0 ∧ cap = 0 ∧ zs = []) ∨
  ∃ x, a = some x ∧ len ≤ cap ∧ cap ≤ maxLen ∧ zs.length = cap ∧ (∀ i, i < zs.length → w.cell? (x.add i) = some (.int k (zs.getD i 0))) ∧ ∀ n ∈ zs, (Lit.int k n).wf = true

/-! ### STEP 1: THE WALK: the Go text returns true, AND WRITES NOTHING THAT WAS THERE: 'Below w.heap.size w w'' (Derived/Below.lean: '.refl', '.alloc', '.drew', '.setCell' at a new block, '.trans'). Open each 'IsRow' by 'rcases' AHEAD of 'go_enter'; part every test ahead of the walk. -/
set_option maxRecDepth 100000 in
set_option maxHeartbeats 4000000 in
theorem walk (a0 : Option Addr) (len0 cap0 : Nat) (z0 : List Int) (a1 : ByteArray) (w : World) (w0 : IsRow .i64 w a0 len0 cap0 z0) (w1 : a1.size ≤ maxLen) :
    Calls Try.prog 6 #[.slice a0 len0 cap0, .string a1] w fun e w' => e = .returned (.bool true) ∧ Below w.heap.size w w' := by
  obtain ⟨xs, rfl, hsl⟩ := row_sl w0
  obtain ⟨t, rfl, hbt⟩ := str_of a1
  have hsz := strOfNums_size t
  by_cases h1 : 64 < xs.length
  · go_enter Try.func6, Try.ntmps6
    go_wp2_with (first | (go_at_call 10; refine (sanity_true _).mono ?_; rintro e w1 ⟨rfl, hb⟩))
    go_ret
    exact ⟨rfl, hb⟩
  by_cases h2 : 300 < t.length
  · go_enter Try.func6, Try.ntmps6
    go_wp2_with (first | (go_at_call 10; refine (sanity_true _).mono ?_; rintro e w1 ⟨rfl, hb⟩))
    go_ret
    exact ⟨rfl, hb⟩
  have hxl : xs.length ≤ 1000000 := by omega
  have c1 := Bx.mk (fun W h => pal_pack a0 cap0 xs W (by omega) h)
  have c3 := Bx.mk (fun W => pal_unpack t W hbt (by omega))
  have hul := Bx.mk (Pal.unp_length t)
  have herr := Bx.mk (Pal.unp_err (t := t))
  have c5 : Bx ((Pal.unp t).2.2 = 0 → ∃ n : Nat, (Pal.unp t).2.1 = (n : Int) ∧ 1 ≤ n ∧ n ≤ t.length ∧ ∀ W a c, Sl W .i64 a (Pal.unp t).1 → Calls Try.prog 11 #[.slice a (Pal.unp t).1.length c] W fun e w' => e = .returned (.tuple #[.string (strOfNums (t.take n)), .int .i64 0]) ∧ Below W.heap.size W w') := ⟨fun he => by
    obtain ⟨g1, n, g2, g3, g4, g5⟩ := Pal.unp_ok hbt he
    refine ⟨n, g2, g3, g4, fun W a c h => ?_⟩
    have h9 := Pal.unp_length t
    have := pal_pack a c (Pal.unp t).1 W (by omega) h
    rwa [g5, Pal.packE_good g1] at this⟩
  have hst := fun n h W => slice_to (P := Try.prog) 9 Try.underlying9 t n h W
  have hex : ∀ n, (strOfNums t).extract 0 n = strOfNums (t.take n) := fun n => by rw [str_extract]; simp
  generalize Pal.unp t = u at *
  obtain ⟨cells, n, e⟩ := u
  simp only [] at c3 c5 hul herr
  cases hbad : Pal.bad xs with
  | false =>
    have c4 := Bx.mk (fun W => pal_unpack (Pal.packB xs ++ t) W ((Pal.packB_byt hbad).append hbt) (by have := Pal.packB_len130 hbad; rw [List.length_append]; omega))
    rw [Pal.unp_packB hbad] at c4
    rw [Pal.packE_good hbad] at c1
    have hs1 : (strOfNums (Pal.packB xs)).size = (Pal.packB xs).length := strOfNums_size _
    have hl130 := Pal.packB_len130 hbad
    have hadd : strOfNums (Pal.packB xs) ++ strOfNums t = strOfNums (Pal.packB xs ++ t) := str_append _ _
    generalize strOfNums (Pal.packB xs ++ t) = S2 at *
    generalize strOfNums (Pal.packB xs) = S1 at *
    generalize (Pal.packB xs).length = pl at *
    clear hbad
    by_cases he : e = 0
    · subst he
      obtain ⟨m, g1, g2, g3, c6⟩ := c5.out rfl
      clear c5
      subst g1
      replace c6 := Bx.mk c6
      replace hst := hst m g3
      replace hex := hex m
      generalize strOfNums (t.take m) = S3 at *
      generalize strOfNums t = S at *
      generalize t.length = tl at *
      clear herr
      go_enter Try.func6, Try.ntmps6
      go_wp2_with fail
      refine (c1.out _ hsl).mono ?_
      rintro _ v1 ⟨rfl, hB⟩
      replace hsl := hsl.below hB
      go_wp2_with fail
      refine (c4.out _).mono ?_
      rintro _ v2 ⟨a2, q2, rfl, hs2, hb2⟩
      replace hB := hB.trans (hb2.mono hB.size)
      replace hsl := hsl.below hb2
      clear hb2
      go_wp2_with fail
      refine (same_true a2 a0 q2 cap0 xs hxl hs2 hsl).mono ?_
      rintro _ v3 ⟨rfl, hb3⟩
      replace hB := hB.trans (hb3.mono hB.size)
      clear hb3 hs2 hsl
      go_wp2_with fail
      refine (c3.out _).mono ?_
      rintro _ v4 ⟨a4, q4, rfl, hs4, hb4⟩
      replace hB := hB.trans (hb4.mono hB.size)
      clear hb4
      go_wp2_with fail
      refine (c6.out _ _ _ hs4).mono ?_
      rintro _ v5 ⟨rfl, hb5⟩
      replace hB := hB.trans (hb5.mono hB.size)
      clear hb5 hs4
      go_wp2_with fail
      refine (sanity_true _).mono ?_
      rintro _ v7 ⟨rfl, hb7⟩
      replace hB := hB.trans (hb7.mono hB.size)
      clear hb7
      go_wp2_with fail
      go_ret
      exact ⟨rfl, hB⟩
    · have hz2 : (e != 0) = true := by simp [he]
      obtain ⟨g1, g2⟩ := herr.out he
      subst g1; subst g2
      clear herr he c5 hst hex
      generalize strOfNums t = S at *
      generalize t.length = tl at *
      go_enter Try.func6, Try.ntmps6
      go_wp2_with fail
      refine (c1.out _ hsl).mono ?_
      rintro _ v1 ⟨rfl, hB⟩
      replace hsl := hsl.below hB
      go_wp2_with fail
      refine (c4.out _).mono ?_
      rintro _ v2 ⟨a2, q2, rfl, hs2, hb2⟩
      replace hB := hB.trans (hb2.mono hB.size)
      replace hsl := hsl.below hb2
      clear hb2
      go_wp2_with fail
      refine (same_true a2 a0 q2 cap0 xs hxl hs2 hsl).mono ?_
      rintro _ v3 ⟨rfl, hb3⟩
      replace hB := hB.trans (hb3.mono hB.size)
      clear hb3 hs2 hsl
      go_wp2_with fail
      refine (c3.out _).mono ?_
      rintro _ v4 ⟨a4, q4, rfl, hs4, hb4⟩
      replace hB := hB.trans (hb4.mono hB.size)
      clear hb4
      clear hs4
      go_wp2_with fail
      refine (sanity_true _).mono ?_
      rintro _ v7 ⟨rfl, hb7⟩
      replace hB := hB.trans (hb7.mono hB.size)
      clear hb7
      go_wp2_with fail
      go_ret
      exact ⟨rfl, hB⟩
  | true =>
    rw [Pal.packB_bad hbad, Pal.packE_bad hbad] at c1
    generalize strOfNums [] = S1 at *
    clear hbad
    by_cases he : e = 0
    · subst he
      obtain ⟨m, g1, g2, g3, c6⟩ := c5.out rfl
      clear c5
      subst g1
      replace c6 := Bx.mk c6
      replace hst := hst m g3
      replace hex := hex m
      generalize strOfNums (t.take m) = S3 at *
      generalize strOfNums t = S at *
      generalize t.length = tl at *
      clear herr
      go_enter Try.func6, Try.ntmps6
      go_wp2_with fail
      refine (c1.out _ hsl).mono ?_
      rintro _ v1 ⟨rfl, hB⟩
      replace hsl := hsl.below hB
      clear hsl
      go_wp2_with fail
      refine (c3.out _).mono ?_
      rintro _ v4 ⟨a4, q4, rfl, hs4, hb4⟩
      replace hB := hB.trans (hb4.mono hB.size)
      clear hb4
      go_wp2_with fail
      refine (c6.out _ _ _ hs4).mono ?_
      rintro _ v5 ⟨rfl, hb5⟩
      replace hB := hB.trans (hb5.mono hB.size)
      clear hb5 hs4
      go_wp2_with fail
      refine (sanity_true _).mono ?_
      rintro _ v7 ⟨rfl, hb7⟩
      replace hB := hB.trans (hb7.mono hB.size)
      clear hb7
      go_wp2_with fail
      go_ret
      exact ⟨rfl, hB⟩
    · have hz2 : (e != 0) = true := by simp [he]
      obtain ⟨g1, g2⟩ := herr.out he
      subst g1; subst g2
      clear herr he c5 hst hex
      generalize strOfNums t = S at *
      generalize t.length = tl at *
      go_enter Try.func6, Try.ntmps6
      go_wp2_with fail
      refine (c1.out _ hsl).mono ?_
      rintro _ v1 ⟨rfl, hB⟩
      replace hsl := hsl.below hB
      clear hsl
      go_wp2_with fail
      refine (c3.out _).mono ?_
      rintro _ v4 ⟨a4, q4, rfl, hs4, hb4⟩
      replace hB := hB.trans (hb4.mono hB.size)
      clear hb4
      clear hs4
      go_wp2_with fail
      refine (sanity_true _).mono ?_
      rintro _ v7 ⟨rfl, hb7⟩
      replace hB := hB.trans (hb7.mono hB.size)
      clear hb7
      go_wp2_with fail
      go_ret
      exact ⟨rfl, hB⟩

/-! ### THE ROW's STEP: WRITTEN OUT: LEAVE IT -/
set_option maxRecDepth 100000 in
theorem lifted (os : Os) (started : os.Started) (H : Type) (enc : TypeId × Value → H) :
    ReturnsInHanded {} Try.checked os 6 .any (Rows.paletteIsCanonicalSpec.pre6 enc Try.prog Try.f6 Rows.paletteIsCanonicalRow.domain false) (Rows.paletteIsCanonicalSpec.post enc Try.prog Try.f6 false true false false) := by
  refine returnsInHanded_of_change (C := Try.checked) own started (by kernel_rfl) Try.func6
    (ChangeSpec.witness6 (enc := enc) (C := Try.checked) false ⟨#[], #[.slice none 0 0, .string ByteArray.empty], []⟩ 8 (by kernel_rfl) (by kernel_rfl) (by kernel_rfl) (by kernel_rfl)) ?_
  intro W base args ds gs before hval0 hW hcnd _
  have hval : ∀ (j : Nat) t v, Try.f6.params[j]? = some t → args[j]? = some v → Value.okWide Try.prog W .any base t v := hval0
  have hW' := hW
  obtain ⟨p, q, hA0, hV, rfl, hfz, hnd⟩ := hW
  have hA : DataW.TrodAll enc Try.prog W 0 (fun _ => true) true Try.f6.params.toList args.toList ds p := hA0
  rw [Try.params6] at hA hval
  obtain ⟨v0, vs0, d0, ds0, p0, q0, hargs, rfl, rfl, h0, r0⟩ := trodAll_cons hA
  obtain ⟨v1, vs1, d1, ds1, p1, q1, rfl, rfl, rfl, h1, r1⟩ := trodAll_cons r0
  obtain ⟨rfl, rfl, rfl⟩ := trodAll_nil r1
  obtain rfl : args = #[v0, v1] := by cases args; simp_all
  obtain ⟨rfl, rfl⟩ := trodVars_none hV
  obtain ⟨a0, len0, cap0, rfl⟩ := okWide_slice Try.underlying22 (hval 0 22 v0 rfl rfl)
  have k0 := h0
  have lt0 : ∀ x ∈ p0, x.block < W.heap.size := by obtain ⟨m, hm⟩ := k0; exact DataW.trod_lt m _ _ _ hm
  obtain ⟨z0, w0⟩ : ∃ zs, IsRow .i64 W a0 len0 cap0 zs := by
    obtain ⟨fuel, hf⟩ := h0
    rcases open_ints Try.underlying22 Try.underlying3 (by kernel_rfl) hf with ⟨hcs, _⟩ | ⟨x, l, c, zs, hcs, _, hl, hm, hz, _, hcell, hwz⟩
    · simp [Value.cells] at hcs
      obtain ⟨rfl, rfl, rfl⟩ := hcs
      exact ⟨[], .inl ⟨rfl, rfl, rfl, rfl⟩⟩
    · simp [Value.cells] at hcs
      obtain ⟨rfl, rfl, rfl⟩ := hcs
      exact ⟨zs, .inr ⟨_, rfl, hl, hm, by simpa using hz, hcell, hwz⟩⟩
  obtain ⟨a1, rfl, rfl, rfl, w1⟩ := open_string Try.underlying9 (hval 1 9 v1 rfl rfl) h1
  clear hA0 hval0
  refine (walk a0 len0 cap0 z0 a1 W w0 w1).mono fun e W' ⟨he, bel⟩ => ?_
  subst he
  exact ⟨_, rfl, _, _, _, [], _, [], hW', trodAll_mk1 (shut_bool Try.underlying4 _), (trodAll_cons_mk (Below.trod laidOut (by kernel_rfl) (of_decide_eq_true (by kernel_rfl)) k0 bel lt0) (trodAll_cons_mk (shut_string Try.underlying9 w1) trodAll_mk0)), rfl, bel.frame _, fun h => by cases h⟩

theorem over : Rows.paletteIsCanonicalRow.holds Try.pinned (OpenSpec.ofChange Rows.paletteIsCanonicalSpec) :=
  OpenClaim.holds_of_wide 6 Try.f6 rfl rfl rfl rfl rfl rfl rfl ⟨rfl, rfl, rfl, rfl, rfl⟩ rfl rfl rfl rfl rfl (by kernel_rfl) Try.func6 (by kernel_rfl)
    (of_decide_eq_true (by kernel_rfl)) (by unfold Func.isWrapper; first | (rw [if_pos (by decide +kernel)]; kernel_rfl) | (rw [if_neg (by decide +kernel)]; exact ⟨rfl, rfl⟩))
    (fun os started H enc _ => lifted os started H enc)

/-- ████ THE STATEMENT ████ -/
theorem proved : Rows.PaletteIsCanonicalSaid := over
#print axioms proved
end Go.Proofs.Ytcgieiocbjkdlaa.paletteIsCanonical
