/- For every input, PaletteDeltasRoundTrip returns true. -/
import Derived.Test.YtcgieiocbjkdlaaRows
import Derived.Test.YtcgieiocbjkdlaaLaw
import Derived.Test.YtcgieiocbjkdlaaLaw2
import Derived.WalkKit
import Derived.ProofKit
import Derived.OpenShut
import Derived.ShutString
import Derived.ChangeOld
import Derived.Below
namespace Go.Proofs.Ytcgieiocbjkdlaa.paletteDeltasRoundTrip
open Go.ChangeShapes Go.WideShapes Go.ChangeAt Go.RowKit
open Go.ChangeMaps (open_string shut_string)
set_option linter.unusedVariables false
open Go.Proofs.Ytcgieiocbjkdlaa

theorem own : ownKnob Try.prog.godebug = none := by kernel_rfl
theorem laidOut : laidOutB Try.prog = true := by kernel_rfl

/-- WHAT THE WALK IS TOLD OF A SLICE OF INTEGERS THAT CAME IN: it is nil; or it leads to a row of 'cap' cells, the numbers 'zs' (the first 'len' are its elements, the rest its spare room), each fitting its kind. -/
def IsRow (k : IntKind) (w : World) (a : Option Addr) (len cap : Nat) (zs : List Int) : Prop :=
  (a = none ∧ len = 0 ∧ cap = 0 ∧ zs = []) ∨
  ∃ x, a = some x ∧ len ≤ cap ∧ cap ≤ maxLen ∧ zs.length = cap ∧ (∀ i, i < zs.length → w.cell? (x.add i) = some (.int k (zs.getD i 0))) ∧ ∀ n ∈ zs, (Lit.int k n).wf = true

/-! ### STEP 1: THE WALK: the Go text returns true, AND WRITES NOTHING THAT WAS THERE: 'Below w.heap.size w w'' (Derived/Below.lean: '.refl', '.alloc', '.drew', '.setCell' at a new block, '.trans'). Open each 'IsRow' by 'rcases' AHEAD of 'go_enter'; part every test ahead of the walk. -/
set_option maxRecDepth 100000 in
set_option maxHeartbeats 4000000 in
theorem walk (a0 : Option Addr) (len0 cap0 : Nat) (z0 : List Int) (a1 : Option Addr) (len1 cap1 : Nat) (z1 : List Int) (a2 : ByteArray) (w : World) (w0 : IsRow .i64 w a0 len0 cap0 z0) (w1 : IsRow .i64 w a1 len1 cap1 z1) (w2 : a2.size ≤ maxLen) :
    Calls Try.prog 7 #[.slice a0 len0 cap0, .slice a1 len1 cap1, .string a2] w fun e w' => e = .returned (.bool true) ∧ Below w.heap.size w w' := by
  obtain ⟨xs, rfl, hslx⟩ := row_sl w0
  obtain ⟨ys, rfl, hsly⟩ := row_sl w1
  obtain ⟨t, rfl, hbt⟩ := str_of a2
  have hsz := strOfNums_size t
  by_cases h1 : 100 < xs.length
  · go_enter Try.func7, Try.ntmps7
    go_wp2_with (first | (go_at_call 10; refine (sanity_true _).mono ?_; rintro e w1 ⟨rfl, hb⟩))
    go_ret
    exact ⟨rfl, hb⟩
  by_cases h2 : 100 < ys.length
  · go_enter Try.func7, Try.ntmps7
    go_wp2_with (first | (go_at_call 10; refine (sanity_true _).mono ?_; rintro e w1 ⟨rfl, hb⟩))
    go_ret
    exact ⟨rfl, hb⟩
  by_cases h3 : 300 < t.length
  · go_enter Try.func7, Try.ntmps7
    go_wp2_with (first | (go_at_call 10; refine (sanity_true _).mono ?_; rintro e w1 ⟨rfl, hb⟩))
    go_ret
    exact ⟨rfl, hb⟩
  have c1 := Bx.mk (fun W h h' => pal_delta a0 a1 cap0 cap1 xs ys W (by omega) (by omega) h h')
  have c3 := Bx.mk (fun W h => pal_patch a0 cap0 xs t W (by omega) h hbt (by omega))
  have c4 : Bx (Pal.dltE xs ys = 0 → ∀ W, Sl W .i64 a0 xs → Calls Try.prog 24 #[.slice a0 xs.length cap0, .string (strOfNums (Pal.dltB xs ys))] W (RetSl .i64 ys 0 W)) := ⟨fun he W h => by
    obtain ⟨g1, g2⟩ := Pal.dltE_ok he
    have := pal_patch a0 cap0 xs (Pal.dltB xs ys) W (by omega) h (Pal.dltB_byt g1 g2) (Pal.dltB_le g1 g2)
    rwa [Pal.pat_dltB g1 g2] at this⟩
  have hpl := Bx.mk (Pal.pat_length xs t)
  have hok := Bx.mk (Pal.pat_ok (old := xs) (t := t) hbt)
  have herr := Bx.mk (Pal.pat_err (old := xs) (t := t))
  have c5 : Bx ((Pal.pat xs t).2 = 0 → ∀ W a c, Sl W .i64 a0 xs → Sl W .i64 a (Pal.pat xs t).1 → Calls Try.prog 22 #[.slice a0 xs.length cap0, .slice a (Pal.pat xs t).1.length c] W fun e w' => e = .returned (.tuple #[.string (strOfNums t), .int .i64 0]) ∧ Below W.heap.size W w') := ⟨fun he W a c h h' => by
    have h9 := Pal.pat_length xs t
    have := pal_delta a0 a cap0 c xs (Pal.pat xs t).1 W (by omega) (by omega) h h'
    obtain ⟨g1, g2⟩ := Pal.pat_ok hbt he
    rwa [g1, g2] at this⟩
  clear hok
  generalize strOfNums (Pal.dltB xs ys) = pb at *
  generalize Pal.dltE xs ys = pe at *
  generalize Pal.pat xs t = u at *
  obtain ⟨cells, e⟩ := u
  generalize strOfNums t = S at *
  simp only [] at c3 c5 hpl herr
  have hyl : ys.length ≤ 1000000 := by omega
  by_cases hpe : pe = 0
  · subst hpe
    replace c4 := Bx.mk (c4.out rfl)
    by_cases he : e = 0
    · subst he
      replace c5 := Bx.mk (c5.out rfl)
      clear herr
      go_enter Try.func7, Try.ntmps7
      go_wp2_with fail
      refine (c1.out _ hslx hsly).mono ?_
      rintro _ v1 ⟨rfl, hB⟩
      replace hslx := hslx.below hB
      replace hsly := hsly.below hB
      go_wp2_with fail
      refine (c4.out _ hslx).mono ?_
      rintro _ v2 ⟨a2, q2, rfl, hs2, hb2⟩
      replace hB := hB.trans (hb2.mono hB.size)
      replace hslx := hslx.below hb2
      replace hsly := hsly.below hb2
      clear hb2
      go_wp2_with fail
      refine (same_true a2 a1 q2 cap1 ys hyl hs2 hsly).mono ?_
      rintro _ v3 ⟨rfl, hb3⟩
      replace hB := hB.trans (hb3.mono hB.size)
      replace hslx := hslx.below hb3
      clear hb3 hs2 hsly
      go_wp2_with fail
      refine (c3.out _ hslx).mono ?_
      rintro _ v4 ⟨a4, q4, rfl, hs4, hb4⟩
      replace hB := hB.trans (hb4.mono hB.size)
      replace hslx := hslx.below hb4
      clear hb4
      go_wp2_with fail
      refine (c5.out _ _ _ hslx hs4).mono ?_
      rintro _ v5 ⟨rfl, hb5⟩
      replace hB := hB.trans (hb5.mono hB.size)
      clear hb5 hslx hs4
      go_wp2_with fail
      refine (sanity_true _).mono ?_
      rintro _ v7 ⟨rfl, hb7⟩
      replace hB := hB.trans (hb7.mono hB.size)
      clear hb7
      go_wp2_with fail
      go_ret
      exact ⟨rfl, hB⟩
    · have hz2 : (e != 0) = true := by simp [he]
      have hn := herr.out he
      subst hn
      clear herr he c5
      go_enter Try.func7, Try.ntmps7
      go_wp2_with fail
      refine (c1.out _ hslx hsly).mono ?_
      rintro _ v1 ⟨rfl, hB⟩
      replace hslx := hslx.below hB
      replace hsly := hsly.below hB
      go_wp2_with fail
      refine (c4.out _ hslx).mono ?_
      rintro _ v2 ⟨a2, q2, rfl, hs2, hb2⟩
      replace hB := hB.trans (hb2.mono hB.size)
      replace hslx := hslx.below hb2
      replace hsly := hsly.below hb2
      clear hb2
      go_wp2_with fail
      refine (same_true a2 a1 q2 cap1 ys hyl hs2 hsly).mono ?_
      rintro _ v3 ⟨rfl, hb3⟩
      replace hB := hB.trans (hb3.mono hB.size)
      replace hslx := hslx.below hb3
      clear hb3 hs2 hsly
      go_wp2_with fail
      refine (c3.out _ hslx).mono ?_
      rintro _ v4 ⟨a4, q4, rfl, hs4, hb4⟩
      replace hB := hB.trans (hb4.mono hB.size)
      replace hslx := hslx.below hb4
      clear hb4
      clear hslx hs4
      go_wp2_with fail
      refine (sanity_true _).mono ?_
      rintro _ v7 ⟨rfl, hb7⟩
      replace hB := hB.trans (hb7.mono hB.size)
      clear hb7
      go_wp2_with fail
      go_ret
      exact ⟨rfl, hB⟩
  · have hz : (pe == 0) = false := by simp [hpe]
    clear hpe c4
    by_cases he : e = 0
    · subst he
      replace c5 := Bx.mk (c5.out rfl)
      clear herr
      go_enter Try.func7, Try.ntmps7
      go_wp2_with fail
      refine (c1.out _ hslx hsly).mono ?_
      rintro _ v1 ⟨rfl, hB⟩
      replace hslx := hslx.below hB
      replace hsly := hsly.below hB
      clear hsly
      go_wp2_with fail
      refine (c3.out _ hslx).mono ?_
      rintro _ v4 ⟨a4, q4, rfl, hs4, hb4⟩
      replace hB := hB.trans (hb4.mono hB.size)
      replace hslx := hslx.below hb4
      clear hb4
      go_wp2_with fail
      refine (c5.out _ _ _ hslx hs4).mono ?_
      rintro _ v5 ⟨rfl, hb5⟩
      replace hB := hB.trans (hb5.mono hB.size)
      clear hb5 hslx hs4
      go_wp2_with fail
      refine (sanity_true _).mono ?_
      rintro _ v7 ⟨rfl, hb7⟩
      replace hB := hB.trans (hb7.mono hB.size)
      clear hb7
      go_wp2_with fail
      go_ret
      exact ⟨rfl, hB⟩
    · have hz2 : (e != 0) = true := by simp [he]
      have hn := herr.out he
      subst hn
      clear herr he c5
      go_enter Try.func7, Try.ntmps7
      go_wp2_with fail
      refine (c1.out _ hslx hsly).mono ?_
      rintro _ v1 ⟨rfl, hB⟩
      replace hslx := hslx.below hB
      replace hsly := hsly.below hB
      clear hsly
      go_wp2_with fail
      refine (c3.out _ hslx).mono ?_
      rintro _ v4 ⟨a4, q4, rfl, hs4, hb4⟩
      replace hB := hB.trans (hb4.mono hB.size)
      replace hslx := hslx.below hb4
      clear hb4
      clear hslx hs4
      go_wp2_with fail
      refine (sanity_true _).mono ?_
      rintro _ v7 ⟨rfl, hb7⟩
      replace hB := hB.trans (hb7.mono hB.size)
      clear hb7
      go_wp2_with fail
      go_ret
      exact ⟨rfl, hB⟩

/-! ### THE ROW's STEP: WRITTEN OUT: LEAVE IT -/
set_option maxRecDepth 100000 in
theorem lifted (os : Os) (started : os.Started) (H : Type) (enc : TypeId × Value → H) :
    ReturnsInHanded {} Try.checked os 7 .any (Rows.paletteDeltasRoundTripSpec.pre6 enc Try.prog Try.f7 Rows.paletteDeltasRoundTripRow.domain false) (Rows.paletteDeltasRoundTripSpec.post enc Try.prog Try.f7 false true false false) := by
  refine returnsInHanded_of_change (C := Try.checked) own started (by kernel_rfl) Try.func7
    (ChangeSpec.witness6 (enc := enc) (C := Try.checked) false ⟨#[], #[.slice none 0 0, .slice none 0 0, .string ByteArray.empty], []⟩ 8 (by kernel_rfl) (by kernel_rfl) (by kernel_rfl) (by kernel_rfl)) ?_
  intro W base args ds gs before hval0 hW hcnd _
  have hval : ∀ (j : Nat) t v, Try.f7.params[j]? = some t → args[j]? = some v → Value.okWide Try.prog W .any base t v := hval0
  have hW' := hW
  obtain ⟨p, q, hA0, hV, rfl, hfz, hnd⟩ := hW
  have hA : DataW.TrodAll enc Try.prog W 0 (fun _ => true) true Try.f7.params.toList args.toList ds p := hA0
  rw [Try.params7] at hA hval
  obtain ⟨v0, vs0, d0, ds0, p0, q0, hargs, rfl, rfl, h0, r0⟩ := trodAll_cons hA
  obtain ⟨v1, vs1, d1, ds1, p1, q1, rfl, rfl, rfl, h1, r1⟩ := trodAll_cons r0
  obtain ⟨v2, vs2, d2, ds2, p2, q2, rfl, rfl, rfl, h2, r2⟩ := trodAll_cons r1
  obtain ⟨rfl, rfl, rfl⟩ := trodAll_nil r2
  obtain rfl : args = #[v0, v1, v2] := by cases args; simp_all
  obtain ⟨rfl, rfl⟩ := trodVars_none hV
  obtain ⟨a0, len0, cap0, rfl⟩ := okWide_slice Try.underlying22 (hval 0 22 v0 rfl rfl)
  have k0 := h0
  have lt0 : ∀ x ∈ p0, x.block < W.heap.size := by obtain ⟨m, hm⟩ := k0; exact DataW.trod_lt m _ _ _ hm
  obtain ⟨z0, w0⟩ : ∃ zs, IsRow .i64 W a0 len0 cap0 zs := by
    obtain ⟨fuel, hf⟩ := h0
    rcases open_ints Try.underlying22 Try.underlying3 (by kernel_rfl) hf with ⟨hcs, _⟩ | ⟨x, l, c, zs, hcs, _, hl, hm, hz, _, hcell, hwz⟩
    · simp [Value.cells] at hcs
      obtain ⟨rfl, rfl, rfl⟩ := hcs
      exact ⟨[], .inl ⟨rfl, rfl, rfl, rfl⟩⟩
    · simp [Value.cells] at hcs
      obtain ⟨rfl, rfl, rfl⟩ := hcs
      exact ⟨zs, .inr ⟨_, rfl, hl, hm, by simpa using hz, hcell, hwz⟩⟩
  obtain ⟨a1, len1, cap1, rfl⟩ := okWide_slice Try.underlying22 (hval 1 22 v1 rfl rfl)
  have k1 := h1
  have lt1 : ∀ x ∈ p1, x.block < W.heap.size := by obtain ⟨m, hm⟩ := k1; exact DataW.trod_lt m _ _ _ hm
  obtain ⟨z1, w1⟩ : ∃ zs, IsRow .i64 W a1 len1 cap1 zs := by
    obtain ⟨fuel, hf⟩ := h1
    rcases open_ints Try.underlying22 Try.underlying3 (by kernel_rfl) hf with ⟨hcs, _⟩ | ⟨x, l, c, zs, hcs, _, hl, hm, hz, _, hcell, hwz⟩
    · simp [Value.cells] at hcs
      obtain ⟨rfl, rfl, rfl⟩ := hcs
      exact ⟨[], .inl ⟨rfl, rfl, rfl, rfl⟩⟩
    · simp [Value.cells] at hcs
      obtain ⟨rfl, rfl, rfl⟩ := hcs
      exact ⟨zs, .inr ⟨_, rfl, hl, hm, by simpa using hz, hcell, hwz⟩⟩
  obtain ⟨a2, rfl, rfl, rfl, w2⟩ := open_string Try.underlying9 (hval 2 9 v2 rfl rfl) h2
  clear hA0 hval0
  refine (walk a0 len0 cap0 z0 a1 len1 cap1 z1 a2 W w0 w1 w2).mono fun e W' ⟨he, bel⟩ => ?_
  subst he
  exact ⟨_, rfl, _, _, _, [], _, [], hW', trodAll_mk1 (shut_bool Try.underlying4 _), (trodAll_cons_mk (Below.trod laidOut (by kernel_rfl) (of_decide_eq_true (by kernel_rfl)) k0 bel lt0) (trodAll_cons_mk (Below.trod laidOut (by kernel_rfl) (of_decide_eq_true (by kernel_rfl)) k1 bel lt1) (trodAll_cons_mk (shut_string Try.underlying9 w2) trodAll_mk0))), rfl, bel.frame _, fun h => by cases h⟩

theorem over : Rows.paletteDeltasRoundTripRow.holds Try.pinned (OpenSpec.ofChange Rows.paletteDeltasRoundTripSpec) :=
  OpenClaim.holds_of_wide 7 Try.f7 rfl rfl rfl rfl rfl rfl rfl ⟨rfl, rfl, rfl, rfl, rfl⟩ rfl rfl rfl rfl rfl (by kernel_rfl) Try.func7 (by kernel_rfl)
    (of_decide_eq_true (by kernel_rfl)) (by unfold Func.isWrapper; first | (rw [if_pos (by decide +kernel)]; kernel_rfl) | (rw [if_neg (by decide +kernel)]; exact ⟨rfl, rfl⟩))
    (fun os started H enc _ => lifted os started H enc)

/-- ████ THE STATEMENT ████ -/
theorem proved : Rows.PaletteDeltasRoundTripSaid := over
#print axioms proved
end Go.Proofs.Ytcgieiocbjkdlaa.paletteDeltasRoundTrip
