/- For every input, PaletteIsShort returns true. -/
import Derived.Test.YtcgieiocbjkdlaaRows
import Derived.Test.YtcgieiocbjkdlaaLaw
import Derived.Test.YtcgieiocbjkdlaaLaw3
import Derived.WalkKit
import Derived.ProofKit
import Derived.OpenShut
import Derived.ShutString
import Derived.ChangeOld
import Derived.Below
namespace Go.Proofs.Ytcgieiocbjkdlaa.paletteIsShort
open Go.ChangeShapes Go.WideShapes Go.ChangeAt Go.RowKit
open Go.ChangeMaps (open_string shut_string)
set_option linter.unusedVariables false
open Go.Proofs.Ytcgieiocbjkdlaa

theorem own : ownKnob Try.prog.godebug = none := by kernel_rfl
theorem laidOut : laidOutB Try.prog = true := by kernel_rfl

/-- WHAT THE WALK IS TOLD OF A SLICE OF INTEGERS THAT CAME IN: it is nil; or it leads to a row of 'cap' cells, the numbers 'zs' (the first 'len' are its elements, the rest its spare room), each fitting its kind. -/
def IsRow (k : IntKind) (w : World) (a : Option Addr) (len cap : Nat) (zs : List Int) : Prop :=
  (a = none ∧ len = 0 ∧ cap = 0 ∧ zs = []) ∨
  ∃ x, a = some x ∧ len ≤ cap ∧ cap ≤ maxLen ∧ zs.length = cap ∧ (∀ i, i < zs.length → w.cell? (x.add i) = some (.int k (zs.getD i 0))) ∧ ∀ n ∈ zs, (Lit.int k n).wf = true

/-! ### STEP 1: THE WALK: the Go text returns true, AND WRITES NOTHING THAT WAS THERE: 'Below w.heap.size w w'' (Derived/Below.lean: '.refl', '.alloc', '.drew', '.setCell' at a new block, '.trans'). Open each 'IsRow' by 'rcases' AHEAD of 'go_enter'; part every test ahead of the walk. -/
set_option maxRecDepth 100000 in
set_option maxHeartbeats 4000000 in
theorem walk (a0 : Option Addr) (len0 cap0 : Nat) (z0 : List Int) (a1 : Int) (a2 : Int) (a3 : Int) (w : World) (w0 : IsRow .i64 w a0 len0 cap0 z0) (w1 : (Lit.int .i64 a1).wf = true) (w2 : (Lit.int .i64 a2).wf = true) (w3 : (Lit.int .u8 a3).wf = true) :
    Calls Try.prog 8 #[.slice a0 len0 cap0, .int .i64 a1, .int .i64 a2, .int .u8 a3] w fun e w' => e = .returned (.bool true) ∧ Below w.heap.size w w' := by
  obtain ⟨xs, rfl, hsl⟩ := row_sl w0
  by_cases h1 : 100 < xs.length
  · go_enter Try.func8, Try.ntmps8
    go_wp2_with (first | (go_at_call 10; refine (sanity_true _).mono ?_; rintro e w1 ⟨rfl, hb⟩))
    go_ret
    exact ⟨rfl, hb⟩
  by_cases h2 : a1 < 0
  · go_enter Try.func8, Try.ntmps8
    go_wp2_with (first | (go_at_call 10; refine (sanity_true _).mono ?_; rintro e w1 ⟨rfl, hb⟩))
    go_ret
    exact ⟨rfl, hb⟩
  by_cases h3 : a2 < 0
  · go_enter Try.func8, Try.ntmps8
    go_wp2_with (first | (go_at_call 10; refine (sanity_true _).mono ?_; rintro e w1 ⟨rfl, hb⟩))
    go_ret
    exact ⟨rfl, hb⟩
  by_cases h4 : 255 < a1
  · go_enter Try.func8, Try.ntmps8
    go_wp2_with (first | (go_at_call 10; refine (sanity_true _).mono ?_; rintro e w1 ⟨rfl, hb⟩))
    go_ret
    exact ⟨rfl, hb⟩
  by_cases h5 : 255 < a2
  · go_enter Try.func8, Try.ntmps8
    go_wp2_with (first | (go_at_call 10; refine (sanity_true _).mono ?_; rintro e w1 ⟨rfl, hb⟩))
    go_ret
    exact ⟨rfl, hb⟩
  have hx := wf_u8 w3
  obtain ⟨x, rfl⟩ : ∃ x : Nat, a3 = (x : Int) := ⟨a3.toNat, by omega⟩
  have hk : x % 64 < 64 := Nat.mod_lt _ (by decide)
  have hrem : (x : Int).tmod 64 = ((x % 64 : Nat) : Int) := (Int.ofNat_tmod x 64).symm
  generalize x % 64 = k at *
  have c1 : Bx (∀ W a c, Sl W .i64 a (List.replicate 64 a1) → Calls Try.prog 16 #[.slice a 64 c] W fun e w' => e = .returned (.tuple #[.string (strOfNums (Pal.encB (List.replicate 64 a1))), .int .i64 0]) ∧ Below W.heap.size W w') := ⟨fun W a c h => by
    have := pal_encode a c (List.replicate 64 a1) W (by simp) h
    rwa [Pal.encE_one (by omega) (by omega), List.length_replicate] at this⟩
  have c2 : Bx (∀ W a c, Sl W .i64 a (List.replicate 64 a1) → Calls Try.prog 22 #[.slice a 64 c, .slice a 64 c] W fun e w' => e = .returned (.tuple #[.string (strOfNums (Pal.dltB (List.replicate 64 a1) (List.replicate 64 a1))), .int .i64 0]) ∧ Below W.heap.size W w') := ⟨fun W a c h => by
    have hb := Pal.brick_one (o := a1) (by omega) (by omega)
    have := pal_delta a a c c (List.replicate 64 a1) (List.replicate 64 a1) W (by simp) (by simp) h h
    rwa [Pal.dltE_good hb hb, List.length_replicate] at this⟩
  have c3 : Bx (∀ W a c, Sl W .i64 a (Pal.two a1 a2 k) → Calls Try.prog 16 #[.slice a 64 c] W fun e w' => e = .returned (.tuple #[.string (strOfNums (Pal.encB (Pal.two a1 a2 k))), .int .i64 0]) ∧ Below W.heap.size W w') := ⟨fun W a c h => by
    have := pal_encode a c (Pal.two a1 a2 k) W (by rw [Pal.two_length]; decide) h
    rwa [Pal.encE_two (by omega) (by omega) (by omega) (by omega), Pal.two_length] at this⟩
  have c4 := Bx.mk (fun W h => pal_encode a0 cap0 xs W (by omega) h)
  have z1 : Bx ((strOfNums (Pal.encB (List.replicate 64 a1))).size = 3) := ⟨by rw [strOfNums_size, Pal.encB_one (by omega) (by omega)]⟩
  have z2 : Bx ((strOfNums (Pal.dltB (List.replicate 64 a1) (List.replicate 64 a1))).size = 9) := ⟨by rw [strOfNums_size, Pal.dltB_self (Pal.brick_one (by omega) (by omega))]⟩
  have z3 : Bx ((strOfNums (Pal.encB (Pal.two a1 a2 k))).size = if a1 = a2 then 3 else 12) := ⟨by rw [strOfNums_size, Pal.encB_two hk (by omega) (by omega) (by omega) (by omega)]⟩
  have z4 : Bx (Pal.encE xs = 0 → (strOfNums (Pal.encB xs)).size ≤ 130) := ⟨fun h => by rw [strOfNums_size]; exact Pal.encB_le xs h⟩
  have htwo : Bx ((List.replicate 64 a1).set k a2 = Pal.two a1 a2 k) := ⟨rfl⟩
  generalize strOfNums (Pal.encB (List.replicate 64 a1)) = S1 at *
  generalize strOfNums (Pal.dltB (List.replicate 64 a1) (List.replicate 64 a1)) = S2 at *
  generalize strOfNums (Pal.encB (Pal.two a1 a2 k)) = S3 at *
  generalize strOfNums (Pal.encB xs) = S4 at *
  generalize Pal.encE xs = e4 at *
  have hkk : (k : Int) < 64 := by omega
  clear w1 w2 w3
  go_enter Try.func8, Try.ntmps8
  go_wp2
  go_loopw [9, 10] (fun v i wr => ∃ j : Nat, j ≤ 64 ∧ i = .int .i64 j ∧ Own wr w.heap.size 3 .i64 v (List.replicate j a1) ∧ Below w.heap.size w wr) (fun _ i _ => 64 - (intOf i).toNat)
  case atStart => exact ⟨0, Nat.zero_le _, rfl, Own.nil _ _ _ _, Below.refl _ _⟩
  case round =>
    obtain ⟨j, hj, rfl, hown, hbel⟩ := hrel
    by_cases hlt : j < 64
    · go_wp2_with (first
        | (at_builtin
           refine wpList_append_int rfl _ _ 22 rfl 3 .i64 (.int .i64 0) 8 (by omega) Try.underlying22 (by kernel_rfl) rfl w.heap.size _ (List.replicate j a1) rfl (hown.alloc _) a1 ⟨wr.heap.size, 0, none⟩ 1 rfl (cell_new _ _ _) (by simp; omega) (le_alloc hbel.size _) ?_
           intro v1 w1 hown1 hg1 _))
      go_roundw
      case rel =>
        refine ⟨j + 1, by omega, by go_num, ?_, (hbel.alloc hbel.size _).grown hg1 (le_alloc hbel.size _) (fun g hg => (hown.lt g hg).1)⟩
        rw [List.replicate_succ']
        exact hown1
      case measure => simp [intOf]; omega
    · have hj64 : j = 64 := by omega
      subst hj64
      have hlen : (List.replicate 64 a1).length = 64 := List.length_replicate
      generalize List.replicate 64 a1 = l at *
      obtain ⟨g, cp, rfl, hgB, hglt, _⟩ := hown.at (by omega)
      rw [hlen] at hown ⊢
      go_wp2_with fail
      refine (c1.out _ _ _ hown.sl).mono ?_
      rintro _ v1 ⟨rfl, hb1⟩
      replace hown := hown.below hb1
      replace hbel := hbel.trans (hb1.mono hbel.size)
      clear hb1
      go_wp2_with fail
      refine (c2.out _ _ _ hown.sl).mono ?_
      rintro _ v2 ⟨rfl, hb2⟩
      replace hown := hown.below hb2
      replace hbel := hbel.trans (hb2.mono hbel.size)
      clear hb2
      obtain ⟨g', cp', hv, hgB', hglt', hcell, hfr, hset⟩ := hown.at (by omega)
      injection hv with hv1 hv2 hv3
      injection hv1 with hv1
      injection hv1 with hv1
      subst hv1
      subst hv3
      clear hv2
      obtain ⟨y, hy⟩ : ∃ y, l[k]? = some y := ⟨_, List.getElem?_eq_getElem (by omega)⟩
      have hck := hcell k y hy
      have hfk := hfr k
      have hsk := Bx.mk (hset k a2)
      rw [htwo.out, hlen] at hsk
      clear hy hcell hfr hset
      replace hbel := hbel.setCell (p := ⟨g, k, none⟩) hgB (.int .i64 a2)
      have hs1 := z1.out
      have hs2 := z2.out
      have hs3 := z3.out
      have hs4 := z4.out
      clear z1 z2 z3 z4
      by_cases heq : a1 = a2
      all_goals
        by_cases he4 : e4 = 0
        all_goals
          first | rw [if_pos heq] at hs3 | rw [if_neg heq] at hs3
          have hq : (a1 == a2) = decide (a1 = a2) := rfl
          first | rw [decide_eq_true heq] at hq | rw [decide_eq_false heq] at hq
          have hz : (e4 != 0) = !decide (e4 = 0) := rfl
          have hd : e4 = 0 → decide ((S4.size : Int) ≤ 130) = true := fun h => by have := hs4 h; simp; omega
          first | (rw [decide_eq_true he4] at hz; replace hd := hd he4) | (rw [decide_eq_false he4] at hz; clear hd)
          clear hs4
          clear heq he4
          go_wp2_with fail
          refine (c3.out _ _ _ hsk.out.sl).mono ?_
          rintro _ v3 ⟨rfl, hb3⟩
          replace hbel := hbel.trans (hb3.mono hbel.size)
          clear hb3
          go_wp2_with fail
          refine (c4.out _ (hsl.below hbel)).mono ?_
          rintro _ v4 ⟨rfl, hb4⟩
          replace hbel := hbel.trans (hb4.mono hbel.size)
          clear hb4
          go_wp2_with fail
          refine (sanity_true _).mono ?_
          rintro _ v5 ⟨rfl, hb5⟩
          replace hbel := hbel.trans (hb5.mono hbel.size)
          clear hb5
          go_wp2_with fail
          go_ret
          exact ⟨rfl, hbel⟩

/-! ### THE ROW's STEP: WRITTEN OUT: LEAVE IT -/
set_option maxRecDepth 100000 in
theorem lifted (os : Os) (started : os.Started) (H : Type) (enc : TypeId × Value → H) :
    ReturnsInHanded {} Try.checked os 8 .any (Rows.paletteIsShortSpec.pre6 enc Try.prog Try.f8 Rows.paletteIsShortRow.domain false) (Rows.paletteIsShortSpec.post enc Try.prog Try.f8 false true false false) := by
  refine returnsInHanded_of_change (C := Try.checked) own started (by kernel_rfl) Try.func8
    (ChangeSpec.witness6 (enc := enc) (C := Try.checked) false ⟨#[], #[.slice none 0 0, .int .i64 0, .int .i64 0, .int .u8 0], []⟩ 8 (by kernel_rfl) (by kernel_rfl) (by kernel_rfl) (by kernel_rfl)) ?_
  intro W base args ds gs before hval0 hW hcnd _
  have hval : ∀ (j : Nat) t v, Try.f8.params[j]? = some t → args[j]? = some v → Value.okWide Try.prog W .any base t v := hval0
  have hW' := hW
  obtain ⟨p, q, hA0, hV, rfl, hfz, hnd⟩ := hW
  have hA : DataW.TrodAll enc Try.prog W 0 (fun _ => true) true Try.f8.params.toList args.toList ds p := hA0
  rw [Try.params8] at hA hval
  obtain ⟨v0, vs0, d0, ds0, p0, q0, hargs, rfl, rfl, h0, r0⟩ := trodAll_cons hA
  obtain ⟨v1, vs1, d1, ds1, p1, q1, rfl, rfl, rfl, h1, r1⟩ := trodAll_cons r0
  obtain ⟨v2, vs2, d2, ds2, p2, q2, rfl, rfl, rfl, h2, r2⟩ := trodAll_cons r1
  obtain ⟨v3, vs3, d3, ds3, p3, q3, rfl, rfl, rfl, h3, r3⟩ := trodAll_cons r2
  obtain ⟨rfl, rfl, rfl⟩ := trodAll_nil r3
  obtain rfl : args = #[v0, v1, v2, v3] := by cases args; simp_all
  obtain ⟨rfl, rfl⟩ := trodVars_none hV
  obtain ⟨a0, len0, cap0, rfl⟩ := okWide_slice Try.underlying22 (hval 0 22 v0 rfl rfl)
  have k0 := h0
  have lt0 : ∀ x ∈ p0, x.block < W.heap.size := by obtain ⟨m, hm⟩ := k0; exact DataW.trod_lt m _ _ _ hm
  obtain ⟨z0, w0⟩ : ∃ zs, IsRow .i64 W a0 len0 cap0 zs := by
    obtain ⟨fuel, hf⟩ := h0
    rcases open_ints Try.underlying22 Try.underlying3 (by kernel_rfl) hf with ⟨hcs, _⟩ | ⟨x, l, c, zs, hcs, _, hl, hm, hz, _, hcell, hwz⟩
    · simp [Value.cells] at hcs
      obtain ⟨rfl, rfl, rfl⟩ := hcs
      exact ⟨[], .inl ⟨rfl, rfl, rfl, rfl⟩⟩
    · simp [Value.cells] at hcs
      obtain ⟨rfl, rfl, rfl⟩ := hcs
      exact ⟨zs, .inr ⟨_, rfl, hl, hm, by simpa using hz, hcell, hwz⟩⟩
  obtain ⟨a1, rfl, rfl, rfl, w1⟩ := open_int Try.underlying3 (hval 1 3 v1 rfl rfl) h1
  obtain ⟨a2, rfl, rfl, rfl, w2⟩ := open_int Try.underlying3 (hval 2 3 v2 rfl rfl) h2
  obtain ⟨a3, rfl, rfl, rfl, w3⟩ := open_int Try.underlying5 (hval 3 5 v3 rfl rfl) h3
  clear hA0 hval0
  refine (walk a0 len0 cap0 z0 a1 a2 a3 W w0 w1 w2 w3).mono fun e W' ⟨he, bel⟩ => ?_
  subst he
  exact ⟨_, rfl, _, _, _, [], _, [], hW', trodAll_mk1 (shut_bool Try.underlying4 _), (trodAll_cons_mk (Below.trod laidOut (by kernel_rfl) (of_decide_eq_true (by kernel_rfl)) k0 bel lt0) (trodAll_cons_mk (shut_int Try.underlying3 w1) (trodAll_cons_mk (shut_int Try.underlying3 w2) (trodAll_cons_mk (shut_int Try.underlying5 w3) trodAll_mk0)))), rfl, bel.frame _, fun h => by cases h⟩

theorem over : Rows.paletteIsShortRow.holds Try.pinned (OpenSpec.ofChange Rows.paletteIsShortSpec) :=
  OpenClaim.holds_of_wide 8 Try.f8 rfl rfl rfl rfl rfl rfl rfl ⟨rfl, rfl, rfl, rfl, rfl⟩ rfl rfl rfl rfl rfl (by kernel_rfl) Try.func8 (by kernel_rfl)
    (of_decide_eq_true (by kernel_rfl)) (by unfold Func.isWrapper; first | (rw [if_pos (by decide +kernel)]; kernel_rfl) | (rw [if_neg (by decide +kernel)]; exact ⟨rfl, rfl⟩))
    (fun os started H enc _ => lifted os started H enc)

/-- ████ THE STATEMENT ████ -/
theorem proved : Rows.PaletteIsShortSaid := over
#print axioms proved
end Go.Proofs.Ytcgieiocbjkdlaa.paletteIsShort
