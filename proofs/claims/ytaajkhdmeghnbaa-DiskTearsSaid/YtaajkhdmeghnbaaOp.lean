/- One operation of a script, on both sides. -/
import Derived.Test.YtaajkhdmeghnbaaRcl
namespace Go.Proofs.Ytaajkhdmeghnbaa
open Go.RowKit Go.Sort

theorem write_any (w : World) (p g mb cap m : Nat) (d : Dk) (h : DkIs w p g mb cap m d) (hm : m < 1000000) (i at_ : Int) (s : List Int) (hs : Byt s) (hl : s.length ≤ 300) (hat : -9223372036854775808 ≤ at_ ∧ at_ ≤ 9223372036854775807) :
    Calls Try.prog 21 #[.pointer (some ⟨p, 0, none⟩), .int .i64 i, .int .i64 at_, .string (strOfNums s)] w (WritePost p g mb cap (m + 1) w (d.write i at_ s).1 (d.write i at_ s).2) := by
  unfold Dk.write eDown eArg
  by_cases ho : d.off = true
  · rw [if_pos ho]
    have := write_bad w p g mb cap m d h i at_ s hl hat (.inl ho)
    rw [if_pos ho] at this
    exact this.mono fun e w' ⟨h1, h2, h3⟩ => ⟨h1, h2.mono (by omega), h3⟩
  · rw [if_neg ho]
    by_cases hb : (d.is i && decide (0 ≤ at_) && decide (at_ ≤ 128) && decide ((s.length : Int) ≤ 128 - at_)) = false
    · rw [if_pos hb]
      have := write_bad w p g mb cap m d h i at_ s hl hat (.inr hb)
      rw [if_neg ho] at this
      exact this.mono fun e w' ⟨h1, h2, h3⟩ => ⟨h1, h2.mono (by omega), h3⟩
    · rw [if_neg hb]
      rw [Bool.not_eq_false] at hb
      simp only [Bool.and_eq_true, decide_eq_true_eq] at hb
      obtain ⟨⟨⟨hi, h0⟩, h1⟩, h2⟩ := hb
      obtain ⟨k, x, rfl, hx⟩ := is_at hi
      obtain ⟨j, rfl⟩ := Int.eq_ofNat_of_zero_le h0
      have hof : d.off = false := by simpa using ho
      by_cases hst : d.step.2 = false
      · rw [if_pos hst]
        exact (write_down w p g mb cap m d h k j s hof hi (by omega) hst).mono fun e w' ⟨h1, h2, h3⟩ => ⟨h1, h2.mono (by omega), h3⟩
      · rw [if_neg hst]
        have := write_ok w p g mb cap m d h hm k j x hx s hs hof (by omega) (by simpa using hst)
        rw [step_p] at this
        exact this
theorem flush_any (w : World) (p g mb cap m : Nat) (d : Dk) (h : DkIs w p g mb cap m d) :
    Calls Try.prog 19 #[.pointer (some ⟨p, 0, none⟩)] w (WritePost p g mb cap m w d.flush.1 d.flush.2) := by
  unfold Dk.flush eDown
  by_cases ho : d.off = true
  · rw [if_pos ho]; exact flush_off w p g mb cap m d h ho
  · rw [if_neg ho]
    have hof : d.off = false := by simpa using ho
    by_cases hst : d.step.2 = false
    · rw [if_pos hst]; exact flush_down w p g mb cap m d h hof hst
    · rw [if_neg hst]
      have := flush_ok w p g mb cap m d h hof (by simpa using hst)
      rw [step_p] at this
      exact this
theorem rot_any (w : World) (p g mb cap m : Nat) (d : Dk) (h : DkIs w p g mb cap m d) (i bit : Int) :
    Calls Try.prog 26 #[.pointer (some ⟨p, 0, none⟩), .int .i64 i, .int .i64 bit] w (WritePost p g mb cap m w (d.rot i bit).1 (d.rot i bit).2) := by
  unfold Dk.rot eArg
  by_cases hb : (d.is i && decide (0 ≤ bit) && decide (bit < 1024)) = false
  · rw [if_pos hb]; exact rot_bad w p g mb cap m d h i bit hb
  · rw [if_neg hb]
    rw [Bool.not_eq_false] at hb
    simp only [Bool.and_eq_true, decide_eq_true_eq] at hb
    obtain ⟨⟨hi, h0⟩, h1⟩ := hb
    obtain ⟨k, x, rfl, hx⟩ := is_at hi
    obtain ⟨j, rfl⟩ := Int.eq_ofNat_of_zero_le h0
    exact rot_ok w p g mb cap m d h k j x hx (by omega)
theorem rwrite_any (w : World) (q g cap : Nat) (d : Dk) (h : RkIs w q g cap d) (i at_ : Int) (s : List Int) (hs : Byt s) (hl : s.length ≤ 300) (hat : -9223372036854775808 ≤ at_ ∧ at_ ≤ 9223372036854775807) :
    Calls Try.prog 34 #[.pointer (some ⟨q, 0, none⟩), .int .i64 i, .int .i64 at_, .string (strOfNums s)] w (RWritePost q g cap w (d.write i at_ s).1 (d.write i at_ s).2) := by
  unfold Dk.write eDown eArg
  by_cases ho : d.off = true
  · rw [if_pos ho]
    have := rwrite_bad w q g cap d h i at_ s hl hat (.inl ho)
    rw [if_pos ho] at this
    exact this
  · rw [if_neg ho]
    by_cases hb : (d.is i && decide (0 ≤ at_) && decide (at_ ≤ 128) && decide ((s.length : Int) ≤ 128 - at_)) = false
    · rw [if_pos hb]
      have := rwrite_bad w q g cap d h i at_ s hl hat (.inr hb)
      rw [if_neg ho] at this
      exact this
    · rw [if_neg hb]
      rw [Bool.not_eq_false] at hb
      simp only [Bool.and_eq_true, decide_eq_true_eq] at hb
      obtain ⟨⟨⟨hi, h0⟩, h1⟩, h2⟩ := hb
      obtain ⟨k, x, rfl, hx⟩ := is_at hi
      obtain ⟨j, rfl⟩ := Int.eq_ofNat_of_zero_le h0
      have hof : d.off = false := by simpa using ho
      by_cases hst : d.step.2 = false
      · rw [if_pos hst]
        exact rwrite_down w q g cap d h k j s hof hi (by omega) hst
      · rw [if_neg hst]
        have := rwrite_ok w q g cap d h k j x hx s hs hof (by omega) (by simpa using hst)
        rw [step_p] at this
        exact this
theorem rflush_any (w : World) (q g cap : Nat) (d : Dk) (h : RkIs w q g cap d) :
    Calls Try.prog 35 #[.pointer (some ⟨q, 0, none⟩)] w (RWritePost q g cap w d.flush.1 d.flush.2) := by
  unfold Dk.flush eDown
  by_cases ho : d.off = true
  · rw [if_pos ho]; exact rflush_off w q g cap d h ho
  · rw [if_neg ho]
    have hof : d.off = false := by simpa using ho
    by_cases hst : d.step.2 = false
    · rw [if_pos hst]; exact rflush_down w q g cap d h hof hst
    · rw [if_neg hst]
      have := rflush_ok w q g cap d h hof (by simpa using hst)
      rw [step_p] at this
      exact this
theorem rrot_any (w : World) (q g cap : Nat) (d : Dk) (h : RkIs w q g cap d) (i bit : Int) :
    Calls Try.prog 38 #[.pointer (some ⟨q, 0, none⟩), .int .i64 i, .int .i64 bit] w (RWritePost q g cap w (d.rot i bit).1 (d.rot i bit).2) := by
  unfold Dk.rot eArg
  by_cases hb : (d.is i && decide (0 ≤ bit) && decide (bit < 1024)) = false
  · rw [if_pos hb]; exact rrot_bad w q g cap d h i bit hb
  · rw [if_neg hb]
    rw [Bool.not_eq_false] at hb
    simp only [Bool.and_eq_true, decide_eq_true_eq] at hb
    obtain ⟨⟨hi, h0⟩, h1⟩ := hb
    obtain ⟨k, x, rfl, hx⟩ := is_at hi
    obtain ⟨j, rfl⟩ := Int.eq_ofNat_of_zero_le h0
    exact rrot_ok w q g cap d h k j x hx (by omega)
/-- an operation -/
structure Opn where
  kind : Int
  i : Int
  at_ : Int
  text : List Int
  a : Option Addr
  c : Nat
  picks : List Int
def Opn.v (x : Opn) : Value := .agg #[.int .i64 x.kind, .int .i64 x.i, .int .i64 x.at_, .string (strOfNums x.text), .slice x.a x.picks.length x.c]
structure OpnOk (x : Opn) : Prop where
  text : Byt x.text
  tl : x.text.length ≤ 300
  pl : x.picks.length ≤ 70
  i1 : -9223372036854775808 ≤ x.i ∧ x.i ≤ 9223372036854775807
  at1 : -9223372036854775808 ≤ x.at_ ∧ x.at_ ≤ 9223372036854775807
/-- what an operation makes of a disk, and what it answers -/
def Dk.doOp (d : Dk) (x : Opn) : Dk × (List Int × Int) :=
  if x.kind = 1 then (d, d.read x.i) else if x.kind = 2 then ((d.write x.i x.at_ x.text).1, [], (d.write x.i x.at_ x.text).2) else if x.kind = 3 then (d.flush.1, [], d.flush.2)
  else if x.kind = 4 then (d.setTrip x.i, [], 0) else if x.kind = 5 then (d.mount x.picks, [], 0) else if x.kind = 6 then ((d.rot x.i x.at_).1, [], (d.rot x.i x.at_).2) else (d, [], 0)
def DoPost (p g mb cap m : Nat) (w : World) (r : Dk × (List Int × Int)) (e : Ending) (w' : World) : Prop :=
  e = .returned (.tuple #[.string (strOfNums r.2.1), .int .i64 r.2.2]) ∧ DkIs w' p g mb cap m r.1 ∧ Chg (In3 p g mb) w w'
def RDoPost (q g cap : Nat) (w : World) (r : Dk × (List Int × Int)) (e : Ending) (w' : World) : Prop :=
  e = .returned (.tuple #[.string (strOfNums r.2.1), .int .i64 r.2.2]) ∧ RkIs w' q g cap r.1 ∧ Chg (In2 q g) w w'
theorem Chg.after {S : Nat → Prop} {w w1 w' : World} {B : Nat} (hb : Below B w w1) (hB : B = w.heap.size) (h : Chg S w1 w') : Chg S w w' := by
  subst hB
  exact (Chg.ofBelow hb S).trans h (fun _ _ e => e)
set_option maxRecDepth 100000 in
theorem do_any (w : World) (p g mb cap m : Nat) (d : Dk) (h : DkIs w p g mb cap m d) (hm : m < 1000000) (x : Opn) (hx : OpnOk x) (hs : Sl w .i64 x.a x.picks) (hap : ∀ b o, x.a = some ⟨b, o, none⟩ → 0 < x.picks.length → ¬ In3 p g mb b) :
    Calls Try.prog 13 #[.pointer (some ⟨p, 0, none⟩), x.v] w (DoPost p g mb cap (m + 1) w (d.doOp x)) := by
  have H := Bx.mk h
  have HS := Bx.mk hs
  have HA := Bx.mk hap
  have HX := Bx.mk hx
  clear h hs hap hx
  obtain ⟨kd, i, at_, tx, a, c, picks⟩ := x
  unfold Opn.v
  dsimp only
  generalize hR : d.doOp ⟨kd, i, at_, tx, a, c, picks⟩ = R at *
  replace hR := Bx.mk hR
  go_enter Try.func13, Try.ntmps13
  go_upto_region 1 with fail
  generalize hW : World.alloc w _ = W
  have kx : Bk W w.heap.size #[.int .i64 kd, .int .i64 i, .int .i64 at_, .string (strOfNums tx), .slice a picks.length c] 34 := by rw [← hW]; exact blk_new _ _ _ rfl
  have hb : Bx (Below w.heap.size w W) := by rw [← hW]; exact ⟨(Below.refl _ _).alloc (Nat.le_refl _) _⟩
  clear hW
  have HD := Bx.mk (H.out.later hb.out)
  have c0 := kx.cell 0 rfl
  have c1 := kx.cell 1 rfl
  have c2 := kx.cell 2 rfl
  have c3 := kx.cell 3 rfl
  have c4 := kx.cell 4 rfl
  clear kx
  by_cases h1 : kd = 1
  · have t1 : (kd == 1) = true := by simpa using h1
    have hdo : Bx (R = (d, d.read i)) := ⟨by rw [← hR.out]; unfold Dk.doOp; rw [if_pos h1]⟩
    have hC := Bx.mk (read_any W p g mb cap m d HD.out i)
    generalize d.read i = r at *
    clear hR h1
    go_wp2_with (go_at_call 18; refine hC.out.mono ?_; rintro _ w2 ⟨rfl, hb2⟩; replace hb2 := Bx.mk hb2)
    go_ret2
    rw [hdo.out]
    exact ⟨rfl, (HD.out.later hb2.out).mono (Nat.le_succ m), .after (hb.out.trans (hb2.out.mono hb.out.size)) rfl (Chg.refl _ _)⟩
  · have t1 : (kd == 1) = false := by simpa using h1
    by_cases h2 : kd = 2
    · have t2 : (kd == 2) = true := by simpa using h2
      have hdo : Bx (R = ((d.write i at_ tx).1, [], (d.write i at_ tx).2)) := ⟨by rw [← hR.out]; unfold Dk.doOp; rw [if_neg h1, if_pos h2]⟩
      have hC := Bx.mk (write_any W p g mb cap m d HD.out hm i at_ tx HX.out.text HX.out.tl HX.out.at1)
      generalize d.write i at_ tx = r at *
      clear hR h1 h2
      go_wp2_with (go_at_call 21; refine hC.out.mono ?_; rintro _ w2 ⟨rfl, hd2, hc2⟩; replace hd2 := Bx.mk hd2; replace hc2 := Bx.mk hc2)
      go_ret2
      rw [hdo.out]
      exact ⟨rfl, hd2.out, .after hb.out rfl hc2.out⟩
    · have t2 : (kd == 2) = false := by simpa using h2
      by_cases h3 : kd = 3
      · have t3 : (kd == 3) = true := by simpa using h3
        have hdo : Bx (R = (d.flush.1, [], d.flush.2)) := ⟨by rw [← hR.out]; unfold Dk.doOp; rw [if_neg h1, if_neg h2, if_pos h3]⟩
        have hC := Bx.mk (flush_any W p g mb cap m d HD.out)
        generalize d.flush = r at *
        clear hR h1 h2 h3
        go_wp2_with (go_at_call 19; refine hC.out.mono ?_; rintro _ w2 ⟨rfl, hd2, hc2⟩; replace hd2 := Bx.mk hd2; replace hc2 := Bx.mk hc2)
        go_ret2
        rw [hdo.out]
        exact ⟨rfl, (hd2.out).mono (Nat.le_succ m), .after hb.out rfl hc2.out⟩
      · have t3 : (kd == 3) = false := by simpa using h3
        by_cases h4 : kd = 4
        · have t4 : (kd == 4) = true := by simpa using h4
          have hdo : Bx (R = (d.setTrip i, [], 0)) := ⟨by rw [← hR.out]; unfold Dk.doOp; rw [if_neg h1, if_neg h2, if_neg h3, if_pos h4]⟩
          have hC := Bx.mk (trip_any W p g mb cap m d HD.out i HX.out.i1)
          clear hR h1 h2 h3 h4
          go_wp2_with (go_at_call 17; refine hC.out.mono ?_; rintro _ w2 ⟨rfl, hd2, hc2⟩; replace hd2 := Bx.mk hd2; replace hc2 := Bx.mk hc2)
          go_ret2
          rw [hdo.out]
          exact ⟨rfl, (hd2.out).mono (Nat.le_succ m), .after hb.out rfl (DkIs.chgP hc2.out)⟩
        · have t4 : (kd == 4) = false := by simpa using h4
          by_cases h5 : kd = 5
          · have t5 : (kd == 5) = true := by simpa using h5
            have hdo : Bx (R = (d.mount picks, [], 0)) := ⟨by rw [← hR.out]; unfold Dk.doOp; rw [if_neg h1, if_neg h2, if_neg h3, if_neg h4, if_pos h5]⟩
            have hC := Bx.mk (mount_any W p g mb cap m d HD.out a c picks (Nat.le_trans HX.out.pl (by decide)) (HS.out.below hb.out) (fun b o e => (HA.out b o e)))
            clear hR h1 h2 h3 h4 h5
            go_wp2_with (go_at_call 22; refine hC.out.mono ?_; rintro _ w2 ⟨rfl, hd2, hc2⟩; replace hd2 := Bx.mk hd2; replace hc2 := Bx.mk hc2)
            go_ret2
            rw [hdo.out]
            exact ⟨rfl, (hd2.out).mono (Nat.le_succ m), .after hb.out rfl hc2.out⟩
          · have t5 : (kd == 5) = false := by simpa using h5
            by_cases h6 : kd = 6
            · have t6 : (kd == 6) = true := by simpa using h6
              have hdo : Bx (R = ((d.rot i at_).1, [], (d.rot i at_).2)) := ⟨by rw [← hR.out]; unfold Dk.doOp; rw [if_neg h1, if_neg h2, if_neg h3, if_neg h4, if_neg h5, if_pos h6]⟩
              have hC := Bx.mk (rot_any W p g mb cap m d HD.out i at_)
              generalize d.rot i at_ = r at *
              clear hR h1 h2 h3 h4 h5 h6
              go_wp2_with (go_at_call 26; refine hC.out.mono ?_; rintro _ w2 ⟨rfl, hd2, hc2⟩; replace hd2 := Bx.mk hd2; replace hc2 := Bx.mk hc2)
              go_ret2
              rw [hdo.out]
              exact ⟨rfl, (hd2.out).mono (Nat.le_succ m), .after hb.out rfl hc2.out⟩
            · have t6 : (kd == 6) = false := by simpa using h6
              have hdo : Bx (R = (d, [], 0)) := ⟨by rw [← hR.out]; unfold Dk.doOp; rw [if_neg h1, if_neg h2, if_neg h3, if_neg h4, if_neg h5, if_neg h6]⟩
              clear hR h1 h2 h3 h4 h5 h6
              go_wp2_with fail
              go_ret2
              rw [hdo.out]
              exact ⟨rfl, (HD.out).mono (Nat.le_succ m), .after hb.out rfl (Chg.refl _ _)⟩
set_option maxRecDepth 100000 in
theorem rdo_any (w : World) (q g cap : Nat) (d : Dk) (h : RkIs w q g cap d) (x : Opn) (hx : OpnOk x) (hs : Sl w .i64 x.a x.picks) (hap : ∀ b o, x.a = some ⟨b, o, none⟩ → 0 < x.picks.length → ¬ In2 q g b) :
    Calls Try.prog 14 #[.pointer (some ⟨q, 0, none⟩), x.v] w (RDoPost q g cap w (d.doOp x)) := by
  have H := Bx.mk h
  have HS := Bx.mk hs
  have HA := Bx.mk hap
  have HX := Bx.mk hx
  clear h hs hap hx
  obtain ⟨kd, i, at_, tx, a, c, picks⟩ := x
  unfold Opn.v
  dsimp only
  generalize hR : d.doOp ⟨kd, i, at_, tx, a, c, picks⟩ = R at *
  replace hR := Bx.mk hR
  go_enter Try.func14, Try.ntmps14
  go_upto_region 1 with fail
  generalize hW : World.alloc w _ = W
  have kx : Bk W w.heap.size #[.int .i64 kd, .int .i64 i, .int .i64 at_, .string (strOfNums tx), .slice a picks.length c] 34 := by rw [← hW]; exact blk_new _ _ _ rfl
  have hb : Bx (Below w.heap.size w W) := by rw [← hW]; exact ⟨(Below.refl _ _).alloc (Nat.le_refl _) _⟩
  clear hW
  have HD := Bx.mk (H.out.later hb.out)
  have c0 := kx.cell 0 rfl
  have c1 := kx.cell 1 rfl
  have c2 := kx.cell 2 rfl
  have c3 := kx.cell 3 rfl
  have c4 := kx.cell 4 rfl
  clear kx
  by_cases h1 : kd = 1
  · have t1 : (kd == 1) = true := by simpa using h1
    have hdo : Bx (R = (d, d.read i)) := ⟨by rw [← hR.out]; unfold Dk.doOp; rw [if_pos h1]⟩
    have hC := Bx.mk (rread_any W q g cap d HD.out i)
    generalize d.read i = r at *
    clear hR h1
    go_wp2_with (go_at_call 33; refine hC.out.mono ?_; rintro _ _ ⟨rfl, rfl⟩)
    go_ret2
    rw [hdo.out]
    exact ⟨rfl, HD.out, .after hb.out rfl (Chg.refl _ _)⟩
  · have t1 : (kd == 1) = false := by simpa using h1
    by_cases h2 : kd = 2
    · have t2 : (kd == 2) = true := by simpa using h2
      have hdo : Bx (R = ((d.write i at_ tx).1, [], (d.write i at_ tx).2)) := ⟨by rw [← hR.out]; unfold Dk.doOp; rw [if_neg h1, if_pos h2]⟩
      have hC := Bx.mk (rwrite_any W q g cap d HD.out i at_ tx HX.out.text HX.out.tl HX.out.at1)
      generalize d.write i at_ tx = r at *
      clear hR h1 h2
      go_wp2_with (go_at_call 34; refine hC.out.mono ?_; rintro _ w2 ⟨rfl, hd2, hc2⟩; replace hd2 := Bx.mk hd2; replace hc2 := Bx.mk hc2)
      go_ret2
      rw [hdo.out]
      exact ⟨rfl, hd2.out, .after hb.out rfl hc2.out⟩
    · have t2 : (kd == 2) = false := by simpa using h2
      by_cases h3 : kd = 3
      · have t3 : (kd == 3) = true := by simpa using h3
        have hdo : Bx (R = (d.flush.1, [], d.flush.2)) := ⟨by rw [← hR.out]; unfold Dk.doOp; rw [if_neg h1, if_neg h2, if_pos h3]⟩
        have hC := Bx.mk (rflush_any W q g cap d HD.out)
        generalize d.flush = r at *
        clear hR h1 h2 h3
        go_wp2_with (go_at_call 35; refine hC.out.mono ?_; rintro _ w2 ⟨rfl, hd2, hc2⟩; replace hd2 := Bx.mk hd2; replace hc2 := Bx.mk hc2)
        go_ret2
        rw [hdo.out]
        exact ⟨rfl, hd2.out, .after hb.out rfl hc2.out⟩
      · have t3 : (kd == 3) = false := by simpa using h3
        by_cases h4 : kd = 4
        · have t4 : (kd == 4) = true := by simpa using h4
          have hdo : Bx (R = (d.setTrip i, [], 0)) := ⟨by rw [← hR.out]; unfold Dk.doOp; rw [if_neg h1, if_neg h2, if_neg h3, if_pos h4]⟩
          have hC := Bx.mk (rtrip_any W q g cap d HD.out i HX.out.i1)
          clear hR h1 h2 h3 h4
          go_wp2_with (go_at_call 36; refine hC.out.mono ?_; rintro _ w2 ⟨rfl, hd2, hc2⟩; replace hd2 := Bx.mk hd2; replace hc2 := Bx.mk hc2)
          go_ret2
          rw [hdo.out]
          exact ⟨rfl, hd2.out, .after hb.out rfl (RkIs.chgQ hc2.out)⟩
        · have t4 : (kd == 4) = false := by simpa using h4
          by_cases h5 : kd = 5
          · have t5 : (kd == 5) = true := by simpa using h5
            have hdo : Bx (R = (d.mount picks, [], 0)) := ⟨by rw [← hR.out]; unfold Dk.doOp; rw [if_neg h1, if_neg h2, if_neg h3, if_neg h4, if_pos h5]⟩
            have hC := Bx.mk (rmount_any W q g cap d HD.out a c picks (Nat.le_trans HX.out.pl (by decide)) (HS.out.below hb.out) (fun b o e => (HA.out b o e)))
            clear hR h1 h2 h3 h4 h5
            go_wp2_with (go_at_call 37; refine hC.out.mono ?_; rintro _ w2 ⟨rfl, hd2, hc2⟩; replace hd2 := Bx.mk hd2; replace hc2 := Bx.mk hc2)
            go_ret2
            rw [hdo.out]
            exact ⟨rfl, hd2.out, .after hb.out rfl hc2.out⟩
          · have t5 : (kd == 5) = false := by simpa using h5
            by_cases h6 : kd = 6
            · have t6 : (kd == 6) = true := by simpa using h6
              have hdo : Bx (R = ((d.rot i at_).1, [], (d.rot i at_).2)) := ⟨by rw [← hR.out]; unfold Dk.doOp; rw [if_neg h1, if_neg h2, if_neg h3, if_neg h4, if_neg h5, if_pos h6]⟩
              have hC := Bx.mk (rrot_any W q g cap d HD.out i at_)
              generalize d.rot i at_ = r at *
              clear hR h1 h2 h3 h4 h5 h6
              go_wp2_with (go_at_call 38; refine hC.out.mono ?_; rintro _ w2 ⟨rfl, hd2, hc2⟩; replace hd2 := Bx.mk hd2; replace hc2 := Bx.mk hc2)
              go_ret2
              rw [hdo.out]
              exact ⟨rfl, hd2.out, .after hb.out rfl hc2.out⟩
            · have t6 : (kd == 6) = false := by simpa using h6
              have hdo : Bx (R = (d, [], 0)) := ⟨by rw [← hR.out]; unfold Dk.doOp; rw [if_neg h1, if_neg h2, if_neg h3, if_neg h4, if_neg h5, if_neg h6]⟩
              clear hR h1 h2 h3 h4 h5 h6
              go_wp2_with fail
              go_ret2
              rw [hdo.out]
              exact ⟨rfl, HD.out, .after hb.out rfl (Chg.refl _ _)⟩
end Go.Proofs.Ytaajkhdmeghnbaa
