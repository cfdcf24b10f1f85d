/- The reference's Write, settle, Flush. -/
import Derived.Test.YtaajkhdmeghnbaaRdk
namespace Go.Proofs.Ytaajkhdmeghnbaa
open Go.RowKit Go.Sort

def RWritePost (q g cap : Nat) (w : World) (d' : Dk) (n : Int) (e : Ending) (w' : World) : Prop := e = .returned (.int .i64 n) ∧ RkIs w' q g cap d' ∧ Chg (In2 q g) w w'
theorem RkIs.chgQ {w w' : World} {q g : Nat} (h : Chg (· = q) w w') : Chg (In2 q g) w w' := h.mono fun _ _ e => .inl e
theorem rwrite_bad (w : World) (q g cap : Nat) (d : Dk) (h : RkIs w q g cap d) (i at_ : Int) (s : List Int) (_hs : s.length ≤ 300) (hat : -9223372036854775808 ≤ at_ ∧ at_ ≤ 9223372036854775807)
    (hb : d.off = true ∨ (d.is i && decide (0 ≤ at_) && decide (at_ ≤ 128) && decide ((s.length : Int) ≤ 128 - at_)) = false) :
    Calls Try.prog 34 #[.pointer (some ⟨q, 0, none⟩), .int .i64 i, .int .i64 at_, .string (strOfNums s)] w (RWritePost q g cap w d (if d.off = true then 20 else 1)) := by
  have H := Bx.mk h
  have c2 := h.kq.cell 1 rfl
  have hIs := Bx.mk (ris_any w q g cap d h i)
  have hsz : (strOfNums s).size = s.length := strOfNums_size s
  clear h
  by_cases ho : d.off = true
  · rw [if_pos ho]
    clear hb
    go_enter Try.func34, Try.ntmps34
    go_wp2_with (go_at_call 50; refine hIs.out.mono ?_; rintro _ _ ⟨rfl, rfl⟩)
    go_ret
    exact ⟨rfl, H.out, Chg.refl _ _⟩
  · rw [if_neg ho]
    replace hb := hb.resolve_left ho
    replace ho : d.off = false := by simpa using ho
    by_cases hi : d.is i = true
    · rw [hi] at hIs hb
      by_cases h1 : 0 ≤ at_
      · have t1 : decide (at_ < 0) = false := by simp; omega
        by_cases h2 : at_ ≤ 128
        · have t2 : decide (128 < at_) = false := by simp; omega
          have h3 : 128 - at_ < (s.length : Int) := by simpa [h1, h2] using hb
          have t3 : decide (128 - at_ < (s.length : Int)) = true := by simpa using h3
          clear hb
          go_enter Try.func34, Try.ntmps34
          go_wp2_with (go_at_call 50; refine hIs.out.mono ?_; rintro _ _ ⟨rfl, rfl⟩)
          go_ret
          exact ⟨rfl, H.out, Chg.refl _ _⟩
        · have t2 : decide (128 < at_) = true := by simp; omega
          clear hb
          go_enter Try.func34, Try.ntmps34
          go_wp2_with (go_at_call 50; refine hIs.out.mono ?_; rintro _ _ ⟨rfl, rfl⟩)
          go_ret
          exact ⟨rfl, H.out, Chg.refl _ _⟩
      · have t1 : decide (at_ < 0) = true := by simp; omega
        clear hb
        go_enter Try.func34, Try.ntmps34
        go_wp2_with (go_at_call 50; refine hIs.out.mono ?_; rintro _ _ ⟨rfl, rfl⟩)
        go_ret
        exact ⟨rfl, H.out, Chg.refl _ _⟩
    · replace hi : d.is i = false := by simpa using hi
      rw [hi] at hIs
      clear hb
      go_enter Try.func34, Try.ntmps34
      go_wp2_with (go_at_call 50; refine hIs.out.mono ?_; rintro _ _ ⟨rfl, rfl⟩)
      go_ret
      exact ⟨rfl, H.out, Chg.refl _ _⟩
theorem rwrite_down (w : World) (q g cap : Nat) (d : Dk) (h : RkIs w q g cap d) (i : Int) (at_ : Nat) (s : List Int) (ho : d.off = false) (hi : d.is i = true) (hat : at_ + s.length ≤ 128) (hst : d.step.2 = false) :
    Calls Try.prog 34 #[.pointer (some ⟨q, 0, none⟩), .int .i64 i, .int .i64 (at_ : Int), .string (strOfNums s)] w (RWritePost q g cap w d.step.1 20) := by
  have c2 := h.kq.cell 1 rfl
  have hIs := Bx.mk (ris_any w q g cap d h i)
  have hSt := Bx.mk (rstep_any w q g cap d h)
  have hsz : (strOfNums s).size = s.length := strOfNums_size s
  rw [hi] at hIs
  rw [hst, show errS false = 20 from rfl] at hSt
  have t1 : decide ((at_ : Int) < 0) = false := by simp
  have t2 : decide (128 < (at_ : Int)) = false := by simp; omega
  have t3 : decide (128 - (at_ : Int) < (s.length : Int)) = false := by simp; omega
  clear h hi hst
  go_enter Try.func34, Try.ntmps34
  go_wp2_with (first
    | (go_at_call 50; refine hIs.out.mono ?_; rintro _ _ ⟨rfl, rfl⟩)
    | (go_at_call 52; refine hSt.out.mono ?_; rintro _ w1 ⟨rfl, hd, hc⟩; replace hd := Bx.mk hd; replace hc := Bx.mk hc))
  go_ret
  exact ⟨rfl, hd.out, RkIs.chgQ hc.out⟩
/-- a page is changed -/
theorem RkIs.page {w w' : World} {q g cap i : Nat} {d : Dk} (h : RkIs w q g cap d) (f : Pg → Pg) (hf : ∀ x, d.p[i]? = some x → PgOk x → PgOk (f x)) (hc : Chg (· = g) w w') (hp : RC w' g d.p.length (Fof (d.p.modify i f))) : RkIs w' q g cap { d with p := d.p.modify i f } := by
  have hl : (d.p.modify i f).length = d.p.length := List.length_modify ..
  refine ⟨h.ok.put f hf, ?_, ?_, ?_, ?_, h.ne⟩
  · show 0 < (d.p.modify i f).length
    rw [hl]; exact h.pos
  · show (d.p.modify i f).length ≤ cap ∧ _
    rw [hl]; exact h.hcap
  · show Bk w' q #[.slice _ (d.p.modify i f).length cap, _, _] _
    rw [hl]; exact h.kq.chg hc h.ne
  · show RC w' g (d.p.modify i f).length _
    rw [hl]; exact hp
set_option maxRecDepth 100000 in
theorem rwrite_ok (w : World) (q g cap : Nat) (d : Dk) (h : RkIs w q g cap d) (i at_ : Nat) (x : Pg) (hx : d.p[i]? = some x) (s : List Int) (hs : Byt s) (ho : d.off = false) (hat : at_ + s.length ≤ 128) (hst : d.step.2 = true) :
    Calls Try.prog 34 #[.pointer (some ⟨q, 0, none⟩), .int .i64 (i : Int), .int .i64 (at_ : Int), .string (strOfNums s)] w
      (RWritePost q g cap w { d.step.1 with p := d.step.1.p.modify i fun x => (x.1, some (put x.now at_ s)) } 0) := by
  have c2 := h.kq.cell 1 rfl
  have hi : d.is i = true := by
    have := (List.getElem?_eq_some_iff.1 hx).1
    unfold Dk.is; simp; omega
  have hIs := Bx.mk (ris_any w q g cap d h i)
  have hSt := Bx.mk (rstep_any w q g cap d h)
  have hsz : (strOfNums s).size = s.length := strOfNums_size s
  have hP := h.ok.pages x (List.mem_of_getElem? hx)
  have hX := Bx.mk (show d.step.1.p[i]? = some x by rw [step_p]; exact hx)
  rw [hi] at hIs
  rw [hst, show errS true = 0 from rfl] at hSt
  have t1 : decide ((at_ : Int) < 0) = false := by simp
  have t2 : decide (128 < (at_ : Int)) = false := by simp; omega
  have t3 : decide (128 - (at_ : Int) < (s.length : Int)) = false := by simp; omega
  have hfew := h.ok.few
  have hdp := Bx.mk (step_p d)
  clear h hi hst hx
  generalize d.step.1 = d1 at *
  have l1 := hP.now
  go_enter Try.func34, Try.ntmps34
  go_upto_region 9 with (first
    | (go_at_call 50; refine hIs.out.mono ?_; rintro _ _ ⟨rfl, rfl⟩)
    | (go_at_call 52; refine hSt.out.mono ?_; rintro _ w1 ⟨rfl, hd, hc⟩; replace hd := Bx.mk hd; replace hc := Bx.mk hc))
  have hN := Bx.mk (rnow_any w1 q g cap d1 hd.out i x hX.out)
  clear hIs hSt t1 t2 t3 c2
  go_upto_region 10 with (go_at_call 51; refine hN.out.mono ?_; rintro _ _ ⟨rfl, rfl⟩)
  clear hN
  have k0 := Bx.mk (hd.out.kq.cell 0 rfl)
  have hiL : i < d1.p.length := (List.getElem?_eq_some_iff.1 hX.out).1
  have c0 : ∀ dk osk, (grow (redrawn w1 dk) osk).cell? ⟨q, 0, none⟩ = some (.slice (some ⟨g, 0, none⟩) d1.p.length cap) := cell_regrown k0.out
  have hdl : d1.p.length ≤ 40 := by rw [hdp.out]; exact hfew
  have b0 : (0 : Int) ≤ (i : Int) := by omega
  have b1 : (i : Int) < (d1.p.length : Int) := by omega
  obtain ⟨m, hm⟩ : ∃ m, m = at_ + s.length := ⟨_, rfl⟩
  have e1 := slice_to (P := Try.prog) 9 Try.underlying9 x.now at_ (by omega)
  have e2 := slice_from (P := Try.prog) 9 Try.underlying9 x.now m (by omega)
  have n2 : (at_ : Int) + (s.length : Int) = (m : Int) := by omega
  have z1 : (strOfNums (x.now.take at_)).size = at_ := by rw [strOfNums_size, List.length_take]; omega
  have z2 : (strOfNums (x.now.drop m)).size = 128 - m := by rw [strOfNums_size, List.length_drop]; omega
  have z3 : at_ + s.length ≤ 1000 := by omega
  have z4 : at_ + s.length + (128 - m) ≤ 1000 := by omega
  have hY : Bx (strOfNums (x.now.take at_) ++ strOfNums s ++ strOfNums (x.now.drop m) = strOfNums (put x.now at_ s)) := ⟨by rw [str_append, str_append, hm]; rfl⟩
  have n1 : IntKind.i64.wrap ((at_ : Int) + (s.length : Int)) = (m : Int) := by rw [IntWalk.i64_in _ (by omega)]; omega
  replace hm := Bx.mk hm
  refine wp_region_headT_below 19 (by kernel_rfl) (by kernel_rfl) ?_
  simp only [List.take_succ_cons, List.take_zero, List.drop_succ_cons, List.drop_zero]
  repeat (first | go_big_quiet_step (fail) | quiet_step (fail))
  rw [hY.out]
  have hlp := Bx.mk (put_len l1.1 hat)
  have hby : Bx (Byt (put x.now at_ s)) := ⟨((l1.2.take _).append hs).append (l1.2.drop _)⟩
  clear z1 z2 z3 z4 n1 n2 e1 e2 c0 hsz
  generalize hYY : put x.now at_ s = Y at *
  replace hYY := Bx.mk hYY
  refine wpQuiet_nil ?_
  rintro _ ⟨⟨dq, osq⟩, rfl⟩
  have hb5 := below_regrown w1 dq osq
  have hD5 := Bx.mk (hd.out.later hb5)
  have hC5 : Bx (Chg (In2 q g) w (grow (redrawn w1 dq) osq)) := ⟨(RkIs.chgQ hc.out).later hb5 hc.out.size⟩
  clear hb5 hd hc k0
  generalize grow (redrawn w1 dq) osq = W at *
  have p1 := hD5.out.pg.at_ i 1 hiL (by omega)
  have f1 := hD5.out.pg.free i 1 hiL (by omega)
  have r2 := Bx.mk (hD5.out.pg.set hiL (j := 1) (by omega) (.string (strOfNums Y)))
  go_upto_region 11 with fail
  have q1 := Bx.mk (chg_cell W g (i * 3 + 1) (.string (strOfNums Y)))
  have c0 := (hD5.out.kq.chg q1.out hD5.out.ne).cell 0 rfl
  have p2 := r2.out.at_ i 2 hiL (by omega)
  have f2 := r2.out.free i 2 hiL (by omega)
  have r3 := Bx.mk (r2.out.set hiL (j := 2) (by omega) (.bool true))
  generalize hW2 : W.setCell ⟨g, i * 3 + 1, none⟩ (.string (strOfNums Y)) = W2 at *
  replace hW2 := Bx.mk hW2
  have q2 : Bx (Chg (· = g) W (W2.setCell ⟨g, i * 3 + 2, none⟩ (.bool true))) := ⟨q1.out.setCell (.inl rfl) _⟩
  have hf : ∀ y, d1.p[i]? = some y → PgOk y → PgOk ((fun x : Pg => (x.1, some (put x.now at_ s))) y) := fun y hy hy2 => by
    rw [hX.out] at hy
    injection hy with hy
    subst hy
    refine ⟨hy2.1, hy2.2.1, fun n hn => ?_⟩
    have : some (put x.now at_ s) = some n := hn
    rw [hYY.out] at this
    injection this with this
    rw [← this]
    exact ⟨hlp.out, hby.out⟩
  have hD6 := Bx.mk (hD5.out.page (fun x : Pg => (x.1, some (put x.now at_ s))) hf q2.out (r3.out.congr fun a b ha hb => by
    unfold upd
    by_cases e : a = i
    · subst e
      rw [fof_modify_at hX.out, fof_at hX.out]
      match b, hb with
      | 0, _ => simp [rcell]
      | 1, _ => simp [rcell, hYY.out]
      | 2, _ => simp [rcell]
    · rw [fof_modify _ e]
      simp [e]))
  have hC6 : Bx (Chg (In2 q g) w (W2.setCell ⟨g, i * 3 + 2, none⟩ (.bool true))) := ⟨hC5.out.trans (q2.out.mono (T := (· = g)) (fun _ _ e => e)) (fun k _ e => .inr e)⟩
  clear hD5 hC5 r2 r3 q1 q2 hf p1 f1
  go_wp2_with fail
  go_ret
  exact ⟨rfl, hD6.out, hC6.out⟩
end Go.Proofs.Ytaajkhdmeghnbaa
