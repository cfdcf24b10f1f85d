/- The reference's settle, Flush. -/
import Derived.Test.YtaajkhdmeghnbaaRwr
namespace Go.Proofs.Ytaajkhdmeghnbaa
open Go.RowKit Go.Sort

theorem modify_same {p : List Pg} {i : Nat} {x : Pg} (h : p[i]? = some x) (f : Pg → Pg) (hf : f x = x) : p.modify i f = p := by
  apply List.ext_getElem?
  intro j
  rw [List.getElem?_modify]
  by_cases e : i = j
  · subst e
    rw [h]; simp [hf]
  · simp [e]
def SettlePost (q g cap : Nat) (w : World) (d' : Dk) (e : Ending) (w' : World) : Prop := e = .returned (.tuple #[]) ∧ RkIs w' q g cap d' ∧ Chg (· = g) w w'
set_option maxRecDepth 100000 in
theorem rsettle_any (w : World) (q g cap : Nat) (d : Dk) (h : RkIs w q g cap d) (i : Nat) (x : Pg) (hx : d.p[i]? = some x) (pv : Int) (c : Nat) (hc : (c : Int) = min (max pv 0) 128) :
    Calls Try.prog 53 #[.pointer (some ⟨q, 0, none⟩), .int .i64 (i : Int), .int .i64 pv] w (SettlePost q g cap w { d with p := d.p.modify i (Pg.settle c) }) := by
  have hi := (List.getElem?_eq_some_iff.1 hx).1
  have hfew := h.ok.few
  have hP := h.ok.pages x (List.mem_of_getElem? hx)
  have H := Bx.mk h
  have c0 := h.kq.cell 0 rfl
  have p2 := h.pg.at_ i 2 hi (by omega)
  rw [fof_at hx] at p2
  have b0 : (0 : Int) ≤ (i : Int) := by omega
  have b1 : (i : Int) < (d.p.length : Int) := by omega
  obtain ⟨o, nw⟩ := x
  cases nw with
  | none =>
    simp only [rcell, Option.isSome_none] at p2
    have hm : d.p.modify i (Pg.settle c) = d.p := modify_same hx _ rfl
    have hD : Bx (RkIs w q g cap { d with p := d.p.modify i (Pg.settle c) }) := ⟨by rw [hm]; exact h⟩
    clear h hm hx hc
    go_enter Try.func53, Try.ntmps53
    go_wp2
    go_end0
    exact ⟨rfl, hD.out, Chg.refl _ _⟩
  | some n =>
    simp only [rcell, Option.isSome_some] at p2
    have hX := Bx.mk hx
    have hpo : PgOk (Pg.settle c (o, some n)) := hP.settle c
    have h0 := h.pg.at_ i 0 hi (by omega)
    have h1 := h.pg.at_ i 1 hi (by omega)
    rw [fof_at hx] at h0 h1
    simp only [rcell, Nat.add_zero, Option.getD_some] at h0 h1
    have k0 := Bx.mk h0
    have k1 := Bx.mk h1
    have kc := Bx.mk c0
    obtain ⟨ln, hbn⟩ := hP.2.2 n rfl
    have lo : o.length = 128 := hP.1
    clear h hx h0 h1
    have hc128 : c ≤ 128 := by omega
    have m1 : (if pv < 0 then 0 else pv) = max pv 0 := by omega
    have m2 : (if 128 < max pv 0 then 128 else max pv 0) = (c : Int) := by omega
    have m3 : (if max pv 0 < 128 then max pv 0 else 128) = (c : Int) := by omega
    have hcE := Bx.mk hc
    clear hc
    go_enter Try.func53, Try.ntmps53
    go_upto_region 2 with fail
    rw [← hcE.out]
    clear m1 m2 m3 p2 c0
    have c0 : ∀ dk osk, (grow (redrawn w dk) osk).cell? ⟨q, 0, none⟩ = some (.slice (some ⟨g, 0, none⟩) d.p.length cap) := cell_regrown kc.out
    have c1 : ∀ dk osk, (grow (redrawn w dk) osk).cell? ⟨g, i * 3, none⟩ = some (.string (strOfNums o)) := cell_regrown k0.out
    have c2 : ∀ dk osk, (grow (redrawn w dk) osk).cell? ⟨g, i * 3 + 1, none⟩ = some (.string (strOfNums n)) := cell_regrown k1.out
    have e1 := slice_to (P := Try.prog) 9 Try.underlying9 n c (by omega)
    have e2 := slice_from (P := Try.prog) 9 Try.underlying9 o c (by omega)
    have z1 : (strOfNums (n.take c)).size = c := by rw [strOfNums_size, List.length_take]; omega
    have z2 : (strOfNums (o.drop c)).size = 128 - c := by rw [strOfNums_size, List.length_drop]; omega
    have z3 : c + (128 - c) ≤ 1000 := by omega
    have hY : Bx (strOfNums (n.take c) ++ strOfNums (o.drop c) = strOfNums (n.take c ++ o.drop c)) := ⟨by rw [str_append]⟩
    refine wp_region_headT_below 28 (by kernel_rfl) (by kernel_rfl) ?_
    simp only [List.take_succ_cons, List.take_zero, List.drop_succ_cons, List.drop_zero]
    repeat (first | go_big_quiet_step (fail) | quiet_step (fail))
    rw [hY.out]
    clear e1 e2 z1 z2 z3 c0 c1 c2
    refine wpQuiet_nil ?_
    rintro _ ⟨⟨dq, osq⟩, rfl⟩
    have hb5 := below_regrown w dq osq
    have hD5 := Bx.mk (H.out.later hb5)
    have hC5 : Bx (Chg (· = g) w (grow (redrawn w dq) osq)) := ⟨.ofBelow hb5 _⟩
    clear hb5 kc k0 k1 H
    generalize grow (redrawn w dq) osq = W at *
    have q0 := hD5.out.pg.at_ i 0 hi (by omega)
    have q1 := hD5.out.pg.at_ i 1 hi (by omega)
    have q2 := hD5.out.pg.at_ i 2 hi (by omega)
    have f0 := hD5.out.pg.free i 0 hi (by omega)
    have f1 := hD5.out.pg.free i 1 hi (by omega)
    have f2 := hD5.out.pg.free i 2 hi (by omega)
    simp only [Nat.add_zero] at q0 f0
    go_wp2_with fail
    go_end0
    have s0 := hD5.out.pg.set hi (j := 0) (by omega) (.string (strOfNums (n.take c ++ o.drop c)))
    rw [Nat.add_zero] at s0
    have s2 := (s0.set hi (j := 1) (by omega) (.string ⟨#[]⟩)).set hi (j := 2) (by omega) (.bool false)
    have hq : Chg (· = g) W (((W.setCell ⟨g, i * 3, none⟩ (.string (strOfNums (n.take c ++ o.drop c)))).setCell ⟨g, i * 3 + 1, none⟩ (.string ⟨#[]⟩)).setCell ⟨g, i * 3 + 2, none⟩ (.bool false)) :=
      ((chg_cell W g (i * 3) _).setCell (.inl rfl) _).setCell (.inl rfl) _
    refine ⟨rfl, hD5.out.page (Pg.settle c) (fun y _ hy => hy.settle c) hq (s2.congr fun a b ha hb => ?_), hC5.out.trans hq (fun _ _ e => e)⟩
    unfold upd
    by_cases e : a = i
    · subst e
      rw [fof_modify_at hX.out, fof_at hX.out]
      match b, hb with
      | 0, _ => simp [rcell, Pg.settle]
      | 1, _ => simp [rcell, Pg.settle]; rfl
      | 2, _ => simp [rcell, Pg.settle]
    · rw [fof_modify _ e]
      simp [e]
theorem rflush_off (w : World) (q g cap : Nat) (d : Dk) (h : RkIs w q g cap d) (ho : d.off = true) :
    Calls Try.prog 35 #[.pointer (some ⟨q, 0, none⟩)] w (RWritePost q g cap w d 20) := by
  have H := Bx.mk h
  have c2 := h.kq.cell 1 rfl
  clear h
  go_enter Try.func35, Try.ntmps35
  go_wp2
  go_ret
  exact ⟨rfl, H.out, Chg.refl _ _⟩
theorem rflush_down (w : World) (q g cap : Nat) (d : Dk) (h : RkIs w q g cap d) (ho : d.off = false) (hst : d.step.2 = false) :
    Calls Try.prog 35 #[.pointer (some ⟨q, 0, none⟩)] w (RWritePost q g cap w d.step.1 20) := by
  have c2 := h.kq.cell 1 rfl
  have hSt := Bx.mk (rstep_any w q g cap d h)
  rw [hst, show errS false = 20 from rfl] at hSt
  clear h hst
  go_enter Try.func35, Try.ntmps35
  go_wp2_with (go_at_call 52; refine hSt.out.mono ?_; rintro _ w1 ⟨rfl, hd, hc⟩; replace hd := Bx.mk hd; replace hc := Bx.mk hc)
  go_ret
  exact ⟨rfl, hd.out, RkIs.chgQ hc.out⟩
/-- the first k pages flushed -/
def flk (p : List Pg) (k : Nat) : List Pg := p.mapIdx fun i x => if i < k then (x.now, none) else x
theorem flk_len (p : List Pg) (k : Nat) : (flk p k).length = p.length := by unfold flk; rw [List.length_mapIdx]
theorem flk_at {p : List Pg} {i : Nat} {x : Pg} (h : p[i]? = some x) (k : Nat) : (flk p k)[i]? = some (if i < k then (x.now, none) else x) := by
  unfold flk
  rw [List.getElem?_mapIdx, h]; rfl
theorem flk_zero (p : List Pg) : flk p 0 = p := by
  apply List.ext_getElem?
  intro i
  cases h : p[i]? with
  | none => rw [List.getElem?_eq_none_iff.2 (by rw [flk_len]; exact List.getElem?_eq_none_iff.1 h)]
  | some x => rw [flk_at h]; rfl
theorem flk_step {p : List Pg} {k : Nat} {x : Pg} (hx : p[k]? = some x) (hok : PgOk x) : flk p (k + 1) = (flk p k).modify k (Pg.settle 128) := by
  apply List.ext_getElem?
  intro j
  rw [List.getElem?_modify]
  cases h : p[j]? with
  | none =>
    have := List.getElem?_eq_none_iff.1 h
    rw [List.getElem?_eq_none_iff.2 (by rw [flk_len]; exact this), List.getElem?_eq_none_iff.2 (by rw [flk_len]; exact this)]; rfl
  | some y =>
    rw [flk_at h, flk_at h]
    by_cases e : k = j
    · subst e
      rw [hx] at h
      injection h with h
      subst h
      simp [settle_all hok]
    · by_cases h1 : j < k
      · simp [e, h1, show j < k + 1 by omega]
      · simp [e, h1, show ¬ j < k + 1 by omega]
theorem flk_end (p : List Pg) : flk p p.length = p.map fun x => (x.now, none) := by
  apply List.ext_getElem?
  intro i
  rw [List.getElem?_map]
  cases h : p[i]? with
  | none => rw [List.getElem?_eq_none_iff.2 (by rw [flk_len]; exact List.getElem?_eq_none_iff.1 h)]; rfl
  | some x => rw [flk_at h, if_pos (List.getElem?_eq_some_iff.1 h).1]; rfl
structure RfI (w : World) (q g cap : Nat) (d : Dk) (k : Nat) (wr : World) : Prop where
  st : RkIs wr q g cap { d with p := flk d.p k }
  ch : Chg (In2 q g) w wr
set_option maxRecDepth 100000 in
theorem rflush_ok (w : World) (q g cap : Nat) (d : Dk) (h : RkIs w q g cap d) (ho : d.off = false) (hst : d.step.2 = true) :
    Calls Try.prog 35 #[.pointer (some ⟨q, 0, none⟩)] w (RWritePost q g cap w { d.step.1 with p := d.step.1.p.map fun x => (x.now, none) } 0) := by
  have c2 := h.kq.cell 1 rfl
  have hSt := Bx.mk (rstep_any w q g cap d h)
  rw [hst, show errS true = 0 from rfl] at hSt
  have hlt := Bx.mk h.lt
  clear h hst
  generalize d.step.1 = d1 at *
  go_enter Try.func35, Try.ntmps35
  go_upto_region 6 with (go_at_call 52; refine hSt.out.mono ?_; rintro _ w1 ⟨rfl, hd, hc⟩; replace hd := Bx.mk hd; replace hc := Bx.mk hc)
  have hfew := hd.out.ok.few
  have hok := Bx.mk hd.out.ok
  have HI : Bx (RfI w q g cap d1 0 w1) := ⟨⟨by rw [flk_zero]; exact hd.out, RkIs.chgQ hc.out⟩⟩
  clear hSt hd hc c2
  generalize hn : d1.p.length = n at *
  replace hn := Bx.mk hn
  go_wp2_with fail
  go_loopw [4] (fun v4 wr => ∃ k : Nat, k ≤ n ∧ v4 = .int .i64 k ∧ Bx (RfI w q g cap d1 k wr)) (fun v4 _ => n - (intOf v4).toNat)
  case atStart => exact ⟨0, by omega, rfl, HI⟩
  case round =>
    clear HI
    obtain ⟨k, hk, rfl, HI⟩ := hrel
    have c0 := HI.out.st.kq.cell 0 rfl
    have hl : Bx ((flk d1.p k).length = n) := ⟨by rw [flk_len, hn.out]⟩
    simp only [hl.out] at c0
    by_cases hlt2 : k < n
    · have t0 : decide ((k : Int) < (n : Int)) = true := by simp; omega
      obtain ⟨x, hx⟩ : ∃ x, d1.p[k]? = some x := ⟨_, List.getElem?_eq_getElem (by have := hn.out; omega)⟩
      have hxk := flk_at hx k
      rw [if_neg (Nat.lt_irrefl k)] at hxk
      have hS := Bx.mk (rsettle_any wr q g cap _ HI.out.st k x hxk 128 128 (by decide))
      have hst := Bx.mk (flk_step hx (hok.out.pages x (List.mem_of_getElem? hx)))
      clear hx hxk
      go_wp2_with (go_at_call 53; refine hS.out.mono ?_; rintro _ w2 ⟨rfl, hd2, hc2⟩; replace hd2 := Bx.mk hd2; replace hc2 := Bx.mk hc2)
      have HI2 : Bx (RfI w q g cap d1 (k + 1) w2) := ⟨⟨by rw [hst.out]; exact hd2.out, HI.out.ch.trans (hc2.out.mono (T := (· = g)) (fun _ _ e => e)) (fun _ _ e => .inr e)⟩⟩
      clear hd2 hc2 HI hS
      go_roundw
      case rel => exact ⟨k + 1, by omega, by go_num, HI2⟩
      case measure => simp [intOf]; omega
    · have t0 : decide ((k : Int) < (n : Int)) = false := by simp; omega
      obtain rfl : k = n := by omega
      have hD : Bx (RkIs wr q g cap { d1 with p := d1.p.map fun x => (x.now, none) }) := ⟨by have := HI.out.st; rwa [← hn.out, flk_end] at this⟩
      have hC := Bx.mk HI.out.ch
      clear HI
      go_wp2_with fail
      go_ret
      exact ⟨rfl, hD.out, hC.out⟩
end Go.Proofs.Ytaajkhdmeghnbaa
