/- The program's Rot. -/
import Derived.Test.YtaajkhdmeghnbaaImg
import Derived.Test.YtaajkhdmeghnbaaRegT
namespace Go.Proofs.Ytaajkhdmeghnbaa
open Go.RowKit Go.Sort

theorem rot_bad (w : World) (p g mb cap m : Nat) (d : Dk) (h : DkIs w p g mb cap m d) (i bit : Int) (hb : (d.is i && decide (0 ≤ bit) && decide (bit < 1024)) = false) :
    Calls Try.prog 26 #[.pointer (some ⟨p, 0, none⟩), .int .i64 i, .int .i64 bit] w (WritePost p g mb cap m w d 1) := by
  have H := Bx.mk h
  have hIs := Bx.mk (is_any w p g mb cap m d h i)
  clear h
  by_cases hi : d.is i = true
  · rw [hi] at hIs hb
    by_cases h1 : 0 ≤ bit
    · have t1 : decide (bit < 0) = false := by simp; omega
      have h2 : 1024 ≤ bit := by simpa [h1] using hb
      have t2 : decide (1024 ≤ bit) = true := by simpa using h2
      clear hb
      go_enter Try.func26, Try.ntmps26
      go_wp2_with (go_at_call 43; refine hIs.out.mono ?_; rintro _ _ ⟨rfl, rfl⟩)
      go_ret
      exact ⟨rfl, H.out, Chg.refl _ _⟩
    · have t1 : decide (bit < 0) = true := by simp; omega
      clear hb
      go_enter Try.func26, Try.ntmps26
      go_wp2_with (go_at_call 43; refine hIs.out.mono ?_; rintro _ _ ⟨rfl, rfl⟩)
      go_ret
      exact ⟨rfl, H.out, Chg.refl _ _⟩
  · replace hi : d.is i = false := by simpa using hi
    rw [hi] at hIs
    clear hb
    go_enter Try.func26, Try.ntmps26
    go_wp2_with (go_at_call 43; refine hIs.out.mono ?_; rintro _ _ ⟨rfl, rfl⟩)
    go_ret
    exact ⟨rfl, H.out, Chg.refl _ _⟩
theorem flip_put {l : List Int} {q : Nat} {y : Int} (h : l[q]? = some y) (s : Nat) : flip l q s = put l q [bits .xor .u8 y (2 ^ s)] := by
  obtain ⟨hq, rfl⟩ := List.getElem?_eq_some_iff.1 h
  unfold flip put
  rw [List.modify_eq_take_cons_drop hq, List.append_assoc]
  rfl
theorem bits_u8 (x y : Int) : 0 ≤ bits .xor .u8 x y ∧ bits .xor .u8 x y ≤ 255 := by
  show 0 ≤ IntKind.u8.wrap _ ∧ IntKind.u8.wrap _ ≤ 255
  rw [IntKind.wrap_u8]
  omega
set_option maxRecDepth 100000 in
theorem rot_ok (w : World) (p g mb cap m : Nat) (d : Dk) (h : DkIs w p g mb cap m d) (i b : Nat) (x : Pg) (hx : d.p[i]? = some x) (hb : b < 1024) :
    Calls Try.prog 26 #[.pointer (some ⟨p, 0, none⟩), .int .i64 (i : Int), .int .i64 (b : Int)] w (WritePost p g mb cap m w { d with p := d.p.modify i fun x => (flip x.1 (b / 8) (b % 8), x.2) } 0) := by
  have hil := (List.getElem?_eq_some_iff.1 hx).1
  have hfew := h.ok.few
  have hi : d.is i = true := by unfold Dk.is; simp; omega
  have H := Bx.mk h
  have hIs := Bx.mk (is_any w p g mb cap m d h i)
  rw [hi] at hIs
  have t1 : decide ((b : Int) < 0) = false := by simp
  have t2 : decide (1024 ≤ (b : Int)) = false := by simp; omega
  have hok := h.ok.pages x (List.mem_of_getElem? hx)
  obtain ⟨y, hy⟩ : ∃ y, x.1[b / 8]? = some y := ⟨_, List.getElem?_eq_getElem (by rw [hok.1]; omega)⟩
  have hcell := Bx.mk (h.pg.at_ i x hx (b / 8) (.int .u8 y) (by rw [List.getElem?_map, hy]; rfl))
  have k0 := Bx.mk (h.kp.cell 0 rfl)
  clear h hi
  generalize hq : b / 8 = q at *
  generalize hs : b % 8 = s at *
  have hq8 : q < 128 := by omega
  have hs8 : s < 8 := by omega
  have e1 : IntKind.i64.wrap ((b : Int) / 8) = (q : Int) := by rw [IntWalk.i64_in _ (by omega)]; omega
  have e2 : (b : Int) % 8 = (s : Int) := by omega
  replace hq := Bx.mk hq
  replace hs := Bx.mk hs
  replace hx := Bx.mk hx
  replace hy := Bx.mk hy
  replace hok := Bx.mk hok
  go_enter Try.func26, Try.ntmps26
  go_upto_region 3 with (go_at_call 43; refine hIs.out.mono ?_; rintro _ _ ⟨rfl, rfl⟩)
  clear t1 t2 hIs
  have c0 : ∀ dk osk, (grow (redrawn w dk) osk).cell? ⟨p, 0, none⟩ = some (.slice (some ⟨g, 0, none⟩) d.p.length cap) := cell_regrown k0.out
  have c1 : ∀ dk osk, (grow (redrawn w dk) osk).cell? ⟨g, i * 128 + q, none⟩ = some (.int .u8 y) := cell_regrown hcell.out
  have b0 : (0 : Int) ≤ (i : Int) := by omega
  have b1 : (i : Int) < (d.p.length : Int) := by omega
  have b2 : (0 : Int) ≤ (q : Int) := by omega
  have b3 : (q : Int) < 128 := by omega
  refine wp_region_headT_below 16 (by kernel_rfl) (by kernel_rfl) ?_
  simp only [List.take_succ_cons, List.take_zero, List.drop_succ_cons, List.drop_zero]
  repeat (first | go_big_quiet_step (fail) | quiet_step (fail))
  refine wpQuiet_nil ?_
  rintro _ ⟨⟨dq, osq⟩, rfl⟩
  have hb5 := below_regrown w dq osq
  have hD5 := Bx.mk (H.out.later hb5)
  replace hcell := Bx.mk (cell_later hb5 hcell.out)
  have hC5 : Bx (Chg (In3 p g mb) w (grow (redrawn w dq) osq)) := ⟨.ofBelow hb5 _⟩
  clear c0 c1 hb5
  generalize grow (redrawn w dq) osq = W at *
  have e3 : (2 : Int) ^ s % 256 = 2 ^ s := by
    have : s = 0 ∨ s = 1 ∨ s = 2 ∨ s = 3 ∨ s = 4 ∨ s = 5 ∨ s = 6 ∨ s = 7 := by omega
    rcases this with rfl | rfl | rfl | rfl | rfl | rfl | rfl | rfl <;> decide
  rw [e3]
  clear e3
  have hfl : Bx (flip x.1 q s = put x.1 q [bits .xor .u8 y (2 ^ s)]) := ⟨flip_put hy.out s⟩
  have hbx : Bx (0 ≤ bits .xor .u8 y (2 ^ s) ∧ bits .xor .u8 y (2 ^ s) ≤ 255) := ⟨bits_u8 _ _⟩
  generalize bits .xor .u8 y (2 ^ s) = z at *
  have cc := hcell.out
  have ff : W.frozen? ⟨g, i * 128 + q, none⟩ = false := (hD5.out.pg.there hil q hq8).2
  have hD6 : Bx (DkIs (W.setCell ⟨g, i * 128 + q, none⟩ (.int .u8 z)) p g mb cap m { d with p := d.p.modify i fun x => (flip x.1 q s, x.2) }) := by
    have hc6 : Chg (· = g) W (W.setCell ⟨g, i * 128 + q, none⟩ (.int .u8 z)) := chg_cell _ _ _ _
    have hl : (d.p.modify i fun x : Pg => (flip x.1 q s, x.2)).length = d.p.length := List.length_modify ..
    have hne := hD5.out.ne
    have h7 := hD5.out.pg.put (i := i) (o := q) (ys := [z]) (fun x hx => (hD5.out.ok.pages x hx).1) (by simp; omega) (fun x => (flip x.1 q s, x.2)) (fun x' hx' => by rw [hx.out] at hx'; injection hx' with hx'; rw [← hx']; exact hfl.out)
    refine ⟨⟨hD5.out.ok.put _ fun y' hy' hok' => ?_, ?_, ?_, ?_, h7, ?_, hne⟩⟩
    · rw [hx.out] at hy'
      injection hy' with hy'
      subst hy'
      refine ⟨?_, ?_, hok'.2.2⟩
      · show (flip x.1 q s).length = 128
        rw [hfl.out]; exact put_len hok'.1 (by simp; omega)
      · show Byt (flip x.1 q s)
        rw [hfl.out]
        exact ((hok'.2.1.take _).append fun v hv => by rw [List.mem_singleton] at hv; rw [hv]; exact hbx.out).append (hok'.2.1.drop _)
    · show 0 < (d.p.modify i _).length
      rw [hl]; exact hD5.out.pos
    · show (d.p.modify i _).length ≤ cap ∧ _
      rw [hl]; exact hD5.out.hcap
    · show Bk _ p #[.slice _ (d.p.modify i _).length cap, _, _, _] _
      rw [hl]; exact hD5.out.kp.chg hc6 hne.1
    · obtain ⟨D, h1, h2⟩ := hD5.out.km.chg hc6 (fun e => hne.2.1 e.symm)
      refine ⟨D, h1, fun j hj => ?_⟩
      have : pendI (d.p.modify i fun x : Pg => (flip x.1 q s, x.2)) j = pendI d.p j := by
        unfold pendI
        rw [List.getElem?_modify]
        cases d.p[j.toNat]? with
        | none => rfl
        | some y => by_cases e : i = j.toNat <;> simp [e]
      rw [this]; exact h2 j hj
  have hC6 : Bx (Chg (In3 p g mb) w (W.setCell ⟨g, i * 128 + q, none⟩ (.int .u8 z))) := ⟨hC5.out.setCell (.inl (.inr (.inl rfl))) _⟩
  clear hD5 hC5 hcell
  go_wp2_with fail
  go_ret
  exact ⟨rfl, hD6.out, hC6.out⟩
end Go.Proofs.Ytaajkhdmeghnbaa
