/- The reference's Mount, Rot. -/
import Derived.Test.YtaajkhdmeghnbaaRpe
namespace Go.Proofs.Ytaajkhdmeghnbaa
open Go.RowKit Go.Sort

structure RmI (w9 : World) (q g cap : Nat) (d : Dk) (picks : List Int) (k : Nat) (wr : World) : Prop where
  st : RkIs wr q g cap { d with p := settled d.p picks k }
  ch : Chg (· = g) w9 wr
def RMountPost (q g cap : Nat) (w : World) (d' : Dk) (e : Ending) (w' : World) : Prop := e = .returned (.tuple #[]) ∧ RkIs w' q g cap d' ∧ Chg (In2 q g) w w'
set_option maxRecDepth 100000 in
theorem rmount_any (w : World) (q g cap : Nat) (d : Dk) (h : RkIs w q g cap d) (a : Option Addr) (pc : Nat) (picks : List Int) (_hpl : picks.length ≤ 1000) (hs : Sl w .i64 a picks) (hap : ∀ b o, a = some ⟨b, o, none⟩ → 0 < picks.length → ¬ In2 q g b) :
    Calls Try.prog 37 #[.pointer (some ⟨q, 0, none⟩), .slice a picks.length pc] w (RMountPost q g cap w (d.mount picks)) := by
  have hfew := h.ok.few
  have hPe := Bx.mk (rpend_any w q g cap d h)
  have H := Bx.mk h
  have hs := Bx.mk hs
  have hap := Bx.mk hap
  clear h
  go_enter Try.func37, Try.ntmps37
  go_wp2_with fail
  refine hPe.out.mono ?_
  rintro _ w9 ⟨v, rfl, ho9, hb9⟩
  obtain ⟨a9, c9, rfl, hs9⟩ := ho9.form
  have H9 := Bx.mk (H.out.later hb9)
  have hl9 : (ints (pendOf d.p)).length = (pendOf d.p).length := by unfold ints; rw [List.length_map]
  have hcnt := pend_len_le d.p
  have hap9 : Bx (∀ b o, a9 = some ⟨b, o, none⟩ → ¬ b = g) := ⟨fun b o e hbg => by
    rcases ho9.2 with ⟨e1, _⟩ | ⟨g9, cap9, cur, e1, hB, _⟩
    · injection e1 with e1 _ _; rw [e1] at e; cases e
    · injection e1 with e1 _ _
      rw [e1] at e
      injection e with e
      injection e with e _ _
      have := H.out.lt.2
      omega⟩
  rw [hl9]
  have hs9 := Bx.mk hs9
  have hs9p := Bx.mk (hs.out.below hb9)
  have hb9 := Bx.mk hb9
  have HI : Bx (RmI w9 q g cap d picks 0 w9) := ⟨⟨by rw [settled_zero]; exact H9.out, Chg.refl _ _⟩⟩
  clear ho9 hPe
  generalize hN : (pendOf d.p).length = n at *
  replace hN := Bx.mk hN
  go_wp2_with fail
  go_loopw [5] (fun v5 wr => ∃ k : Nat, k ≤ n ∧ v5 = .int .i64 k ∧ Bx (RmI w9 q g cap d picks k wr)) (fun v5 _ => n - (intOf v5).toNat)
  case atStart => exact ⟨0, by omega, rfl, HI⟩
  case round =>
    clear HI
    obtain ⟨k, hk, rfl, HI⟩ := hrel
    by_cases hlt : k < n
    · have t0 : decide ((k : Int) < (n : Int)) = true := by simp; omega
      obtain ⟨i, hi⟩ : ∃ i, (pendOf d.p)[k]? = some i := ⟨_, List.getElem?_eq_getElem (by have := hN.out; omega)⟩
      have hsu := Bx.mk (settled_succ hi picks)
      obtain ⟨hip, hrk⟩ := rank_at hi
      have hil := isPend_lt hip
      obtain ⟨x, hx⟩ : ∃ x, d.p[i]? = some x := ⟨_, List.getElem?_eq_getElem hil⟩
      have hxs := settled_at hx picks k
      rw [hrk, if_neg (Nat.lt_irrefl k)] at hxs
      obtain ⟨b9, o9, ha9, hc9⟩ := hs9.out k (i : Int) (by unfold ints; rw [List.getElem?_map, hi]; rfl)
      have hb9g := hap9.out b9 o9 ha9
      subst ha9
      have hc9r := (cell_of_heap (HI.out.ch.block b9 (block_lt_of_cell hc9) hb9g) _).trans hc9
      clear hc9
      have hsr := Bx.mk (hs9p.out.chg HI.out.ch (fun b o e hl hb => hap.out b o e hl (.inr hb)))
      have hS := Bx.mk fun (pv : Int) (hpv : ((pick picks k : Nat) : Int) = min (max pv 0) 128) => rsettle_any wr q g cap _ HI.out.st i x hxs pv (pick picks k) hpv
      have b0 : (0 : Int) ≤ (k : Int) := by omega
      have b1 : (k : Int) < (n : Int) := by omega
      have kI : (k : Int) ≤ 40 := by omega
      clear hip hrk hx hxs
      replace hi := Bx.mk hi
      go_upto_if 18 with fail
      go_cut [6] from 15 to 22 (fun v6 wx => ∃ pv : Int, ((pick picks k : Nat) : Int) = min (max pv 0) 128 ∧ v6 = .int .i64 pv ∧ wx = wr)
      case first =>
        cases hpk2 : picks[k]? with
        | none =>
          have : picks.length ≤ k := List.getElem?_eq_none_iff.1 hpk2
          have t1 : decide ((k : Int) < (picks.length : Int)) = false := by simp; omega
          have hc128 : ((pick picks k : Nat) : Int) = min (max 128 0) 128 := by unfold pick; rw [hpk2]; rfl
          replace hc128 := Bx.mk hc128
          clear hpk2
          go_wp2_with fail
          go_meet
          exact ⟨128, hc128.out, rfl, rfl⟩
        | some pk =>
          have hkl := (List.getElem?_eq_some_iff.1 hpk2).1
          have t1 : decide ((k : Int) < (picks.length : Int)) = true := by simp; omega
          have hcv : ((pick picks k : Nat) : Int) = min (max pk 0) 128 := by unfold pick; rw [hpk2]; simp only []; omega
          obtain ⟨bp, op, hap2, hcp⟩ := hsr.out k pk hpk2
          subst hap2
          have b4 : (k : Int) < (picks.length : Int) := by omega
          replace hcv := Bx.mk hcv
          clear hpk2
          go_wp2_with fail
          go_meet
          exact ⟨pk, hcv.out, rfl, rfl⟩
      case rest =>
      obtain ⟨pv, hpv, rfl, rfl⟩ := hcut
      replace hpv := Bx.mk hpv
      clear hsr
      go_wp2_with (go_at_call 53; refine (hS.out pv hpv.out).mono ?_; rintro _ w2 ⟨rfl, hd2, hc2⟩; replace hd2 := Bx.mk hd2; replace hc2 := Bx.mk hc2)
      have HI2 : Bx (RmI w9 q g cap d picks (k + 1) w2) := ⟨⟨by rw [hsu.out]; exact hd2.out, HI.out.ch.trans hc2.out (fun _ _ e => e)⟩⟩
      clear hd2 hc2 HI hS
      go_roundw
      case rel => exact ⟨k + 1, by omega, by go_num, HI2⟩
      case measure => simp [intOf]; omega
    · have t0 : decide ((k : Int) < (n : Int)) = false := by simp; omega
      obtain rfl : k = n := by omega
      have k0 := HI.out.st.kq
      have c1 := k0.cell 1 rfl
      have f1 := k0.frozen 1
      have k1 := k0.set 1 (.bool false)
      have c2 := k1.cell 2 (v := .int .i64 d.trip) rfl
      have f2 := k1.frozen 2
      have hC6 : Bx (Chg (In2 q g) w ((wr.setCell ⟨q, 1, none⟩ (.bool false)).setCell ⟨q, 2, none⟩ (.int .i64 (-1)))) :=
        ⟨(((Chg.ofBelow hb9.out (In2 q g)).trans (HI.out.ch.mono (T := (· = g)) (fun _ _ e => e)) (fun j _ e => .inr e)).setCell (.inl (.inl rfl)) _).setCell (.inl (.inl rfl)) _⟩
      have hD6 : Bx (RkIs ((wr.setCell ⟨q, 1, none⟩ (.bool false)).setCell ⟨q, 2, none⟩ (.int .i64 (-1))) q g cap (d.mount picks)) := by
        have hc6 : Chg (· = q) wr ((wr.setCell ⟨q, 1, none⟩ (.bool false)).setCell ⟨q, 2, none⟩ (.int .i64 (-1))) := (chg_cell wr q 1 _).setCell (.inl rfl) _
        have hp : (d.mount picks).p = settled d.p picks k := by rw [← hN.out]; rfl
        exact ⟨HI.out.st.put (d.mount picks) _ hp ⟨by show (-1 : Int) ≤ -1; omega, by show (-1 : Int) ≤ _; omega⟩ (k1.set 2 (.int .i64 (-1))) hc6⟩
      clear HI k0 k1
      go_wp2_with fail
      go_end0
      exact ⟨rfl, hD6.out, hC6.out⟩
theorem rrot_bad (w : World) (q g cap : Nat) (d : Dk) (h : RkIs w q g cap d) (i bit : Int) (hb : (d.is i && decide (0 ≤ bit) && decide (bit < 1024)) = false) :
    Calls Try.prog 38 #[.pointer (some ⟨q, 0, none⟩), .int .i64 i, .int .i64 bit] w (RWritePost q g cap w d 1) := by
  have H := Bx.mk h
  have hIs := Bx.mk (ris_any w q g cap d h i)
  clear h
  by_cases hi : d.is i = true
  · rw [hi] at hIs hb
    by_cases h1 : 0 ≤ bit
    · have t1 : decide (bit < 0) = false := by simp; omega
      have h2 : 1024 ≤ bit := by simpa [h1] using hb
      have t2 : decide (1024 ≤ bit) = true := by simpa using h2
      clear hb
      go_enter Try.func38, Try.ntmps38
      go_wp2_with (go_at_call 50; refine hIs.out.mono ?_; rintro _ _ ⟨rfl, rfl⟩)
      go_ret
      exact ⟨rfl, H.out, Chg.refl _ _⟩
    · have t1 : decide (bit < 0) = true := by simp; omega
      clear hb
      go_enter Try.func38, Try.ntmps38
      go_wp2_with (go_at_call 50; refine hIs.out.mono ?_; rintro _ _ ⟨rfl, rfl⟩)
      go_ret
      exact ⟨rfl, H.out, Chg.refl _ _⟩
  · replace hi : d.is i = false := by simpa using hi
    rw [hi] at hIs
    clear hb
    go_enter Try.func38, Try.ntmps38
    go_wp2_with (go_at_call 50; refine hIs.out.mono ?_; rintro _ _ ⟨rfl, rfl⟩)
    go_ret
    exact ⟨rfl, H.out, Chg.refl _ _⟩
end Go.Proofs.Ytaajkhdmeghnbaa
