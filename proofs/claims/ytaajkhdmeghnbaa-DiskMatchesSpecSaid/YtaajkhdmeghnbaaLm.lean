/- The law's walk: DiskMatchesSpec. -/
import Derived.Test.YtaajkhdmeghnbaaSnw
import Derived.Test.YtaajkhdmeghnbaaPla2
namespace Go.Proofs.Ytaajkhdmeghnbaa
open Go.RowKit Go.Sort

set_option maxRecDepth 100000 in
theorem matches_any (w : World) (n : Int) (B : Nat) (a : Option Addr) (cap : Nat) (xs : List Opn) (hl : xs.length ≤ 9223372036854775807) (h : Ops w B a xs) :
    Calls Try.prog 3 #[.int .i64 n, .slice a xs.length cap] w (TruePost w) := by
  have hS := Bx.mk fun (W : World) => sanity_true W
  have hF := Bx.mk (few_any w B a cap xs hl h)
  have H := Bx.mk h
  have HB := Bx.mk h.lt
  have hOk := Bx.mk fun (hf : fewB xs = true) (x : Opn) (hx : x ∈ xs) => opn_ok h hf hx
  have hLen := Bx.mk fun (hf : fewB xs = true) => few_len hf
  clear h
  generalize hfe : fewB xs = fe at *
  clear hfe
  generalize hxn : xs.length = xn at *
  replace hxn := Bx.mk hxn
  by_cases hA : 40 < n ∧ n ≤ 4096
  · have t0 : decide (40 < n) = true := by simp; omega
    have t1 : decide (n ≤ 4096) = true := by simp; omega
    go_enter Try.func3, Try.ntmps3
    go_wp2_with (go_at_call 10; refine (hS.out _).mono ?_; rintro _ w1 ⟨rfl, hb1⟩)
    go_ret
    exact ⟨rfl, hb1⟩
  · have t0 : (decide (40 < n) = true ∧ decide (n ≤ 4096) = false) ∨ decide (40 < n) = false := by simp; omega
    cases fe with
    | false =>
      rcases t0 with ⟨t0, t1⟩ | t0
      all_goals
        go_enter Try.func3, Try.ntmps3
        go_wp2_with (first
          | (go_at_call 10; refine (hS.out _).mono ?_; rintro _ w2 ⟨rfl, hb2⟩)
          | (go_at_call 9; refine hF.out.mono ?_; rintro _ w1 ⟨rfl, hb1⟩))
        go_ret
        exact ⟨rfl, below_on hb1 hb2⟩
    | true =>
      have hlen := hLen.out rfl
      replace hOk := Bx.mk (hOk.out rfl)
      clear hLen
      by_cases hn : n < 1 ∨ 4096 < n
      · have hN := Bx.mk fun (W : World) => new_bad W n hn
        have hM := Bx.mk fun (W : World) => rnew_bad W n hn
        rcases t0 with ⟨t0, t1⟩ | t0
        all_goals
          go_enter Try.func3, Try.ntmps3
          go_wp2_with (first
            | (go_at_call 9; refine hF.out.mono ?_; rintro _ w1 ⟨rfl, hb1⟩)
            | (go_at_call 11; refine (hN.out _).mono ?_; rintro _ _ ⟨rfl, rfl⟩)
            | (go_at_call 12; refine (hM.out _).mono ?_; rintro _ _ ⟨rfl, rfl⟩)
            | (go_at_call 10; refine (hS.out _).mono ?_; rintro _ w2 ⟨rfl, hb2⟩))
          go_ret
          exact ⟨rfl, below_on hb1 hb2⟩
      · obtain ⟨pn, rfl⟩ := Int.eq_ofNat_of_zero_le (show 0 ≤ n by omega)
        have t0 : decide (40 < (pn : Int)) = false := by simp; omega
        have h1 : 1 ≤ pn := by omega
        have h2 : pn ≤ 40 := by omega
        have hN := Bx.mk fun (W : World) => new_ok W pn h1 h2
        have hM := Bx.mk fun (W : World) => rnew_ok W pn h1 h2
        clear hA hn t0
        have t0 : decide (40 < (pn : Int)) = false := by simp; omega
        go_enter Try.func3, Try.ntmps3
        go_wp2_with (first
          | (go_at_call 9; refine hF.out.mono ?_; rintro _ w0 ⟨rfl, hb0⟩; replace hb0 := Bx.mk hb0)
          | (go_at_call 11; refine (hN.out _).mono ?_; rintro _ w1 ⟨p, g, mb, rfl, hd, hp, hg, hmb, hb1⟩; replace hd := Bx.mk hd; replace hp := Bx.mk hp; replace hg := Bx.mk hg; replace hmb := Bx.mk hmb; replace hb1 := Bx.mk hb1)
          | (go_at_call 12; refine (hM.out _).mono ?_; rintro _ w2 ⟨q, gq, cq, rfl, hr, hq, hgq, hb2⟩; replace hr := Bx.mk hr; replace hq := Bx.mk hq; replace hgq := Bx.mk hgq; replace hb2 := Bx.mk hb2))
        have HI : Bx (Both w0.heap.size p g mb pn 0 q gq cq (playN (mkDk pn) (xs.take 0)) (playN (mkDk pn) (xs.take 0)) w2) := ⟨by rw [List.take_zero]; exact both_new hd.out hp.out hg.out hmb.out hb1.out hr.out hq.out hgq.out hb2.out⟩
        have HL : Bx (Below w0.heap.size w0 w2) := ⟨below_on hb1.out hb2.out⟩
        replace H := Bx.mk (H.out.below (hb0.out.mono HB.out))
        replace HB := Bx.mk (Nat.le_trans HB.out hb0.out.size)
        clear hd hp hg hmb hb1 hr hq hgq hb2 hN hM hF
        go_loopw [56] (fun v56 wr => ∃ k : Nat, k ≤ xn ∧ v56 = .int .i64 k ∧ Bx (Both w0.heap.size p g mb pn k q gq cq (playN (mkDk pn) (xs.take k)) (playN (mkDk pn) (xs.take k)) wr) ∧ Bx (Below w0.heap.size w0 wr)) (fun v56 _ => xn - (intOf v56).toNat)
        case atStart => exact ⟨0, by omega, rfl, HI, HL⟩
        case round =>
          clear HI HL
          obtain ⟨k, hk, rfl, HI, HL⟩ := hrel
          by_cases hlt : k < xn
          · have t0 : decide ((k : Int) < (xn : Int)) = true := by simp; omega
            obtain ⟨x, hx⟩ : ∃ x, xs[k]? = some x := ⟨_, List.getElem?_eq_getElem (by have := hxn.out; omega)⟩
            have hxm := List.mem_of_getElem? hx
            have H2 := Bx.mk (H.out.below (HL.out.mono HB.out))
            obtain ⟨b, o, rfl, hbB, hop⟩ := H2.out.at_ k x hx
            have hok := Bx.mk (hOk.out x hxm)
            have hpk := Bx.mk (H2.out.pk x hxm)
            have hsn := Bx.mk (playN_snoc (mkDk pn) (xs.take k) x)
            rw [← take_snoc hx] at hsn
            have c0 := hop.c0
            have c1 := hop.c1
            have c2 := hop.c2
            have c3 := hop.c3
            have c4 := hop.c4
            have b0 : (0 : Int) ≤ (k : Int) := by omega
            have b1 : (k : Int) < (xn : Int) := by omega
            clear hx hxm hop
            go_upto_region 12 with fail
            generalize hW : World.alloc wr _ = W
            have HW : Bx (Below wr.heap.size wr W) := by rw [← hW]; exact ⟨(Below.refl _ _).alloc (Nat.le_refl _) _⟩
            have kx : Bk W wr.heap.size #[.int .i64 x.kind, .int .i64 x.i, .int .i64 x.at_, .string (strOfNums x.text), .slice x.a x.picks.length x.c] 34 := by rw [← hW]; exact blk_new _ _ _ rfl
            clear hW c0 c1 c2 c3 c4
            have e0 := kx.cell 0 rfl
            have e1 := kx.cell 1 rfl
            have e2 := kx.cell 2 rfl
            have e3 := kx.cell 3 rfl
            have e4 := kx.cell 4 rfl
            have kx := Bx.mk kx
            have HI1 := Bx.mk (HI.out.later HW.out)
            have HL1 : Bx (Below w0.heap.size w0 W) := ⟨below_on HL.out HW.out⟩
            have hsW := Bx.mk (hpk.out.1.below HW.out)
            have hlo : Bx (∀ b o, x.a = some ⟨b, o, none⟩ → 0 < x.picks.length → b < w0.heap.size) := ⟨fun b o e hl => Nat.lt_of_lt_of_le (hpk.out.2 b o e hl) HB.out⟩
            have hC := do_any W p g mb pn k _ HI1.out.dk (by omega) x hok.out hsW.out (fun b o e hl hk => by have h1 := hlo.out b o e hl; have h2 := HI1.out.lo3 b hk; omega)
            unfold Opn.v at hC
            replace hC := Bx.mk hC
            have hbx : Bx (¬ In3 p g mb wr.heap.size ∧ ¬ In2 q gq wr.heap.size) := ⟨fun e => by have := HI.out.dk.lt; rcases e with e | e | e <;> omega, fun e => by have := HI.out.rk.lt; rcases e with e | e <;> omega⟩
            clear HI HL
            go_upto_region 13 with (go_at_call 13; refine hC.out.mono ?_; rintro _ w3 ⟨rfl, hd3, hc3⟩; replace hd3 := Bx.mk hd3; replace hc3 := Bx.mk hc3)
            have HI3 := Bx.mk (HI1.out.ofD hd3.out hc3.out)
            have HL3 := Bx.mk (HI1.out.belD HL1.out HL1.out.size hc3.out)
            have k3 := kx.out.chg hc3.out hbx.out.1
            clear e0 e1 e2 e3 e4
            have e0 := k3.cell 0 rfl
            have e1 := k3.cell 1 rfl
            have e2 := k3.cell 2 rfl
            have e3 := k3.cell 3 rfl
            have e4 := k3.cell 4 rfl
            have hC2 := rdo_any w3 q gq cq _ HI3.out.rk x hok.out (hsW.out.chg hc3.out (fun b o e hl hk => by have h1 := hlo.out b o e hl; have h2 := HI1.out.lo3 b hk; omega)) (fun b o e hl hk => by have h1 := hlo.out b o e hl; have h2 := HI1.out.lo2 b hk; omega)
            unfold Opn.v at hC2
            replace hC2 := Bx.mk hC2
            clear k3 kx hC hsW HI1 HL1
            go_upto_region 14 with (go_at_call 14; refine hC2.out.mono ?_; rintro _ w4 ⟨rfl, hr4, hc4⟩; replace hr4 := Bx.mk hr4; replace hc4 := Bx.mk hc4)
            have HI4 : Bx (Both w0.heap.size p g mb pn (k + 1) q gq cq (playN (mkDk pn) (xs.take (k + 1))) (playN (mkDk pn) (xs.take (k + 1))) w4) := ⟨by rw [hsn.out]; exact HI3.out.ofR hr4.out hc4.out⟩
            have HL4 := Bx.mk (HI3.out.belR HL3.out HL3.out.size hc4.out)
            clear HI3 HL3 hC2 hr4 hc4 hd3 hc3 e0 e1 e2 e3 e4
            have hT := Bx.mk (same_any w4 p g mb pn (k + 1) q gq cq _ HI4.out.dk HI4.out.rk)
            generalize (Dk.doOp _ x).2.2 = E
            generalize strOfNums (Dk.doOp _ x).2.1 = X
            have t2 : (X.toList != X.toList) = false := by simp
            have t3 : (X.toList == X.toList) = true := by simp
            have t4 : (E != E) = false := by simp
            go_wp2_with (go_at_call 15; refine hT.out.mono ?_; rintro _ w5 ⟨rfl, hb5⟩; replace hb5 := Bx.mk hb5)
            have HI5 := Bx.mk (HI4.out.later hb5.out)
            have HL5 : Bx (Below w0.heap.size w0 w5) := ⟨below_on HL4.out hb5.out⟩
            clear HI4 HL4 hT
            go_roundw
            case rel => exact ⟨k + 1, by omega, by go_num, HI5, HL5⟩
            case measure => simp [intOf]; omega
          · have t0 : decide ((k : Int) < (xn : Int)) = false := by simp; omega
            go_wp2_with (go_at_call 10; refine (hS.out _).mono ?_; rintro _ w9 ⟨rfl, hb9⟩)
            go_ret
            exact ⟨rfl, below_on (below_on hb0.out HL.out) hb9⟩
theorem matches_true (w : World) (n : Int) (_ : -9223372036854775808 ≤ n ∧ n ≤ 9223372036854775807) (a : Option Addr) (cap : Nat) (xs : List Opn) (hl : xs.length ≤ 9223372036854775807) (h : Ops w w.heap.size a xs) :
    Calls Try.prog 3 #[.int .i64 n, .slice a xs.length cap] w (TruePost w) := matches_any w n _ a cap xs hl h
end Go.Proofs.Ytaajkhdmeghnbaa
