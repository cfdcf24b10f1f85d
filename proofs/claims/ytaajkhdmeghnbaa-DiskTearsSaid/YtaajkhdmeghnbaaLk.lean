/- The law's walk: DiskKeepsWhatWasFlushed. -/
import Derived.Test.YtaajkhdmeghnbaaLr
namespace Go.Proofs.Ytaajkhdmeghnbaa
open Go.RowKit Go.Sort

set_option maxRecDepth 100000 in
theorem keeps_any (w : World) (n : Int) (B : Nat) (a : Option Addr) (cap : Nat) (xs : List Opn) (hl : xs.length ≤ 9223372036854775807) (h : Ops w B a xs) (ap : Option Addr) (cp2 : Nat) (picks : List Int) (hlp : picks.length ≤ 9223372036854775807) (hsp : Sl w .i64 ap picks) :
    Calls Try.prog 4 #[.int .i64 n, .slice a xs.length cap, .slice ap picks.length cp2] w (TruePost w) := by
  have hS := Bx.mk fun (W : World) => sanity_true W
  have hF := Bx.mk (few_any w B a cap xs hl h)
  have H := Bx.mk h
  have HB := Bx.mk h.lt
  have hsp := Bx.mk hsp
  generalize hpn : picks.length = kn at *
  replace hpn := Bx.mk hpn
  clear h
  generalize hfe : fewB xs = fe at *
  replace hfe := Bx.mk hfe
  generalize hxn : xs.length = xn at *
  replace hxn := Bx.mk hxn
  by_cases hA : 40 < n
  · have t0 : decide (40 < n) = true := by simp; omega
    go_enter Try.func4, Try.ntmps4
    go_wp2_with (go_at_call 10; refine (hS.out _).mono ?_; rintro _ w1 ⟨rfl, hb1⟩)
    go_ret
    exact ⟨rfl, hb1⟩
  have t0 : decide (40 < n) = false := by simp; omega
  cases fe with
  | false =>
    go_enter Try.func4, Try.ntmps4
    go_wp2_with (first
      | (go_at_call 10; refine (hS.out _).mono ?_; rintro _ w2 ⟨rfl, hb2⟩)
      | (go_at_call 9; refine hF.out.mono ?_; rintro _ w1 ⟨rfl, hb1⟩))
    go_ret
    exact ⟨rfl, below_on hb1 hb2⟩
  | true =>
  by_cases hq : 70 < kn
  · have tq : decide (70 < (kn : Int)) = true := by simp; omega
    go_enter Try.func4, Try.ntmps4
    go_wp2_with (first
      | (go_at_call 10; refine (hS.out _).mono ?_; rintro _ w2 ⟨rfl, hb2⟩)
      | (go_at_call 9; refine hF.out.mono ?_; rintro _ w1 ⟨rfl, hb1⟩))
    go_ret
    exact ⟨rfl, below_on hb1 hb2⟩
  have tq : decide (70 < (kn : Int)) = false := by simp; omega
  by_cases hn : n < 1
  · have t1 : decide (n < 1) = true := by simp; omega
    have hP := Bx.mk fun (W : World) (v : Value) => played_no W n v hn
    go_enter Try.func4, Try.ntmps4
    go_wp2_with (first
      | (go_at_call 9; refine hF.out.mono ?_; rintro _ w1 ⟨rfl, hb1⟩)
      | (go_at_call 16; refine (hP.out _ _).mono ?_; rintro _ _ ⟨rfl, rfl⟩)
      | (go_at_call 10; refine (hS.out _).mono ?_; rintro _ w3 ⟨rfl, hb3⟩))
    go_ret
    exact ⟨rfl, below_on hb1 hb3⟩
  obtain ⟨pn, rfl⟩ := Int.eq_ofNat_of_zero_le (show 0 ≤ n by omega)
  have h1 : 1 ≤ pn := by omega
  have h2 : pn ≤ 40 := by omega
  have hP := Bx.mk fun (W : World) (hW : Ops W B a xs) => played_yes W pn h1 h2 B a cap xs hfe.out hW
  rw [hxn.out] at hP
  have hlen : xn ≤ 40 := by have := few_len hfe.out; have := hxn.out; omega
  have hDl := Bx.mk (playN_len pn xs)
  go_enter Try.func4, Try.ntmps4
  go_wp2_with fail
  refine hF.out.mono ?_
  rintro _ w2 ⟨rfl, hb1⟩
  have hL2 : Bx (Below w.heap.size w w2) := ⟨hb1⟩
  clear hb1
  go_wp2_with fail
  refine (hP.out _ (H.out.below (hL2.out.mono HB.out))).mono ?_
  rintro _ w3 ⟨p, g, mb, cp, q, gq, cq, rfl, hBo, hb3⟩
  replace hBo := Bx.mk hBo
  rw [hxn.out] at hBo
  have hL3 : Bx (Below w2.heap.size w2 w3) := ⟨hb3⟩
  clear hb3 hP hF H hfe
  generalize playN (mkDk pn) xs = D at *
  have hz := hDl.out
  have hTr := Bx.mk (trip_any w3 p g mb cp xn D hBo.out.dk (-1) (by omega))
  have hRd := Bx.mk (reads_len (D.setTrip (-1)) pn)
  have hRa := Bx.mk fun (k : Nat) (hk : k < pn) => reads_at (D.setTrip (-1)) hk
  have hFy := Bx.mk fun (ho : D.off = false) => flush_gives ho (by omega) picks
  have hFn := Bx.mk fun (ho : D.off = true) => flush_gone ho
  have hoff : Bx ((D.setTrip (-1)).off = D.off) := ⟨rfl⟩
  rw [hDl.out] at hFy
  clear hz
  generalize D.setTrip (-1) = D1 at *
  generalize D1.reads pn = L at *
  go_wp2_with fail
  refine hTr.out.mono ?_
  rintro _ w4 ⟨rfl, hd4, hc4⟩
  have HB4 := Bx.mk (hBo.out.ofD hd4 (DkIs.chgP hc4))
  have hL4 := Bx.mk (hBo.out.belD hL3.out hL3.out.size (DkIs.chgP hc4))
  clear hd4 hc4 hTr hBo hL3
  have HI : Bx (ImI w4 (L.take 0) (.slice none 0 0) w4) := ⟨by rw [List.take_zero]; exact Ownv.nil _ _ _, Below.refl _ _⟩
  go_wp2_with fail
  go_loopw [10, 46] (fun v10 v46 wr => ∃ k : Nat, k ≤ pn ∧ v46 = .int .i64 k ∧ Bx (ImI w4 (L.take k) v10 wr)) (fun _ v46 _ => pn - (intOf v46).toNat)
  case atStart => exact ⟨0, by omega, rfl, HI⟩
  case round =>
    clear HI
    obtain ⟨k, hk, rfl, HI⟩ := hrel
    by_cases hlt : k < pn
    · have t0 : decide ((k : Int) < (pn : Int)) = true := by simp; omega
      have hR := Bx.mk (read_any wr p g mb cp xn D1 (HB4.out.dk.later HI.out.bel) (k : Int))
      have htk := Bx.mk (take_snoc (hRa.out k hlt))
      generalize D1.read (k : Int) = r at *
      have hlen : Bx ((strs (L.take k)).length ≤ 1000000000) := ⟨by rw [strs_length, List.length_take]; omega⟩
      go_upto_region 12 with (go_at_call 18; refine hR.out.mono ?_; rintro _ w5 ⟨rfl, hb5⟩; replace hb5 := Bx.mk hb5)
      have HI1 : Bx (ImI w4 (L.take k) u10 w5) := ⟨HI.out.own.below hb5.out, HI.out.bel.trans (hb5.out.mono HI.out.bel.size)⟩
      clear HI hb5 hR
      go_wp2_with (at_builtin; refine wpList_append_val rfl _ _ _ rfl 9 (.string ⟨#[]⟩) 16 (by decide) Try.underlying43 (by kernel_rfl) rfl w4.heap.size _ (strs (L.take k)) rfl (HI1.out.own.alloc _) (.string (strOfNums r.1)) rfl ⟨w5.heap.size, 0, none⟩ 1 rfl (cell_new _ _ _) hlen.out (le_alloc HI1.out.bel.size _) ?_)
      intro v' w6 ho hg hv
      have HI4 : Bx (ImI w4 (L.take (k + 1)) v' w6) := by
        rw [htk.out]
        refine ⟨⟨by rw [strs_snoc]; exact ho, ?_⟩⟩
        have h2 : Below w4.heap.size w4 (w5.alloc (.cells #[.string (strOfNums r.1)] 9)) := HI1.out.bel.trans (((Below.refl _ _).alloc (Nat.le_refl _) _).mono HI1.out.bel.size)
        exact h2.trans ((Chg.ofRow hg).below h2.size (fun j hj e => by have := (HI1.out.own.lt j e).1; omega))
      clear ho hg hv HI1
      go_wp2_with fail
      go_roundw
      case rel => exact ⟨k + 1, by omega, by go_num, HI4⟩
      case measure => simp [intOf]; omega
    · have t0 : decide ((k : Int) < (pn : Int)) = false := by simp; omega
      obtain rfl : k = pn := by omega
      have hte : L.take k = L := List.take_of_length_le (by rw [hRd.out]; omega)
      rw [hte] at HI
      clear hte
      obtain ⟨ab, cb, rfl, hsb⟩ := HI.out.own.form
      have hab : Bx (∀ b o, ab = some ⟨b, o, none⟩ → ¬ In3 p g mb b) := ⟨fun b o e hk => HB4.out.new3 (HI.out.own.lt b (by rw [e]; rfl)).1 hk⟩
      replace hsb := Bx.mk hsb
      have HB5 := Bx.mk (HB4.out.later HI.out.bel)
      have hL5 := Bx.mk (below_on hL4.out HI.out.bel)
      clear HI HB4 hL4
      have hF := flush_any wr p g mb cp xn D1 HB5.out.dk
      by_cases hof : D.off = true
      · rw [hFn.out hof] at hF
        replace hF := Bx.mk hF
        go_wp2_with fail
        refine hF.out.mono ?_
        rintro _ w6 ⟨rfl, hd6, hc6⟩
        have HB6 := Bx.mk (HB5.out.ofD hd6 hc6)
        have hL6 := Bx.mk (HB5.out.belD hL5.out hL5.out.size hc6)
        clear hd6 hc6
        go_wp2_with fail
        refine (hS.out _).mono ?_
        rintro _ w7 ⟨rfl, hb7⟩
        have hU := up_any w7 p g mb cp xn D1 (HB6.out.dk.later hb7)
        rw [hoff.out, hof] at hU
        go_wp2_with fail
        refine hU.mono ?_
        rintro _ _ ⟨rfl, rfl⟩
        go_wp2_with fail
        go_ret
        exact ⟨rfl, below_on hL2.out (below_on hL6.out hb7)⟩
      replace hof : D.off = false := by simpa using hof
      obtain ⟨D2, D4, f1, f2, f3, f4⟩ := hFy.out hof
      rw [f1] at hF
      replace hF := Bx.mk hF
      replace f2 := Bx.mk f2
      replace f3 := Bx.mk f3
      replace f4 := Bx.mk f4
      clear f1 hFy hFn
      go_wp2_with fail
      refine hF.out.mono ?_
      rintro _ w6 ⟨rfl, hd6, hc6⟩
      have HB6 := Bx.mk (HB5.out.ofD hd6 hc6)
      have hL6 := Bx.mk (HB5.out.belD hL5.out hL5.out.size hc6)
      replace hsb := Bx.mk (hsb.out.chg hc6 hab.out)
      clear hd6 hc6 hF HB5 hL5
      have hTr := Bx.mk (trip_any w6 p g mb cp xn D2 HB6.out.dk 0 (by omega))
      go_wp2_with fail
      refine hTr.out.mono ?_
      rintro _ w7 ⟨rfl, hd7, hc7⟩
      have HB7 := Bx.mk (HB6.out.ofD hd7 (DkIs.chgP hc7))
      have hL7 := Bx.mk (HB6.out.belD hL6.out hL6.out.size (DkIs.chgP hc7))
      replace hsb := Bx.mk (hsb.out.chg (DkIs.chgP hc7) hab.out)
      clear hd7 hc7 hTr HB6 hL6
      have a2 : strOfNums [122] = ⟨#[122]⟩ := by decide +kernel
      have hW := write_any w7 p g mb cp xn (D2.setTrip 0) HB7.out.dk (by omega) 0 0 [122] (fun x hx => by simp at hx; omega) (by decide) (by omega)
      rw [a2, f2.out] at hW
      replace hW := Bx.mk hW
      clear a2
      go_wp2_with fail
      refine hW.out.mono ?_
      rintro _ w8 ⟨rfl, hd8, hc8⟩
      have HB8 := Bx.mk (HB7.out.ofD hd8 hc8)
      have hL8 := Bx.mk (HB7.out.belD hL7.out hL7.out.size hc8)
      replace hsb := Bx.mk (hsb.out.chg hc8 hab.out)
      clear hd8 hc8 hW HB7 hL7
      have hM := mount_any w8 p g mb cp (xn + 1) D4 HB8.out.dk ap cp2 picks (by have := hpn.out; omega) (hsp.out.below (below_on hL2.out hL8.out)) (fun b o e hl => HB8.out.not3 (by have := sl_lt hsp.out b o e hl; have := hL2.out.size; omega))
      rw [hpn.out] at hM
      replace hM := Bx.mk hM
      go_wp2_with fail
      refine hM.out.mono ?_
      rintro _ w9 ⟨rfl, hd9, hc9⟩
      have HB9 := Bx.mk (HB8.out.ofD hd9 hc9)
      have hL9 := Bx.mk (HB8.out.belD hL8.out hL8.out.size hc9)
      replace hsb := Bx.mk (hsb.out.chg hc9 hab.out)
      have hof9 : Bx ((D4.mount picks).off = false) := ⟨rfl⟩
      clear hd9 hc9 hM HB8 hL8
      generalize D4.mount picks = D5 at *
      go_wp2_with fail
      refine (hS.out _).mono ?_
      rintro _ w10 ⟨rfl, hb10⟩
      have HB10 := Bx.mk (HB9.out.later hb10)
      have hL10 := Bx.mk (below_on hL9.out hb10)
      replace hsb := Bx.mk (hsb.out.below hb10)
      clear hb10 HB9 hL9
      have hIm := Bx.mk (image_any w10 p g mb cp _ D5 HB10.out.dk)
      go_wp2_with fail
      refine hIm.out.mono ?_
      rintro _ w11 ⟨v1, rfl, ho1, hb11⟩
      obtain ⟨a1, c1, rfl, hs1⟩ := ho1.form
      rw [f3.out] at hs1
      rw [f3.out, strs_length, hRd.out]
      have HB11 := Bx.mk (HB10.out.later hb11)
      have hL11 := Bx.mk (below_on hL10.out hb11)
      replace hsb := Bx.mk (hsb.out.below hb11)
      clear hb11 HB10 hL10 hIm ho1
      have hT := sameTexts_eq w11 a1 ab c1 cb L (by rw [hRd.out]; omega) hs1 hsb.out
      rw [hRd.out] at hT
      replace hT := Bx.mk hT
      replace hs1 := Bx.mk hs1
      go_wp2_with fail
      refine hT.out.mono ?_
      rintro _ w12 ⟨rfl, hb12⟩
      have HB12 := Bx.mk (HB11.out.later hb12)
      have hL12 := Bx.mk (below_on hL11.out hb12)
      clear hb12 HB11 hL11 hT
      have hPe := Bx.mk (pend_any w12 p g mb cp _ D5 HB12.out.dk)
      go_wp2_with fail
      refine hPe.out.mono ?_
      rintro _ w13 ⟨v2, rfl, ho2, hb13⟩
      obtain ⟨a2, c2, rfl, -⟩ := ho2.form
      rw [f4.out]
      have HB13 := Bx.mk (HB12.out.later hb13)
      have hL13 := Bx.mk (below_on hL12.out hb13)
      clear hb13 HB12 hL12 ho2
      have hU := up_any w13 p g mb cp _ D5 HB13.out.dk
      rw [hof9.out] at hU
      go_wp2_with fail
      refine hU.mono ?_
      rintro _ _ ⟨rfl, rfl⟩
      go_wp2_with fail
      go_ret
      exact ⟨rfl, below_on hL2.out hL13.out⟩
theorem keepsFlushed_true (w : World) (n : Int) (_ : -9223372036854775808 ≤ n ∧ n ≤ 9223372036854775807) (a : Option Addr) (cap : Nat) (xs : List Opn) (hl : xs.length ≤ 9223372036854775807) (h : Ops w w.heap.size a xs) (ap : Option Addr) (cp2 : Nat) (picks : List Int) (hlp : picks.length ≤ 9223372036854775807) (hsp : Sl w .i64 ap picks) :
    Calls Try.prog 4 #[.int .i64 n, .slice a xs.length cap, .slice ap picks.length cp2] w (TruePost w) := keeps_any w n _ a cap xs hl h ap cp2 picks hlp hsp
end Go.Proofs.Ytaajkhdmeghnbaa
