/- The law's walk: DiskTears. -/
import Derived.Test.YtaajkhdmeghnbaaLk
import Derived.Test.YtaajkhdmeghnbaaLtp
namespace Go.Proofs.Ytaajkhdmeghnbaa
open Go.RowKit Go.Sort

set_option maxRecDepth 100000 in
theorem tears_any (w : World) (n : Int) (B : Nat) (a : Option Addr) (cap : Nat) (xs : List Opn) (hl : xs.length ≤ 9223372036854775807) (h : Ops w B a xs) (ap : Option Addr) (cp2 : Nat) (picks : List Int) (hlp : picks.length ≤ 9223372036854775807) (hsp : Sl w .i64 ap picks) :
    Calls Try.prog 5 #[.int .i64 n, .slice a xs.length cap, .slice ap picks.length cp2] w (TruePost w) := by
  have hS := Bx.mk fun (W : World) => sanity_true W
  have hF := Bx.mk (few_any w B a cap xs hl h)
  have H := Bx.mk h
  have HB := Bx.mk h.lt
  have hsp := Bx.mk hsp
  generalize hpn : picks.length = kn at *
  replace hpn := Bx.mk hpn
  clear h
  generalize hfe : fewB xs = fe at *
  replace hfe := Bx.mk hfe
  generalize hxn : xs.length = xn at *
  replace hxn := Bx.mk hxn
  by_cases hA : 40 < n
  · have t0 : decide (40 < n) = true := by simp; omega
    go_enter Try.func5, Try.ntmps5
    go_wp2_with (go_at_call 10; refine (hS.out _).mono ?_; rintro _ w1 ⟨rfl, hb1⟩)
    go_ret
    exact ⟨rfl, hb1⟩
  have t0 : decide (40 < n) = false := by simp; omega
  cases fe with
  | false =>
    go_enter Try.func5, Try.ntmps5
    go_wp2_with (first
      | (go_at_call 10; refine (hS.out _).mono ?_; rintro _ w2 ⟨rfl, hb2⟩)
      | (go_at_call 9; refine hF.out.mono ?_; rintro _ w1 ⟨rfl, hb1⟩))
    go_ret
    exact ⟨rfl, below_on hb1 hb2⟩
  | true =>
  by_cases hq : 70 < kn
  · have tq : decide (70 < (kn : Int)) = true := by simp; omega
    go_enter Try.func5, Try.ntmps5
    go_wp2_with (first
      | (go_at_call 10; refine (hS.out _).mono ?_; rintro _ w2 ⟨rfl, hb2⟩)
      | (go_at_call 9; refine hF.out.mono ?_; rintro _ w1 ⟨rfl, hb1⟩))
    go_ret
    exact ⟨rfl, below_on hb1 hb2⟩
  have tq : decide (70 < (kn : Int)) = false := by simp; omega
  by_cases hn : n < 1
  · have t1 : decide (n < 1) = true := by simp; omega
    have hP := Bx.mk fun (W : World) (v : Value) => played_no W n v hn
    go_enter Try.func5, Try.ntmps5
    go_wp2_with (first
      | (go_at_call 9; refine hF.out.mono ?_; rintro _ w1 ⟨rfl, hb1⟩)
      | (go_at_call 16; refine (hP.out _ _).mono ?_; rintro _ _ ⟨rfl, rfl⟩)
      | (go_at_call 10; refine (hS.out _).mono ?_; rintro _ w3 ⟨rfl, hb3⟩))
    go_ret
    exact ⟨rfl, below_on hb1 hb3⟩
  obtain ⟨pn, rfl⟩ := Int.eq_ofNat_of_zero_le (show 0 ≤ n by omega)
  have h1 : 1 ≤ pn := by omega
  have h2 : pn ≤ 40 := by omega
  have hP := Bx.mk fun (W : World) (hW : Ops W B a xs) => played_yes W pn h1 h2 B a cap xs hfe.out hW
  rw [hxn.out] at hP
  have hlen : xn ≤ 40 := by have := few_len hfe.out; have := hxn.out; omega
  have hDl := Bx.mk (playN_len pn xs)
  go_enter Try.func5, Try.ntmps5
  go_wp2_with fail
  refine hF.out.mono ?_
  rintro _ w2 ⟨rfl, hb1⟩
  have hL2 : Bx (Below w.heap.size w w2) := ⟨hb1⟩
  clear hb1
  go_wp2_with fail
  refine (hP.out _ (H.out.below (hL2.out.mono HB.out))).mono ?_
  rintro _ w3 ⟨p, g, mb, cp, q, gq, cq, rfl, hBo, hb3⟩
  replace hBo := Bx.mk hBo
  rw [hxn.out] at hBo
  have hL3 : Bx (Below w2.heap.size w2 w3) := ⟨hb3⟩
  clear hb3 hP hF H hfe
  generalize playN (mkDk pn) xs = D at *
  have hIm := Bx.mk (image_any w3 p g mb cp xn D hBo.out.dk)
  go_wp2_with fail
  refine hIm.out.mono ?_
  rintro _ w4 ⟨v1, rfl, ho1, hb4⟩
  obtain ⟨a1, c1, rfl, hs1⟩ := ho1.form
  have hap1 : Bx (∀ b o, a1 = some ⟨b, o, none⟩ → ¬ In3 p g mb b) := ⟨fun b o e hk => hBo.out.new3 (ho1.lt b (by rw [e]; rfl)).1 hk⟩
  rw [image_len hDl.out]
  have HB4 := Bx.mk (hBo.out.later hb4)
  have hL4 := Bx.mk (below_on hL3.out hb4)
  replace hs1 := Bx.mk hs1
  clear ho1 hb4 hBo hL3 hIm
  have hPe := Bx.mk (pend_any w4 p g mb cp xn D HB4.out.dk)
  go_wp2_with fail
  refine hPe.out.mono ?_
  rintro _ w5 ⟨v2, rfl, ho2, hb5⟩
  obtain ⟨a2, c2, rfl, hs2⟩ := ho2.form
  have hap2 : Bx (∀ b o, a2 = some ⟨b, o, none⟩ → ¬ In3 p g mb b) := ⟨fun b o e hk => HB4.out.new3 (ho2.lt b (by rw [e]; rfl)).1 hk⟩
  replace hs2 := Bx.mk hs2
  have hml : (ints (pendOf D.p)).length = (pendOf D.p).length := by unfold ints; rw [List.length_map]
  rw [hml]
  clear hml
  have hpl := pend_len_le D.p
  rw [hDl.out] at hpl
  generalize hpn2 : (pendOf D.p).length = mn at *
  replace hpn2 := Bx.mk hpn2
  have HB5 := Bx.mk (HB4.out.later hb5)
  have hL5 := Bx.mk (below_on hL4.out hb5)
  replace hs1 := Bx.mk (hs1.out.below hb5)
  clear ho2 hb5 HB4 hL4 hPe
  have hM := mount_any w5 p g mb cp xn D HB5.out.dk ap cp2 picks (by have := hpn.out; omega) (hsp.out.below (below_on hL2.out hL5.out)) (fun b o e hl => HB5.out.not3 (by have := sl_lt hsp.out b o e hl; have := hL2.out.size; omega))
  rw [hpn.out] at hM
  replace hM := Bx.mk hM
  go_wp2_with fail
  refine hM.out.mono ?_
  rintro _ w6 ⟨rfl, hd6, hc6⟩
  have HB6 := Bx.mk (HB5.out.ofD hd6 hc6)
  have hL6 := Bx.mk (HB5.out.belD hL5.out hL5.out.size hc6)
  replace hs1 := Bx.mk (hs1.out.chg hc6 hap1.out)
  replace hs2 := Bx.mk (hs2.out.chg hc6 (fun b o e _ => hap2.out b o e))
  have hs3 := Bx.mk ((hsp.out.below (below_on hL2.out hL5.out)).chg hc6 (fun b o e hl => HB5.out.not3 (by have := sl_lt hsp.out b o e hl; have := hL2.out.size; omega)))
  have hTy := Bx.mk fun (i : Nat) (x : Pg) (hx : D.p[i]? = some x) (hp : isPend D.p i = true) => tear_pend HB5.out.dk.ok picks hx hp
  have hTn := Bx.mk fun (i : Nat) (x : Pg) (hx : D.p[i]? = some x) (hp : isPend D.p i = false) => tear_not picks hx hp
  have hOk := Bx.mk HB5.out.dk.ok
  have hpm : Bx (pendOf (D.mount picks).p = []) := ⟨pend_mount _ _⟩
  generalize hDM : D.mount picks = DM at *
  clear hd6 hc6 hM HB5 hL5 hDM
  have HI : Bx (Below w6.heap.size w6 w6) := ⟨Below.refl _ _⟩
  have hr0 : rank D.p 0 = 0 := rfl
  have hrm : rank D.p 0 ≤ mn := by rw [hr0]; omega
  go_wp2_with fail
  go_loopw [12, 57] (fun v12 v57 wr => ∃ k : Nat, k ≤ pn ∧ v57 = .int .i64 k ∧ v12 = .int .i64 (rank D.p k) ∧ Bx (Below w6.heap.size w6 wr)) (fun _ v57 _ => pn - (intOf v57).toNat)
  case atStart => exact ⟨0, by omega, rfl, rfl, HI⟩
  case round =>
    clear HI hrm hr0
    obtain ⟨i, hk, rfl, rfl, HI⟩ := hrel
    by_cases hlt : i < pn
    · have t0 : decide ((i : Int) < (pn : Int)) = true := by simp; omega
      obtain ⟨x, hx⟩ : ∃ x, D.p[i]? = some x := ⟨_, List.getElem?_eq_getElem (by rw [hDl.out]; exact hlt)⟩
      have hx1 := Bx.mk (show D.image[i]? = some x.1 by unfold Dk.image; rw [List.getElem?_map, hx]; rfl)
      have hx2 := Bx.mk ((hOk.out.pages x (List.mem_of_getElem? hx)).1)
      have q0 : (0 : Int) ≤ (i : Int) := by omega
      have q1 : (i : Int) < (pn : Int) := by omega
      have hR := read_any wr p g mb cp _ DM (HB6.out.dk.later HI.out) (i : Int)
      by_cases hp : isPend D.p i = true
      · obtain ⟨nw, hn1, hn2, hn3, hn4, hn5⟩ := hTy.out i x hx hp
        have hkn : rank D.p i < mn := by have := (List.getElem?_eq_some_iff.1 hn5).1; have := hpn2.out; omega
        have hpk := pick_le picks (rank D.p i)
        have hpa := Bx.mk fun (z : Int) (hz : picks[rank D.p i]? = some z) => pick_at hz
        have hpo := Bx.mk fun (hz : picks.length ≤ rank D.p i) => pick_out hz
        rw [hn3] at hR
        replace hR := Bx.mk hR
        replace hn1 := Bx.mk hn1
        replace hn2 := Bx.mk hn2
        replace hn4 := Bx.mk hn4
        replace hn5 := Bx.mk (ints_at hn5)
        replace hx := Bx.mk hx
        clear hn3 hp
        generalize hrk : rank D.p i = rk at *
        replace hrk := Bx.mk hrk
        generalize pick picks rk = cc at *
        go_upto_region 15 with (go_at_call 18; refine hR.out.mono ?_; rintro _ w7 ⟨rfl, hb7⟩; replace hb7 := Bx.mk hb7)
        obtain ⟨b1, o1, rfl, hc1⟩ := ((hs1.out.below HI.out).below hb7.out) i _ (strs_at hx1.out)
        obtain ⟨b2, o2, rfl, hc2⟩ := ((hs2.out.below HI.out).below hb7.out) rk _ hn5.out
        have HI7 : Bx (Below w6.heap.size w6 w7) := ⟨below_on HI.out hb7.out⟩
        have HR7 := HB6.out.rk.later HI7.out
        have kq := HR7.kq.cell 0 rfl
        rw [hDl.out] at kq
        have kn1 : w7.cell? ⟨gq, i * 3 + 1, none⟩ = some (.string (strOfNums nw)) := by rw [HR7.pg.at_ i 1 (by rw [hDl.out]; exact hlt) (by omega), fof_at hx.out]; show some (Value.string (strOfNums (x.2.getD []))) = _; rw [hn1.out]; rfl
        have q2 : (0 : Int) ≤ (rk : Int) := by omega
        have q3 : (rk : Int) < (mn : Int) := by omega
        have t1 : decide ((rk : Int) < (mn : Int)) = true := by simp; omega
        have t2 : ((i : Int) == (i : Int)) = true := by simp
        clear HI hb7 hR HR7
        go_upto_region 18 with fail
        by_cases hkp : rk < kn
        · have t3 : decide ((rk : Int) < (kn : Int)) = true := by simp; omega
          obtain ⟨z, hz⟩ : ∃ z, picks[rk]? = some z := ⟨_, List.getElem?_eq_getElem (by have := hpn.out; omega)⟩
          obtain ⟨b3, o3, rfl, hc3⟩ := (hs3.out.below HI7.out) rk _ hz
          have mx : (if z < 0 then 0 else z) = max z 0 := by split <;> omega
          have mn2 : (if 128 < max z 0 then 128 else max z 0) = min (max z 0) 128 := by split <;> omega
          have mn3 := Bx.mk (hpa.out z hz)
          have q6 : (rk : Int) < (kn : Int) := by omega
          clear hz
          go_upto_region 20 with fail
          rw [← mn3.out]
          clear mx mn2 mn3 hc3
          have y1 : (strOfNums nw).size = 128 := by rw [strOfNums_size]; exact hn2.out
          have z1 := slice_to (P := Try.prog) 9 Try.underlying9 nw cc (by rw [hn2.out]; omega)
          have z2 : (strOfNums x.1).extract cc 128 = strOfNums (x.1.drop cc) := by
            rw [str_extract, List.take_of_length_le (by rw [List.length_drop, hx2.out]; omega)]
          have z0 : (strOfNums nw).extract 0 cc = strOfNums (nw.take cc) := by rw [str_extract, List.drop_zero, Nat.sub_zero]
          have y2 : (strOfNums x.1).size = 128 := by rw [strOfNums_size]; exact hx2.out
          have y3 : (strOfNums (nw.take cc)).size + (strOfNums (x.1.drop cc)).size ≤ 1000 := by rw [strOfNums_size, strOfNums_size, List.length_take, List.length_drop, hx2.out]; omega
          have z3 := str_append (nw.take cc) (x.1.drop cc)
          have mm : (if (128 : Int) < (cc : Int) then (128 : Int) else (cc : Int)) = (cc : Int) := by rw [if_neg (by omega)]
          have q4 : (0 : Int) ≤ (cc : Int) := by omega
          have q5 : (cc : Int) ≤ 128 := by omega
          generalize strOfNums (nw.take cc ++ x.1.drop cc) = S1 at *
          generalize strOfNums (nw.take cc) = S2 at *
          generalize strOfNums (x.1.drop cc) = S3 at *
          generalize strOfNums nw = S4 at *
          generalize strOfNums x.1 = S5 at *
          replace z3 := Bx.mk z3
          have d0 : ∀ dk osk, (grow (redrawn w7 dk) osk).cell? ⟨q, 0, none⟩ = some (.slice (some ⟨gq, 0, none⟩) pn cq) := cell_regrown kq
          have d1 : ∀ dk osk, (grow (redrawn w7 dk) osk).cell? ⟨gq, i * 3 + 1, none⟩ = some (.string S4) := cell_regrown kn1
          have d2 : ∀ dk osk, (grow (redrawn w7 dk) osk).cell? ⟨b1, o1 + i, none⟩ = some (.string S5) := cell_regrown hc1
          clear kq kn1 hc1 hc2
          refine wp_region_quiet_below (by kernel_rfl) (by kernel_rfl) ?_
          repeat (first | go_big_quiet_step (fail) | quiet_step (fail))
          refine wpQuiet_nil ?_
          rintro _ ⟨⟨dq, osq⟩, rfl⟩
          have HI8 : Bx (Below w6.heap.size w6 (grow (redrawn w7 dq) osq)) := ⟨below_on HI7.out (below_regrown w7 dq osq)⟩
          clear d0 d1 d2 HI7 mm
          rw [show (min (cc : Int) 128).toNat = cc by omega, z0, z3.out]
          generalize grow (redrawn w7 dq) osq = W2 at *
          go_wp2_with fail
          go_roundw
          case rel => exact ⟨i + 1, by omega, by go_num, by rw [hn4.out]; go_num, HI8⟩
          case measure => simp [intOf]; omega
        · have t3 : decide ((rk : Int) < (kn : Int)) = false := by simp; omega
          obtain rfl : cc = 128 := hpo.out (by have := hpn.out; omega)
          go_upto_region 20 with fail
          have y1 : (strOfNums nw).size = 128 := by rw [strOfNums_size]; exact hn2.out
          have z1 := slice_to (P := Try.prog) 9 Try.underlying9 nw 128 (by rw [hn2.out]; omega)
          have z2 : (strOfNums x.1).extract 128 128 = strOfNums (x.1.drop 128) := by
            rw [str_extract, List.take_of_length_le (by rw [List.length_drop, hx2.out]; omega)]
          have z0 : (strOfNums nw).extract 0 128 = strOfNums (nw.take 128) := by rw [str_extract, List.drop_zero, Nat.sub_zero]
          have y2 : (strOfNums x.1).size = 128 := by rw [strOfNums_size]; exact hx2.out
          have y3 : (strOfNums (nw.take 128)).size + (strOfNums (x.1.drop 128)).size ≤ 1000 := by rw [strOfNums_size, strOfNums_size, List.length_take, List.length_drop, hx2.out]; omega
          have z3 := str_append (nw.take 128) (x.1.drop 128)
          have z4 : Bx (strOfNums (nw.take 128 ++ x.1.drop 128) = strOfNums (nw.take 128)) := ⟨by rw [List.drop_of_length_le (by rw [hx2.out]; omega), List.append_nil]⟩
          have mm : True := trivial
          have q4 : (0 : Int) ≤ (128 : Int) := by omega
          have q5 : (128 : Int) ≤ 128 := by omega
          generalize strOfNums (nw.take 128 ++ x.1.drop 128) = S1 at *
          generalize strOfNums (nw.take 128) = S2 at *
          generalize strOfNums (x.1.drop 128) = S3 at *
          generalize strOfNums nw = S4 at *
          generalize strOfNums x.1 = S5 at *
          replace z3 := Bx.mk z3
          have d0 : ∀ dk osk, (grow (redrawn w7 dk) osk).cell? ⟨q, 0, none⟩ = some (.slice (some ⟨gq, 0, none⟩) pn cq) := cell_regrown kq
          have d1 : ∀ dk osk, (grow (redrawn w7 dk) osk).cell? ⟨gq, i * 3 + 1, none⟩ = some (.string S4) := cell_regrown kn1
          have d2 : ∀ dk osk, (grow (redrawn w7 dk) osk).cell? ⟨b1, o1 + i, none⟩ = some (.string S5) := cell_regrown hc1
          clear kq kn1 hc1 hc2
          refine wp_region_quiet_below (by kernel_rfl) (by kernel_rfl) ?_
          repeat (first | go_big_quiet_step (fail) | quiet_step (fail))
          refine wpQuiet_nil ?_
          rintro _ ⟨⟨dq, osq⟩, rfl⟩
          have HI8 : Bx (Below w6.heap.size w6 (grow (redrawn w7 dq) osq)) := ⟨below_on HI7.out (below_regrown w7 dq osq)⟩
          clear d0 d1 d2 HI7 mm
          rw [z4.out]
          generalize grow (redrawn w7 dq) osq = W2 at *
          go_wp2_with fail
          go_roundw
          case rel => exact ⟨i + 1, by omega, by go_num, by rw [hn4.out]; go_num, HI8⟩
          case measure => simp [intOf]; omega
      · replace hp : isPend D.p i = false := by simpa using hp
        obtain ⟨hn3, hn4, hn5⟩ := hTn.out i x hx hp
        rw [hn3] at hR
        replace hR := Bx.mk hR
        replace hn4 := Bx.mk hn4
        replace hx := Bx.mk hx
        have hn6 : Bx (rank D.p i = mn ∨ ∃ j, (ints (pendOf D.p))[rank D.p i]? = some j ∧ j ≠ (i : Int)) := ⟨by
          rw [hpn2.out] at hn5
          rcases hn5 with h | ⟨j, h, h'⟩
          · exact .inl h
          · exact .inr ⟨_, ints_at h, by omega⟩⟩
        clear hn3 hn5 hp
        generalize hrk : rank D.p i = rk at *
        replace hrk := Bx.mk hrk
        go_upto_region 15 with (go_at_call 18; refine hR.out.mono ?_; rintro _ w7 ⟨rfl, hb7⟩; replace hb7 := Bx.mk hb7)
        obtain ⟨b1, o1, rfl, hc1⟩ := ((hs1.out.below HI.out).below hb7.out) i _ (strs_at hx1.out)
        have HI7 : Bx (Below w6.heap.size w6 w7) := ⟨below_on HI.out hb7.out⟩
        generalize strOfNums x.1 = S5 at *
        rcases hn6.out with h6 | ⟨j, h6, h7⟩
        · have t1 : decide (rk < mn) = false := by simp; omega
          obtain rfl : rk = mn := h6
          clear hR
          go_wp2_with fail
          go_roundw
          case rel => exact ⟨i + 1, by omega, by go_num, by rw [hn4.out], HI7⟩
          case measure => simp [intOf]; omega
        · have h8 : rk < mn := by have := (List.getElem?_eq_some_iff.1 h6).1; have := hpn2.out; unfold ints at *; rw [List.length_map] at *; omega
          obtain ⟨b2, o2, rfl, hc2⟩ := ((hs2.out.below HI.out).below hb7.out) rk _ h6
          have t1 : decide ((rk : Int) < (mn : Int)) = true := by simp; omega
          have t2 : (j == (i : Int)) = false := by simp; omega
          have q2 : (0 : Int) ≤ (rk : Int) := by omega
          have q3 : (rk : Int) < (mn : Int) := by omega
          clear h6 h7 hR
          go_wp2_with fail
          go_roundw
          case rel => exact ⟨i + 1, by omega, by go_num, by rw [hn4.out], HI7⟩
          case measure => simp [intOf]; omega
    · have t0 : decide ((i : Int) < (pn : Int)) = false := by simp; omega
      have hrn : rank D.p i = mn := by rw [show i = D.p.length by rw [hDl.out]; omega, rank_end]; exact hpn2.out
      rw [hrn]
      clear hrn
      go_wp2_with fail
      refine (hS.out _).mono ?_
      rintro _ w7 ⟨rfl, hb7⟩
      have HB7 := Bx.mk ((HB6.out.later HI.out).later hb7)
      have hL7 := Bx.mk (below_on (below_on hL6.out HI.out) hb7)
      have hPe := Bx.mk (pend_any w7 p g mb cp _ DM HB7.out.dk)
      have t1 : ((mn : Int) == (mn : Int)) = true := by simp
      go_wp2_with fail
      refine hPe.out.mono ?_
      rintro _ w8 ⟨v3, rfl, ho3, hb8⟩
      obtain ⟨a3, c3, rfl, -⟩ := ho3.form
      rw [hpm.out]
      go_wp2_with fail
      go_ret
      exact ⟨rfl, below_on hL2.out (below_on hL7.out hb8)⟩
theorem tears_true (w : World) (n : Int) (_ : -9223372036854775808 ≤ n ∧ n ≤ 9223372036854775807) (a : Option Addr) (cap : Nat) (xs : List Opn) (hl : xs.length ≤ 9223372036854775807) (h : Ops w w.heap.size a xs) (ap : Option Addr) (cp2 : Nat) (picks : List Int) (hlp : picks.length ≤ 9223372036854775807) (hsp : Sl w .i64 ap picks) :
    Calls Try.prog 5 #[.int .i64 n, .slice a xs.length cap, .slice ap picks.length cp2] w (TruePost w) := tears_any w n _ a cap xs hl h ap cp2 picks hlp hsp
end Go.Proofs.Ytaajkhdmeghnbaa
