/- The law's walk: DiskRots. -/
import Derived.Test.YtaajkhdmeghnbaaLc
import Derived.Test.YtaajkhdmeghnbaaLrp
namespace Go.Proofs.Ytaajkhdmeghnbaa
open Go.RowKit Go.Sort

theorem image_len {D : Dk} {n : Nat} (h : D.p.length = n) : (strs D.image).length = n := by rw [strs_length]; unfold Dk.image; rw [List.length_map, h]
set_option maxRecDepth 100000 in
theorem rots_any (w : World) (n : Int) (B : Nat) (a : Option Addr) (cap : Nat) (xs : List Opn) (hl : xs.length ≤ 9223372036854775807) (h : Ops w B a xs) (i bit : Int) :
    Calls Try.prog 6 #[.int .i64 n, .slice a xs.length cap, .int .i64 i, .int .i64 bit] w (TruePost w) := by
  have hS := Bx.mk fun (W : World) => sanity_true W
  have hF := Bx.mk (few_any w B a cap xs hl h)
  have H := Bx.mk h
  have HB := Bx.mk h.lt
  clear h
  generalize hfe : fewB xs = fe at *
  replace hfe := Bx.mk hfe
  generalize hxn : xs.length = xn at *
  replace hxn := Bx.mk hxn
  by_cases hA : 40 < n
  · have t0 : decide (40 < n) = true := by simp; omega
    go_enter Try.func6, Try.ntmps6
    go_wp2_with (go_at_call 10; refine (hS.out _).mono ?_; rintro _ w1 ⟨rfl, hb1⟩)
    go_ret
    exact ⟨rfl, hb1⟩
  have t0 : decide (40 < n) = false := by simp; omega
  cases fe with
  | false =>
    go_enter Try.func6, Try.ntmps6
    go_wp2_with (first
      | (go_at_call 10; refine (hS.out _).mono ?_; rintro _ w2 ⟨rfl, hb2⟩)
      | (go_at_call 9; refine hF.out.mono ?_; rintro _ w1 ⟨rfl, hb1⟩))
    go_ret
    exact ⟨rfl, below_on hb1 hb2⟩
  | true =>
  by_cases hn : n < 1
  · have t1 : decide (n < 1) = true := by simp; omega
    have hP := Bx.mk fun (W : World) (v : Value) => played_no W n v hn
    go_enter Try.func6, Try.ntmps6
    go_wp2_with (first
      | (go_at_call 9; refine hF.out.mono ?_; rintro _ w1 ⟨rfl, hb1⟩)
      | (go_at_call 16; refine (hP.out _ _).mono ?_; rintro _ _ ⟨rfl, rfl⟩)
      | (go_at_call 10; refine (hS.out _).mono ?_; rintro _ w3 ⟨rfl, hb3⟩))
    go_ret
    exact ⟨rfl, below_on hb1 hb3⟩
  obtain ⟨pn, rfl⟩ := Int.eq_ofNat_of_zero_le (show 0 ≤ n by omega)
  have h1 : 1 ≤ pn := by omega
  have h2 : pn ≤ 40 := by omega
  have hP := Bx.mk fun (W : World) (hW : Ops W B a xs) => played_yes W pn h1 h2 B a cap xs hfe.out hW
  rw [hxn.out] at hP
  have hlen : xn ≤ 40 := by have := few_len hfe.out; have := hxn.out; omega
  have hDl := Bx.mk (playN_len pn xs)
  go_enter Try.func6, Try.ntmps6
  go_wp2_with fail
  refine hF.out.mono ?_
  rintro _ w2 ⟨rfl, hb1⟩
  have hL2 : Bx (Below w.heap.size w w2) := ⟨hb1⟩
  clear hb1
  go_wp2_with fail
  refine (hP.out _ (H.out.below (hL2.out.mono HB.out))).mono ?_
  rintro _ w3 ⟨p, g, mb, cp, q, gq, cq, rfl, hBo, hb3⟩
  replace hBo := Bx.mk hBo
  rw [hxn.out] at hBo
  have hL3 : Bx (Below w2.heap.size w2 w3) := ⟨hb3⟩
  clear hb3 hP hF H hfe
  generalize playN (mkDk pn) xs = D at *
  have hIm := Bx.mk (image_any w3 p g mb cp xn D hBo.out.dk)
  go_wp2_with fail
  refine hIm.out.mono ?_
  rintro _ w4 ⟨v1, rfl, ho1, hb4⟩
  obtain ⟨a1, c1, rfl, hs1⟩ := ho1.form
  have hap1 : Bx (∀ b o, a1 = some ⟨b, o, none⟩ → ¬ In3 p g mb b) := ⟨fun b o e hk => hBo.out.new3 (ho1.lt b (by rw [e]; rfl)).1 hk⟩
  rw [image_len hDl.out]
  have HB4 := Bx.mk (hBo.out.later hb4)
  have hL4 := Bx.mk (below_on hL3.out hb4)
  replace hs1 := Bx.mk hs1
  clear ho1 hb4 hBo hL3 hIm
  have hPe := Bx.mk (pend_any w4 p g mb cp xn D HB4.out.dk)
  go_wp2_with fail
  refine hPe.out.mono ?_
  rintro _ w5 ⟨v2, rfl, ho2, hb5⟩
  obtain ⟨a2, c2, rfl, hs2⟩ := ho2.form
  have hap2 : Bx (∀ b o, a2 = some ⟨b, o, none⟩ → ¬ In3 p g mb b) := ⟨fun b o e hk => HB4.out.new3 (ho2.lt b (by rw [e]; rfl)).1 hk⟩
  have hpl : Bx ((ints (pendOf D.p)).length ≤ 40) := ⟨by have := pend_len_le D.p; have := hDl.out; unfold ints; rw [List.length_map]; omega⟩
  replace hs2 := Bx.mk hs2
  generalize hPL : ints (pendOf D.p) = PL at *
  replace hPL := Bx.mk hPL
  have HB5 := Bx.mk (HB4.out.later hb5)
  have hL5 := Bx.mk (below_on hL4.out hb5)
  replace hs1 := Bx.mk (hs1.out.below hb5)
  clear ho2 hb5 HB4 hL4 hPe
  have hR := rot_any w5 p g mb cp xn D HB5.out.dk i bit
  by_cases hbad : i < 0 ∨ (pn : Int) ≤ i ∨ bit < 0 ∨ 1023 < bit
  · have key : decide (i < 0) = true ∨ (decide (i < 0) = false ∧ decide ((pn : Int) ≤ i) = true) ∨ (decide (i < 0) = false ∧ decide ((pn : Int) ≤ i) = false ∧ decide (bit < 0) = true) ∨ (decide (i < 0) = false ∧ decide ((pn : Int) ≤ i) = false ∧ decide (bit < 0) = false ∧ decide (1023 < bit) = true) := by simp; omega
    rw [rot_no (by rw [hDl.out]; exact hbad)] at hR
    replace hR := Bx.mk hR
    clear hbad
    rcases key with k1 | ⟨k1, k2⟩ | ⟨k1, k2, k3⟩ | ⟨k1, k2, k3, k4⟩
    all_goals
      go_wp2_with fail
      refine hR.out.mono ?_
      rintro _ w6 ⟨rfl, hd6, hc6⟩
      have HB6 := Bx.mk (HB5.out.ofD hd6 hc6)
      have hL6 := Bx.mk (HB5.out.belD hL5.out hL5.out.size hc6)
      clear hd6 hc6
      go_wp2_with fail
      refine (hS.out _).mono ?_
      rintro _ w7 ⟨rfl, hb7⟩
      have HB7 := Bx.mk (HB6.out.later hb7)
      have hL7 := Bx.mk (below_on hL6.out hb7)
      clear hb7
      have hT := Bx.mk (same_any w7 p g mb cp _ q gq cq D HB7.out.dk HB7.out.rk)
      go_wp2_with fail
      refine hT.out.mono ?_
      rintro _ w8 ⟨rfl, hb8⟩
      go_wp2_with fail
      go_ret
      exact ⟨rfl, below_on hL2.out (below_on hL7.out hb8)⟩
  obtain ⟨iN, rfl⟩ := Int.eq_ofNat_of_zero_le (show 0 ≤ i by omega)
  obtain ⟨bN, rfl⟩ := Int.eq_ofNat_of_zero_le (show 0 ≤ bit by omega)
  have k1 : decide ((iN : Int) < 0) = false := by simp
  have k2 : decide ((pn : Int) ≤ (iN : Int)) = false := by simp; omega
  have k3 : decide ((bN : Int) < 0) = false := by simp
  have k4 : decide (1023 < (bN : Int)) = false := by simp; omega
  have hi3 : iN < pn := by omega
  have hi2 : iN < D.p.length := by have := hDl.out; omega
  have hbt : bN < 1024 := by omega
  have hByte := Bx.mk fun (k j : Nat) (hk : k < D.p.length) (hj : j < 128) => rot_byte HB5.out.dk.ok hi2 hbt hk hj
  have hRR := Bx.mk (rot_rot HB5.out.dk.ok hi2 hbt)
  have hl2 : Bx ((D.rot (iN : Int) (bN : Int)).1.p.length = pn) := ⟨by rw [rot_yes hi2 hbt]; show (List.modify _ _ _).length = pn; rw [List.length_modify]; exact hDl.out⟩
  rw [show (D.rot (iN : Int) (bN : Int)).2 = 0 by rw [rot_yes hi2 hbt]] at hR
  clear hbad hi2
  generalize (D.rot (iN : Int) (bN : Int)).1 = D2 at *
  replace hR := Bx.mk hR
  go_wp2_with fail
  refine hR.out.mono ?_
  rintro _ w6 ⟨rfl, hd6, hc6⟩
  have HB6 := Bx.mk (HB5.out.ofD hd6 hc6)
  have hL6 := Bx.mk (HB5.out.belD hL5.out hL5.out.size hc6)
  replace hs1 := Bx.mk (hs1.out.chg hc6 hap1.out)
  replace hs2 := Bx.mk (hs2.out.chg hc6 (fun b o e _ => hap2.out b o e))
  clear hd6 hc6 hR HB5 hL5 hap1
  have hIm := Bx.mk (image_any w6 p g mb cp xn D2 HB6.out.dk)
  go_wp2_with fail
  refine hIm.out.mono ?_
  rintro _ w7 ⟨v3, rfl, ho3, hb7⟩
  obtain ⟨a3, c3, rfl, hs3⟩ := ho3.form
  rw [image_len hl2.out]
  have HB7 := Bx.mk (HB6.out.later hb7)
  have hL7 := Bx.mk (below_on hL6.out hb7)
  replace hs1 := Bx.mk (hs1.out.below hb7)
  replace hs2 := Bx.mk (hs2.out.below hb7)
  replace hs3 := Bx.mk hs3
  clear ho3 hb7 HB6 hL6 hIm
  have HI : Bx (Below w7.heap.size w7 w7) := ⟨Below.refl _ _⟩
  generalize hqn : bN / 8 = qN at *
  generalize hsn : bN % 8 = sN at *
  have hq8 : qN < 128 := by omega
  have hs8 : sN < 8 := by omega
  have e1 : (bN : Int) / 8 = (qN : Int) := by omega
  have e2 : (bN : Int) % 8 = (sN : Int) := by omega
  replace hqn := Bx.mk hqn
  replace hsn := Bx.mk hsn
  go_wp2_with fail
  go_loopw [109] (fun v109 wr => ∃ k : Nat, k ≤ pn ∧ v109 = .int .i64 k ∧ Bx (Below w7.heap.size w7 wr)) (fun v109 _ => pn - (intOf v109).toNat)
  case atStart => exact ⟨0, by omega, rfl, HI⟩
  case round =>
    clear HI
    obtain ⟨k, hk, rfl, HI⟩ := hrel
    by_cases hlt : k < pn
    · have t0 : decide ((k : Int) < (pn : Int)) = true := by simp; omega
      go_wp2_with fail
      go_loopw [112] (fun v112 wr => ∃ j : Nat, j ≤ 128 ∧ v112 = .int .i64 j ∧ Bx (Below w7.heap.size w7 wr)) (fun v112 _ => 128 - (intOf v112).toNat)
      case atStart => exact ⟨0, by omega, rfl, HI⟩
      case round =>
        clear HI
        obtain ⟨j, hj, rfl, HI⟩ := hrel
        by_cases hlt2 : j < 128
        · have t0 : decide ((j : Int) < 128) = true := by simp; omega
          obtain ⟨l, l2, y, hl1, hl2, hz1, hz2, hy1, hy2, hg1, hg2, hg3, hg4⟩ := hByte.out k j (by rw [hDl.out]; exact hlt) hlt2
          obtain ⟨b3, o3, rfl, hc3⟩ := (hs3.out.below HI.out) k _ (strs_at hl2)
          obtain ⟨b1, o1, rfl, hc1⟩ := (hs1.out.below HI.out) k _ (strs_at hl1)
          have hx2 := idx_str (P := Try.prog) 9 Try.underlying9 hy2 hg4
          have hx1 := idx_str (P := Try.prog) 9 Try.underlying9 hy1 hg1
          have y2 : (strOfNums l2).size = 128 := by rw [strOfNums_size]; exact hz2
          generalize strOfNums l2 = S2 at *
          generalize strOfNums l = S1 at *
          have c1 : ∀ dk osk, (grow (redrawn wr dk) osk).cell? ⟨b1, o1 + k, none⟩ = some (.string S1) := cell_regrown hc1
          have c3 : ∀ dk osk, (grow (redrawn wr dk) osk).cell? ⟨b3, o3 + k, none⟩ = some (.string S2) := cell_regrown hc3
          have q0 : (0 : Int) ≤ (k : Int) := by omega
          have q1 : (k : Int) < (pn : Int) := by omega
          have q2 : (0 : Int) ≤ (j : Int) := by omega
          have q3 : (j : Int) < 128 := by omega
          have x0 : bits .xor .u8 y 0 = y := xor_zero ⟨hg2, hg3⟩
          clear hl1 hl2 hz1 hz2 hy1 hy2 hg1 hg4 hc1 hc3
          by_cases g1 : k = iN
          · have t1 : ((k : Int) == (iN : Int)) = true := by simp; omega
            by_cases g2 : j = qN
            · have t2 : ((j : Int) == (qN : Int)) = true := by simp; omega
              rw [if_pos ⟨g1, g2⟩] at hx2
              clear g1 g2
              go_upto_region 22 with fail
              have e3 : (2 : Int) ^ sN % 256 = 2 ^ sN := by
                have : sN = 0 ∨ sN = 1 ∨ sN = 2 ∨ sN = 3 ∨ sN = 4 ∨ sN = 5 ∨ sN = 6 ∨ sN = 7 := by omega
                rcases this with rfl | rfl | rfl | rfl | rfl | rfl | rfl | rfl <;> decide
              rw [e3]
              clear e3
              refine wp_region_quiet_below (by kernel_rfl) (by kernel_rfl) ?_
              repeat (first | go_big_quiet_step (fail) | quiet_step (fail))
              refine wpQuiet_nil ?_
              rintro _ ⟨⟨dq, osq⟩, rfl⟩
              have HI2 : Bx (Below w7.heap.size w7 (grow (redrawn wr dq) osq)) := ⟨below_on HI.out (below_regrown wr dq osq)⟩
              clear c1 c3 HI hx1 hx2
              generalize grow (redrawn wr dq) osq = W2 at *
              go_wp2_with fail
              go_roundw
              case rel => exact ⟨j + 1, by omega, by go_num, HI2⟩
              case measure => simp [intOf]; omega
            · have t2 : ((j : Int) == (qN : Int)) = false := by simp; omega
              rw [if_neg (fun h => g2 h.2)] at hx2
              clear g1 g2
              go_upto_region 22 with fail
              refine wp_region_quiet_below (by kernel_rfl) (by kernel_rfl) ?_
              repeat (first | go_big_quiet_step (fail) | quiet_step (fail))
              refine wpQuiet_nil ?_
              rintro _ ⟨⟨dq, osq⟩, rfl⟩
              have HI2 : Bx (Below w7.heap.size w7 (grow (redrawn wr dq) osq)) := ⟨below_on HI.out (below_regrown wr dq osq)⟩
              clear c1 c3 HI hx1 hx2
              generalize grow (redrawn wr dq) osq = W2 at *
              go_wp2_with fail
              go_roundw
              case rel => exact ⟨j + 1, by omega, by go_num, HI2⟩
              case measure => simp [intOf]; omega
          · have t1 : ((k : Int) == (iN : Int)) = false := by simp; omega
            rw [if_neg (fun h => g1 h.1)] at hx2
            clear g1
            go_upto_region 22 with fail
            refine wp_region_quiet_below (by kernel_rfl) (by kernel_rfl) ?_
            repeat (first | go_big_quiet_step (fail) | quiet_step (fail))
            refine wpQuiet_nil ?_
            rintro _ ⟨⟨dq, osq⟩, rfl⟩
            have HI2 : Bx (Below w7.heap.size w7 (grow (redrawn wr dq) osq)) := ⟨below_on HI.out (below_regrown wr dq osq)⟩
            clear c1 c3 HI hx1 hx2
            generalize grow (redrawn wr dq) osq = W2 at *
            go_wp2_with fail
            go_roundw
            case rel => exact ⟨j + 1, by omega, by go_num, HI2⟩
            case measure => simp [intOf]; omega
        · have t0 : decide ((j : Int) < 128) = false := by simp; omega
          go_wp2_with fail
          go_roundw
          case rel => exact ⟨k + 1, by omega, by go_num, HI⟩
          case measure => simp [intOf]; omega
    · have t0 : decide ((k : Int) < (pn : Int)) = false := by simp; omega
      go_wp2_with fail
      have HB8 := Bx.mk (HB7.out.later HI.out)
      have hL8 := Bx.mk (below_on hL7.out HI.out)
      replace hs2 := Bx.mk (hs2.out.below HI.out)
      have hR := rot_any wr p g mb cp xn D2 HB8.out.dk iN bN
      rw [hRR.out] at hR
      refine hR.mono ?_
      rintro _ w8 ⟨rfl, hd8, hc8⟩
      have HB9 := Bx.mk (HB8.out.ofD hd8 hc8)
      have hL9 := Bx.mk (HB8.out.belD hL8.out hL8.out.size hc8)
      replace hs2 := Bx.mk (hs2.out.chg hc8 (fun b o e _ => hap2.out b o e))
      clear hd8 hc8 hR HB8 hL8 HB7 hL7
      go_wp2_with fail
      refine (hS.out _).mono ?_
      rintro _ w9 ⟨rfl, hb9⟩
      have HB10 := Bx.mk (HB9.out.later hb9)
      have hL10 := Bx.mk (below_on hL9.out hb9)
      replace hs2 := Bx.mk (hs2.out.below hb9)
      clear hb9 HB9 hL9
      have hT := Bx.mk (same_any w9 p g mb cp _ q gq cq D HB10.out.dk HB10.out.rk)
      go_wp2_with fail
      refine hT.out.mono ?_
      rintro _ w10 ⟨rfl, hb10⟩
      have HB11 := Bx.mk (HB10.out.later hb10)
      have hL11 := Bx.mk (below_on hL10.out hb10)
      replace hs2 := Bx.mk (hs2.out.below hb10)
      clear hb10 HB10 hL10 hT
      have hPe := Bx.mk (pend_any w10 p g mb cp xn D HB11.out.dk)
      go_wp2_with fail
      refine hPe.out.mono ?_
      rintro _ w11 ⟨v4, rfl, ho4, hb11⟩
      obtain ⟨a4, c4, rfl, hs4⟩ := ho4.form
      replace hs4 := Bx.mk hs4
      rw [hPL.out] at hs4
      rw [hPL.out]
      replace hs2 := Bx.mk (hs2.out.below hb11)
      have hSI := Bx.mk (sameInts_eq w11 a4 a2 c4 c2 PL (by have := hpl.out; omega) hs4.out hs2.out)
      go_wp2_with fail
      refine hSI.out.mono ?_
      rintro _ w12 ⟨rfl, hb12⟩
      go_wp2_with fail
      go_ret
      exact ⟨rfl, below_on hL2.out (below_on (below_on hL11.out hb11) hb12)⟩
theorem rots_true (w : World) (n : Int) (_ : -9223372036854775808 ≤ n ∧ n ≤ 9223372036854775807) (a : Option Addr) (cap : Nat) (xs : List Opn) (hl : xs.length ≤ 9223372036854775807) (h : Ops w w.heap.size a xs) (i : Int) (_ : -9223372036854775808 ≤ i ∧ i ≤ 9223372036854775807) (bit : Int) (_ : -9223372036854775808 ≤ bit ∧ bit ≤ 9223372036854775807) :
    Calls Try.prog 6 #[.int .i64 n, .slice a xs.length cap, .int .i64 i, .int .i64 bit] w (TruePost w) := rots_any w n _ a cap xs hl h i bit
end Go.Proofs.Ytaajkhdmeghnbaa
