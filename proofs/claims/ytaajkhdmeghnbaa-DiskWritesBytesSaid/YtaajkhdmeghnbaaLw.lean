/- The law's walk: DiskWritesBytes. -/
import Derived.Test.YtaajkhdmeghnbaaLk
import Derived.Test.YtaajkhdmeghnbaaLwp
namespace Go.Proofs.Ytaajkhdmeghnbaa
open Go.RowKit Go.Sort

set_option maxRecDepth 100000 in
theorem writes_any (w : World) (n : Int) (B : Nat) (a : Option Addr) (cap : Nat) (xs : List Opn) (hl : xs.length ≤ 9223372036854775807) (h : Ops w B a xs) (i at_ : Int) (hat : -9223372036854775808 ≤ at_ ∧ at_ ≤ 9223372036854775807) (t : List Int) (hbt : Byt t) (hlt : t.length ≤ 9223372036854775807) :
    Calls Try.prog 7 #[.int .i64 n, .slice a xs.length cap, .int .i64 i, .int .i64 at_, .string (strOfNums t)] w (TruePost w) := by
  have hS := Bx.mk fun (W : World) => sanity_true W
  have hF := Bx.mk (few_any w B a cap xs hl h)
  have H := Bx.mk h
  have HB := Bx.mk h.lt
  have hSz : (strOfNums t).size = t.length := strOfNums_size t
  generalize hSt : strOfNums t = S at *
  replace hSt := Bx.mk hSt
  generalize htn : t.length = tn at *
  replace htn := Bx.mk htn
  replace hbt := Bx.mk hbt
  clear h
  generalize hfe : fewB xs = fe at *
  replace hfe := Bx.mk hfe
  generalize hxn : xs.length = xn at *
  replace hxn := Bx.mk hxn
  by_cases hA : 40 < n
  · have t0 : decide (40 < n) = true := by simp; omega
    go_enter Try.func7, Try.ntmps7
    go_wp2_with (go_at_call 10; refine (hS.out _).mono ?_; rintro _ w1 ⟨rfl, hb1⟩)
    go_ret
    exact ⟨rfl, hb1⟩
  have t0 : decide (40 < n) = false := by simp; omega
  cases fe with
  | false =>
    go_enter Try.func7, Try.ntmps7
    go_wp2_with (first
      | (go_at_call 10; refine (hS.out _).mono ?_; rintro _ w2 ⟨rfl, hb2⟩)
      | (go_at_call 9; refine hF.out.mono ?_; rintro _ w1 ⟨rfl, hb1⟩))
    go_ret
    exact ⟨rfl, below_on hb1 hb2⟩
  | true =>
  by_cases hq : 300 < tn
  · have tq : decide (300 < (tn : Int)) = true := by simp; omega
    go_enter Try.func7, Try.ntmps7
    go_wp2_with (first
      | (go_at_call 10; refine (hS.out _).mono ?_; rintro _ w2 ⟨rfl, hb2⟩)
      | (go_at_call 9; refine hF.out.mono ?_; rintro _ w1 ⟨rfl, hb1⟩))
    go_ret
    exact ⟨rfl, below_on hb1 hb2⟩
  have tq : decide (300 < (tn : Int)) = false := by simp; omega
  by_cases hn : n < 1
  · have t1 : decide (n < 1) = true := by simp; omega
    have hP := Bx.mk fun (W : World) (v : Value) => played_no W n v hn
    go_enter Try.func7, Try.ntmps7
    go_wp2_with (first
      | (go_at_call 9; refine hF.out.mono ?_; rintro _ w1 ⟨rfl, hb1⟩)
      | (go_at_call 16; refine (hP.out _ _).mono ?_; rintro _ _ ⟨rfl, rfl⟩)
      | (go_at_call 10; refine (hS.out _).mono ?_; rintro _ w3 ⟨rfl, hb3⟩))
    go_ret
    exact ⟨rfl, below_on hb1 hb3⟩
  obtain ⟨pn, rfl⟩ := Int.eq_ofNat_of_zero_le (show 0 ≤ n by omega)
  have h1 : 1 ≤ pn := by omega
  have h2 : pn ≤ 40 := by omega
  have hP := Bx.mk fun (W : World) (hW : Ops W B a xs) => played_yes W pn h1 h2 B a cap xs hfe.out hW
  rw [hxn.out] at hP
  have hlen : xn ≤ 40 := by have := few_len hfe.out; have := hxn.out; omega
  have hDl := Bx.mk (playN_len pn xs)
  go_enter Try.func7, Try.ntmps7
  go_wp2_with fail
  refine hF.out.mono ?_
  rintro _ w2 ⟨rfl, hb1⟩
  have hL2 : Bx (Below w.heap.size w w2) := ⟨hb1⟩
  clear hb1
  go_wp2_with fail
  refine (hP.out _ (H.out.below (hL2.out.mono HB.out))).mono ?_
  rintro _ w3 ⟨p, g, mb, cp, q, gq, cq, rfl, hBo, hb3⟩
  replace hBo := Bx.mk hBo
  rw [hxn.out] at hBo
  have hL3 : Bx (Below w2.heap.size w2 w3) := ⟨hb3⟩
  clear hb3 hP hF H hfe
  generalize playN (mkDk pn) xs = D at *
  have hz := hDl.out
  have hIm := Bx.mk (image_any w3 p g mb cp xn D hBo.out.dk)
  go_wp2_with fail
  refine hIm.out.mono ?_
  rintro _ w4 ⟨v1, rfl, ho1, hb4⟩
  obtain ⟨a1, c1, rfl, hs1⟩ := ho1.form
  have hap1 : Bx (∀ b o, a1 = some ⟨b, o, none⟩ → ¬ In3 p g mb b) := ⟨fun b o e hk => hBo.out.new3 (ho1.lt b (by rw [e]; rfl)).1 hk⟩
  rw [image_len hDl.out]
  have HB4 := Bx.mk (hBo.out.later hb4)
  have hL4 := Bx.mk (below_on hL3.out hb4)
  replace hs1 := Bx.mk hs1
  clear ho1 hb4 hBo hL3 hIm
  have hRd := Bx.mk (reads_len D pn)
  have hRa := Bx.mk fun (k : Nat) (hk : k < pn) => reads_at D hk
  have hWy := Bx.mk (write_gives HB4.out.dk.ok i at_ t)
  rw [hDl.out, htn.out] at hWy
  clear hz
  generalize D.reads pn = L at *
  have HI : Bx (ImI w4 (L.take 0) (.slice none 0 0) w4) := ⟨by rw [List.take_zero]; exact Ownv.nil _ _ _, Below.refl _ _⟩
  go_wp2_with fail
  go_loopw [15, 54] (fun v15 v54 wr => ∃ k : Nat, k ≤ pn ∧ v54 = .int .i64 k ∧ Bx (ImI w4 (L.take k) v15 wr)) (fun _ v54 _ => pn - (intOf v54).toNat)
  case atStart => exact ⟨0, by omega, rfl, HI⟩
  case round =>
    clear HI
    obtain ⟨k, hk, rfl, HI⟩ := hrel
    by_cases hlt2 : k < pn
    · have t0 : decide ((k : Int) < (pn : Int)) = true := by simp; omega
      have hR := Bx.mk (read_any wr p g mb cp xn D (HB4.out.dk.later HI.out.bel) (k : Int))
      have htk := Bx.mk (take_snoc (hRa.out k hlt2))
      generalize D.read (k : Int) = r at *
      have hlen : Bx ((strs (L.take k)).length ≤ 1000000000) := ⟨by rw [strs_length, List.length_take]; omega⟩
      go_upto_region 12 with (go_at_call 18; refine hR.out.mono ?_; rintro _ w5 ⟨rfl, hb5⟩; replace hb5 := Bx.mk hb5)
      have HI1 : Bx (ImI w4 (L.take k) u15 w5) := ⟨HI.out.own.below hb5.out, HI.out.bel.trans (hb5.out.mono HI.out.bel.size)⟩
      clear HI hb5 hR
      go_wp2_with (at_builtin; refine wpList_append_val rfl _ _ _ rfl 9 (.string ⟨#[]⟩) 16 (by decide) Try.underlying43 (by kernel_rfl) rfl w4.heap.size _ (strs (L.take k)) rfl (HI1.out.own.alloc _) (.string (strOfNums r.1)) rfl ⟨w5.heap.size, 0, none⟩ 1 rfl (cell_new _ _ _) hlen.out (le_alloc HI1.out.bel.size _) ?_)
      intro v' w6 ho hg hv
      have HI4 : Bx (ImI w4 (L.take (k + 1)) v' w6) := by
        rw [htk.out]
        refine ⟨⟨by rw [strs_snoc]; exact ho, ?_⟩⟩
        have h2 : Below w4.heap.size w4 (w5.alloc (.cells #[.string (strOfNums r.1)] 9)) := HI1.out.bel.trans (((Below.refl _ _).alloc (Nat.le_refl _) _).mono HI1.out.bel.size)
        exact h2.trans ((Chg.ofRow hg).below h2.size (fun j hj e => by have := (HI1.out.own.lt j e).1; omega))
      clear ho hg hv HI1
      go_wp2_with fail
      go_roundw
      case rel => exact ⟨k + 1, by omega, by go_num, HI4⟩
      case measure => simp [intOf]; omega
    · have t0 : decide ((k : Int) < (pn : Int)) = false := by simp; omega
      obtain rfl : k = pn := by omega
      have hte : L.take k = L := List.take_of_length_le (by rw [hRd.out]; omega)
      rw [hte] at HI
      clear hte hRa
      obtain ⟨ab, cb, rfl, hsb⟩ := HI.out.own.form
      rw [strs_length, hRd.out]
      have hab : Bx (∀ b o, ab = some ⟨b, o, none⟩ → ¬ In3 p g mb b) := ⟨fun b o e hk => HB4.out.new3 (HI.out.own.lt b (by rw [e]; rfl)).1 hk⟩
      replace hsb := Bx.mk hsb
      replace hs1 := Bx.mk (hs1.out.below HI.out.bel)
      have HB5 := Bx.mk (HB4.out.later HI.out.bel)
      have hL5 := Bx.mk (below_on hL4.out HI.out.bel)
      clear HI HB4 hL4
      have hW := write_any wr p g mb cp xn D HB5.out.dk (by omega) i at_ t hbt.out (by have := htn.out; omega) hat
      rw [hSt.out] at hW
      rcases hWy.out with ⟨D6, f1, f2, f3⟩ | ⟨f1, f2, f3⟩ | ⟨D6, i', o, f1, rfl, rfl, f2, f3, f4, f5⟩
      · rw [f1] at hW
        replace hW := Bx.mk hW
        replace f2 := Bx.mk f2
        replace f3 := Bx.mk f3
        clear f1 hWy
        go_wp2_with fail
        refine hW.out.mono ?_
        rintro _ w6 ⟨rfl, hd6, hc6⟩
        have HB6 := Bx.mk (HB5.out.ofD hd6 hc6)
        have hL6 := Bx.mk (HB5.out.belD hL5.out hL5.out.size hc6)
        replace hs1 := Bx.mk (hs1.out.chg hc6 hap1.out)
        clear hd6 hc6
        go_wp2_with fail
        refine (hS.out _).mono ?_
        rintro _ w7 ⟨rfl, hb7⟩
        have HB7 := Bx.mk (HB6.out.later hb7)
        have hL7 := Bx.mk (below_on hL6.out hb7)
        replace hs1 := Bx.mk (hs1.out.below hb7)
        have hU := up_any w7 p g mb cp _ D6 HB7.out.dk
        rw [f2.out] at hU
        go_wp2_with fail
        refine hU.mono ?_
        rintro _ _ ⟨rfl, rfl⟩
        have hI2 := Bx.mk (image_any w7 p g mb cp _ D6 HB7.out.dk)
        go_wp2_with fail
        refine hI2.out.mono ?_
        rintro _ w8 ⟨v3, rfl, ho3, hb8⟩
        obtain ⟨a3, c3, rfl, hs3⟩ := ho3.form
        rw [f3.out] at hs3
        rw [f3.out, image_len hDl.out]
        have hT := sameTexts_eq w8 a3 a1 c3 c1 D.image (by have := image_len hDl.out; rw [strs_length] at this; omega) hs3 (hs1.out.below hb8)
        rw [show D.image.length = k by have := image_len hDl.out; rwa [strs_length] at this] at hT
        replace hT := Bx.mk hT
        replace hs3 := Bx.mk hs3
        go_wp2_with fail
        refine hT.out.mono ?_
        rintro _ w9 ⟨rfl, hb9⟩
        go_wp2_with fail
        go_ret
        exact ⟨rfl, below_on hL2.out (below_on (below_on hL7.out hb8) hb9)⟩
      · have key : decide (i < 0) = true ∨ (decide (i < 0) = false ∧ decide ((k : Int) ≤ i) = true) ∨ (decide (i < 0) = false ∧ decide ((k : Int) ≤ i) = false ∧ decide (at_ < 0) = true) ∨ (decide (i < 0) = false ∧ decide ((k : Int) ≤ i) = false ∧ decide (at_ < 0) = false ∧ decide (128 < wrap64 (at_ + (tn : Int))) = true) ∨
            (decide (i < 0) = false ∧ decide ((k : Int) ≤ i) = false ∧ decide (at_ < 0) = false ∧ decide (128 < wrap64 (at_ + (tn : Int))) = false ∧ decide (128 < at_) = true) := by
          by_cases h9 : at_ ≤ 128 ∧ 0 ≤ at_
          · rw [IntWalk.wrap64_in (at_ + (tn : Int)) (by omega)]
            simp; omega
          · generalize wrap64 (at_ + (tn : Int)) = z
            simp; omega
        rw [f1] at hW
        replace hW := Bx.mk hW
        replace f2 := Bx.mk f2
        replace f3 := Bx.mk f3
        clear f1 hWy
        rcases key with k1 | ⟨k1, k2⟩ | ⟨k1, k2, k3⟩ | ⟨k1, k2, k3, k4⟩ | ⟨k1, k2, k3, k4, k5⟩
        all_goals
          go_wp2_with fail
          refine hW.out.mono ?_
          rintro _ w6 ⟨rfl, hd6, hc6⟩
          have HB6 := Bx.mk (HB5.out.ofD hd6 hc6)
          have hL6 := Bx.mk (HB5.out.belD hL5.out hL5.out.size hc6)
          replace hs1 := Bx.mk (hs1.out.chg hc6 hap1.out)
          clear hd6 hc6
          go_wp2_with fail
          refine (hS.out _).mono ?_
          rintro _ w7 ⟨rfl, hb7⟩
          have HB7 := Bx.mk (HB6.out.later hb7)
          have hL7 := Bx.mk (below_on hL6.out hb7)
          replace hs1 := Bx.mk (hs1.out.below hb7)
          have hI2 := Bx.mk (image_any w7 p g mb cp _ D HB7.out.dk)
          go_wp2_with fail
          refine hI2.out.mono ?_
          rintro _ w8 ⟨v3, rfl, ho3, hb8⟩
          obtain ⟨a3, c3, rfl, hs3⟩ := ho3.form
          rw [image_len hDl.out]
          have hT := sameTexts_eq w8 a3 a1 c3 c1 D.image (by have := image_len hDl.out; rw [strs_length] at this; omega) hs3 (hs1.out.below hb8)
          rw [show D.image.length = k by have := image_len hDl.out; rwa [strs_length] at this] at hT
          replace hT := Bx.mk hT
          replace hs3 := Bx.mk hs3
          go_wp2_with fail
          refine hT.out.mono ?_
          rintro _ w9 ⟨rfl, hb9⟩
          go_wp2_with fail
          go_ret
          exact ⟨rfl, below_on hL2.out (below_on (below_on hL7.out hb8) hb9)⟩
      · rw [f1] at hW
        replace hW := Bx.mk hW
        replace f4 := Bx.mk f4
        replace f5 := Bx.mk f5
        have hl6 : Bx ((strs D6.image).length = k) := ⟨by rw [f4.out]; exact image_len hDl.out⟩
        clear f1 hWy
        go_wp2_with fail
        refine hW.out.mono ?_
        rintro _ w6 ⟨rfl, hd6, hc6⟩
        have HB6 := Bx.mk (HB5.out.ofD hd6 hc6)
        have hL6 := Bx.mk (HB5.out.belD hL5.out hL5.out.size hc6)
        replace hs1 := Bx.mk (hs1.out.chg hc6 hap1.out)
        replace hsb := Bx.mk (hsb.out.chg hc6 hab.out)
        clear hd6 hc6 hW HB5 hL5
        have HI : Bx (Below w6.heap.size w6 w6) := ⟨Below.refl _ _⟩
        go_wp2_with fail
        go_loopw [120] (fun v120 wr => ∃ j : Nat, j ≤ k ∧ v120 = .int .i64 j ∧ Bx (Below w6.heap.size w6 wr)) (fun v120 _ => k - (intOf v120).toNat)
        case atStart => exact ⟨0, by omega, rfl, HI⟩
        case round =>
          clear HI
          obtain ⟨j, hj, rfl, HI⟩ := hrel
          by_cases hlt3 : j < k
          · have t0 : decide ((j : Int) < (k : Int)) = true := by simp; omega
            have hR := read_any wr p g mb cp _ D6 (HB6.out.dk.later HI.out) (j : Int)
            obtain ⟨l, hlj⟩ : ∃ l, L[j]? = some l := ⟨_, List.getElem?_eq_getElem (by rw [hRd.out]; exact hlt3)⟩
            obtain ⟨hl1, hl2⟩ := f5.out j l hlj
            rw [hl2] at hR
            replace hR := Bx.mk hR
            have hlo := Bx.mk hlj
            have hll := Bx.mk hl1
            clear hl2 hl1 hlj
            have q0 : (0 : Int) ≤ (j : Int) := by omega
            have q1 : (j : Int) < (k : Int) := by omega
            go_upto_region 21 with (go_at_call 18; refine hR.out.mono ?_; rintro _ w7 ⟨rfl, hb7⟩; replace hb7 := Bx.mk hb7)
            obtain ⟨b9, o9, rfl, hc9⟩ := ((hsb.out.below HI.out).below hb7.out) j _ (strs_at hlo.out)
            have HI7 : Bx (Below w6.heap.size w6 w7) := ⟨below_on HI.out hb7.out⟩
            have y1 : (strOfNums l).size = 128 := by rw [strOfNums_size]; exact hll.out
            have y2 : ((128 : Int) == 128) = true := by simp
            clear HI hb7 hR
            by_cases g1 : j = i'
            · have t1 : ((j : Int) == (i' : Int)) = true := by simp; omega
              rw [if_pos g1]
              have z1 := slice_to (P := Try.prog) 9 Try.underlying9 l o (by rw [hll.out]; omega)
              have z2 : (strOfNums l).extract (o + tn) 128 = strOfNums (l.drop (o + tn)) := by
                rw [str_extract, List.take_of_length_le (by rw [List.length_drop, hll.out]; omega)]
              have hp : Bx (strOfNums (put l o t) = strOfNums (l.take o) ++ S ++ strOfNums (l.drop (o + tn))) := ⟨by
                rw [← hSt.out, str_append, str_append]
                unfold put
                rw [htn.out]⟩
              rw [hp.out]
              have y3 : (strOfNums (l.take o)).size = o := by rw [strOfNums_size, List.length_take, hll.out]; omega
              have y4 : (strOfNums (l.drop (o + tn))).size = 128 - (o + tn) := by rw [strOfNums_size, List.length_drop, hll.out]
              clear hp g1
              generalize strOfNums (l.take o) = S3 at *
              generalize strOfNums (l.drop (o + tn)) = S4 at *
              generalize strOfNums l = S5 at *
              go_upto_region 23 with fail
              have q4 : (0 : Int) ≤ (o : Int) := by omega
              have q5 : (o : Int) ≤ 128 := by omega
              have q6 : (0 : Int) ≤ (o : Int) + (tn : Int) := by omega
              have q7 : (o : Int) + (tn : Int) ≤ 128 := by omega
              have w1 : IntKind.i64.wrap ((o : Int) + (tn : Int)) = ((o + tn : Nat) : Int) := by rw [IntWalk.i64_in _ (by omega)]; omega
              have y6 : S3.size + S.size ≤ 1000 := by omega
              have y7 : (S3 ++ S).size + S4.size ≤ 1000 := by rw [ByteArray.size_append]; omega
              refine wp_region_quiet_below (by kernel_rfl) (by kernel_rfl) ?_
              repeat (first | go_big_quiet_step (fail) | quiet_step (fail))
              refine wpQuiet_nil ?_
              rintro _ ⟨⟨dq, osq⟩, rfl⟩
              have HI8 : Bx (Below w6.heap.size w6 (grow (redrawn w7 dq) osq)) := ⟨below_on HI7.out (below_regrown w7 dq osq)⟩
              clear hc9 HI7 w1
              generalize grow (redrawn w7 dq) osq = W2 at *
              go_wp2_with fail
              go_roundw
              case rel => exact ⟨j + 1, by omega, by go_num, HI8⟩
              case measure => simp [intOf]; omega
            · have t1 : ((j : Int) == (i' : Int)) = false := by simp; omega
              rw [if_neg g1]
              clear g1
              generalize strOfNums l = S5 at *
              have t3 : (S5.toList != S5.toList) = false := by simp
              go_wp2_with fail
              go_roundw
              case rel => exact ⟨j + 1, by omega, by go_num, HI7⟩
              case measure => simp [intOf]; omega
          · have t0 : decide ((j : Int) < (k : Int)) = false := by simp; omega
            go_wp2_with fail
            refine (hS.out _).mono ?_
            rintro _ w7 ⟨rfl, hb7⟩
            have HB7 := Bx.mk ((HB6.out.later HI.out).later hb7)
            have hL7 := Bx.mk (below_on (below_on hL6.out HI.out) hb7)
            replace hs1 := Bx.mk ((hs1.out.below HI.out).below hb7)
            have hI2 := Bx.mk (image_any w7 p g mb cp _ D6 HB7.out.dk)
            go_wp2_with fail
            refine hI2.out.mono ?_
            rintro _ w8 ⟨v3, rfl, ho3, hb8⟩
            obtain ⟨a3, c3, rfl, hs3⟩ := ho3.form
            rw [f4.out] at hs3
            rw [hl6.out]
            have hT := sameTexts_eq w8 a3 a1 c3 c1 D.image (by have := image_len hDl.out; rw [strs_length] at this; omega) hs3 (hs1.out.below hb8)
            rw [show D.image.length = k by have := image_len hDl.out; rwa [strs_length] at this] at hT
            replace hT := Bx.mk hT
            replace hs3 := Bx.mk hs3
            go_wp2_with fail
            refine hT.out.mono ?_
            rintro _ w9 ⟨rfl, hb9⟩
            go_wp2_with fail
            go_ret
            exact ⟨rfl, below_on hL2.out (below_on (below_on hL7.out hb8) hb9)⟩
theorem writes_true (w : World) (n : Int) (_ : -9223372036854775808 ≤ n ∧ n ≤ 9223372036854775807) (a : Option Addr) (cap : Nat) (xs : List Opn) (hl : xs.length ≤ 9223372036854775807) (h : Ops w w.heap.size a xs) (i : Int) (_ : -9223372036854775808 ≤ i ∧ i ≤ 9223372036854775807) (at_ : Int) (hat : -9223372036854775808 ≤ at_ ∧ at_ ≤ 9223372036854775807) (s : ByteArray) (hs : s.size ≤ maxLen) :
    Calls Try.prog 7 #[.int .i64 n, .slice a xs.length cap, .int .i64 i, .int .i64 at_, .string s] w (TruePost w) := by
  rw [← str_bs s]
  exact writes_any w n _ a cap xs hl h i at_ hat (bs s) (bs_byt s) (by rw [bs_length]; unfold maxLen at hs; omega)
end Go.Proofs.Ytaajkhdmeghnbaa
