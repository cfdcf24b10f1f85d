/- The law's walk: DiskClones. -/
import Derived.Test.YtaajkhdmeghnbaaOne
namespace Go.Proofs.Ytaajkhdmeghnbaa
open Go.RowKit Go.Sort

section
variable {B p g mb cap m q gq cq : Nat} {d r d2 : Dk} {w w' : World} {S : Nat → Prop}
theorem Both.chg (h : Both B p g mb cap m q gq cq d r w) (hc : Chg S w w') (hn : ∀ k, In3 p g mb k ∨ In2 q gq k → ¬ S k) : Both B p g mb cap m q gq cq d r w' :=
  ⟨h.dk.chg hc (fun k hk => hn k (.inl hk)), h.rk.chg hc (fun k hk => hn k (.inr hk)), h.ap, h.lo3, h.lo2⟩
theorem Both.not3 (h : Both B p g mb cap m q gq cq d r w) {b : Nat} (hb : b < B) : ¬ In3 p g mb b := fun e => by have := h.lo3 b e; omega
theorem Both.not2 (h : Both B p g mb cap m q gq cq d r w) {b : Nat} (hb : b < B) : ¬ In2 q gq b := fun e => by have := h.lo2 b e; omega
theorem Both.new3 (h : Both B p g mb cap m q gq cq d r w) {b : Nat} (hb : w.heap.size ≤ b) : ¬ In3 p g mb b := fun e => by have := h.dk.lt; rcases e with rfl | rfl | rfl <;> omega
theorem Both.new2 (h : Both B p g mb cap m q gq cq d r w) {b : Nat} (hb : w.heap.size ≤ b) : ¬ In2 q gq b := fun e => by have := h.rk.lt; rcases e with rfl | rfl <;> omega
end
/-- both disks and their clones, all apart, all in blocks from B on -/
structure Four (B p g mb cap m q gq cq p' g' mb' cap' m' q' gq' cq' : Nat) (d r d' r' : Dk) (w : World) : Prop where
  a : Both B p g mb cap m q gq cq d r w
  b : Both B p' g' mb' cap' m' q' gq' cq' d' r' w
  ap : ∀ k, In3 p g mb k ∨ In2 q gq k → ¬ (In3 p' g' mb' k ∨ In2 q' gq' k)
section
variable {B p g mb cap m q gq cq p' g' mb' cap' m' q' gq' cq' m2 : Nat} {d r d' r' d2 : Dk} {w w' : World}
theorem Four.later (h : Four B p g mb cap m q gq cq p' g' mb' cap' m' q' gq' cq' d r d' r' w) (hb : Below w.heap.size w w') : Four B p g mb cap m q gq cq p' g' mb' cap' m' q' gq' cq' d r d' r' w' := ⟨h.a.later hb, h.b.later hb, h.ap⟩
theorem Four.d1 (h : Four B p g mb cap m q gq cq p' g' mb' cap' m' q' gq' cq' d r d' r' w) (hd : DkIs w' p g mb cap m2 d2) (hc : Chg (In3 p g mb) w w') : Four B p g mb cap m2 q gq cq p' g' mb' cap' m' q' gq' cq' d2 r d' r' w' :=
  ⟨h.a.ofD hd hc, h.b.chg hc (fun k hk e => h.ap k (.inl e) hk), h.ap⟩
theorem Four.r1 (h : Four B p g mb cap m q gq cq p' g' mb' cap' m' q' gq' cq' d r d' r' w) (hd : RkIs w' q gq cq d2) (hc : Chg (In2 q gq) w w') : Four B p g mb cap m q gq cq p' g' mb' cap' m' q' gq' cq' d d2 d' r' w' :=
  ⟨h.a.ofR hd hc, h.b.chg hc (fun k hk e => h.ap k (.inr e) hk), h.ap⟩
theorem Four.c2 (h : Four B p g mb cap m q gq cq p' g' mb' cap' m' q' gq' cq' d r d' r' w) (hd : DkIs w' p' g' mb' cap' m2 d2) (hc : Chg (In3 p' g' mb') w w') : Four B p g mb cap m q gq cq p' g' mb' cap' m2 q' gq' cq' d r d2 r' w' :=
  ⟨h.a.chg hc (fun k hk e => h.ap k hk (.inl e)), h.b.ofD hd hc, h.ap⟩
theorem Four.r2 (h : Four B p g mb cap m q gq cq p' g' mb' cap' m' q' gq' cq' d r d' r' w) (hd : RkIs w' q' gq' cq' d2) (hc : Chg (In2 q' gq') w w') : Four B p g mb cap m q gq cq p' g' mb' cap' m' q' gq' cq' d r d' d2 w' :=
  ⟨h.a.chg hc (fun k hk e => h.ap k hk (.inr e)), h.b.ofR hd hc, h.ap⟩
end
set_option maxRecDepth 100000 in
theorem clones_any (w : World) (n : Int) (B : Nat) (a : Option Addr) (cap : Nat) (xs : List Opn) (hl : xs.length ≤ 9223372036854775807) (h : Ops w B a xs) (a2 : Option Addr) (cap2 : Nat) (ys : List Opn) (hl2 : ys.length ≤ 9223372036854775807) (h2 : Ops w B a2 ys) :
    Calls Try.prog 8 #[.int .i64 n, .slice a xs.length cap, .slice a2 ys.length cap2] w (TruePost w) := by
  have hS := Bx.mk fun (W : World) => sanity_true W
  have hF := Bx.mk (few_any w B a cap xs hl h)
  have hF2 := Bx.mk fun (W : World) (hb : Below B w W) => few_any W B a2 cap2 ys hl2 (h2.below hb)
  have H := Bx.mk h
  have H2 := Bx.mk h2
  have HB := Bx.mk h.lt
  clear h h2
  generalize hfe : fewB xs = fe at *
  replace hfe := Bx.mk hfe
  generalize hfm : fewB ys = fm at *
  replace hfm := Bx.mk hfm
  generalize hxn : xs.length = xn at *
  replace hxn := Bx.mk hxn
  generalize hyn : ys.length = yn at *
  replace hyn := Bx.mk hyn
  by_cases hA : 40 < n
  · have t0 : decide (40 < n) = true := by simp; omega
    go_enter Try.func8, Try.ntmps8
    go_wp2_with (go_at_call 10; refine (hS.out _).mono ?_; rintro _ w1 ⟨rfl, hb1⟩)
    go_ret
    exact ⟨rfl, hb1⟩
  have t0 : decide (40 < n) = false := by simp; omega
  cases fe with
  | false =>
    go_enter Try.func8, Try.ntmps8
    go_wp2_with (first
      | (go_at_call 10; refine (hS.out _).mono ?_; rintro _ w2 ⟨rfl, hb2⟩)
      | (go_at_call 9; refine hF.out.mono ?_; rintro _ w1 ⟨rfl, hb1⟩))
    go_ret
    exact ⟨rfl, below_on hb1 hb2⟩
  | true =>
  cases fm with
  | false =>
    go_enter Try.func8, Try.ntmps8
    go_wp2_with fail
    refine hF.out.mono ?_
    rintro _ w1 ⟨rfl, hb1⟩
    replace hb1 := Bx.mk hb1
    go_wp2_with fail
    refine (hF2.out _ (hb1.out.mono HB.out)).mono ?_
    rintro _ w2 ⟨rfl, hb2⟩
    replace hb2 := Bx.mk hb2
    go_wp2_with (go_at_call 10; refine (hS.out _).mono ?_; rintro _ w3 ⟨rfl, hb3⟩)
    go_ret
    exact ⟨rfl, below_on (below_on hb1.out hb2.out) hb3⟩
  | true =>
  by_cases hn : n < 1
  · have t1 : decide (n < 1) = true := by simp; omega
    have hP := Bx.mk fun (W : World) (v : Value) => played_no W n v hn
    go_enter Try.func8, Try.ntmps8
    go_wp2_with fail
    refine hF.out.mono ?_
    rintro _ w1 ⟨rfl, hb1⟩
    replace hb1 := Bx.mk hb1
    go_wp2_with fail
    refine (hF2.out _ (hb1.out.mono HB.out)).mono ?_
    rintro _ w2 ⟨rfl, hb2⟩
    replace hb2 := Bx.mk hb2
    go_wp2_with (first
      | (go_at_call 16; refine (hP.out _ _).mono ?_; rintro _ _ ⟨rfl, rfl⟩)
      | (go_at_call 10; refine (hS.out _).mono ?_; rintro _ w3 ⟨rfl, hb3⟩))
    go_ret
    exact ⟨rfl, below_on (below_on hb1.out hb2.out) hb3⟩
  obtain ⟨pn, rfl⟩ := Int.eq_ofNat_of_zero_le (show 0 ≤ n by omega)
  have h1 : 1 ≤ pn := by omega
  have h2 : pn ≤ 40 := by omega
  have hP := Bx.mk fun (W : World) (hW : Ops W B a xs) => played_yes W pn h1 h2 B a cap xs hfe.out hW
  rw [hxn.out] at hP
  have hlen : xn ≤ 40 := by have := few_len hfe.out; have := hxn.out; omega
  have hlen2 : yn ≤ 40 := by have := few_len hfm.out; have := hyn.out; omega
  have hOk := Bx.mk fun (x : Opn) (hx : x ∈ ys) => opn_ok H2.out hfm.out hx
  go_enter Try.func8, Try.ntmps8
  go_wp2_with fail
  refine hF.out.mono ?_
  rintro _ w1 ⟨rfl, hb1⟩
  replace hb1 := Bx.mk hb1
  go_wp2_with fail
  refine (hF2.out _ (hb1.out.mono HB.out)).mono ?_
  rintro _ w2 ⟨rfl, hb2⟩
  have hL2 : Bx (Below w.heap.size w w2) := ⟨below_on hb1.out hb2⟩
  clear hb1 hb2
  go_wp2_with fail
  refine (hP.out _ (H.out.below (hL2.out.mono HB.out))).mono ?_
  rintro _ w3 ⟨p, g, mb, cp, q, gq, cq, rfl, hBo, hb3⟩
  replace hBo := Bx.mk hBo
  rw [hxn.out] at hBo
  have hL3 : Bx (Below w2.heap.size w2 w3) := ⟨hb3⟩
  clear hb3 hP hF hF2
  generalize playN (mkDk pn) xs = D at *
  have hC := Bx.mk (clone_any w3 p g mb cp xn D hBo.out.dk (by omega))
  go_wp2_with fail
  refine hC.out.mono ?_
  rintro _ w4 ⟨p', g', mb', cp', rfl, hd4, hp4, hg4, hm4, hb4⟩
  replace hd4 := Bx.mk hd4
  replace hp4 := Bx.mk hp4
  replace hg4 := Bx.mk hg4
  replace hm4 := Bx.mk hm4
  replace hb4 := Bx.mk hb4
  have hT := Bx.mk (same_any w4 p' g' mb' cp' xn q gq cq D hd4.out (hBo.out.rk.later hb4.out))
  go_wp2_with fail
  refine hT.out.mono ?_
  rintro _ w5 ⟨rfl, hb5⟩
  replace hb5 := Bx.mk hb5
  have hC2 := Bx.mk (rclone_any w5 q gq cq D ((hBo.out.rk.later hb4.out).later hb5.out))
  go_wp2_with fail
  refine hC2.out.mono ?_
  rintro _ w6 ⟨q', gq', cq', rfl, hr6, hq6, hgq6, hb6⟩
  replace hb6 := Bx.mk hb6
  have HF : Bx (Four w2.heap.size p g mb cp (xn + 0) q gq cq p' g' mb' cp' xn q' gq' cq' (playN D (ys.take 0)) (playN D (ys.take 0)) D D w6) := by
    rw [List.take_zero]
    have l3 := hBo.out.dk.lt
    have l3r := hBo.out.rk.lt
    have l4 := hd4.out.lt
    have s2 := hL3.out.size
    have s4 := hb4.out.size
    have s5 := hb5.out.size
    have x1 := hp4.out
    have x2 := hg4.out
    have x3 := hm4.out
    refine ⟨⟨((hBo.out.later hb4.out).later hb5.out).later hb6.out, ⟨(hd4.out.later hb5.out).later hb6.out, hr6, ?_, ?_, ?_⟩, ?_⟩⟩
    · intro k hk e
      rcases hk with rfl | rfl | rfl <;> rcases e with rfl | rfl <;> omega
    · intro k hk
      rcases hk with rfl | rfl | rfl <;> omega
    · intro k hk
      rcases hk with rfl | rfl <;> omega
    · intro k hk e
      have hk3 : k < w3.heap.size := by
        rcases hk with hk | hk
        · rcases hk with rfl | rfl | rfl <;> omega
        · rcases hk with rfl | rfl <;> omega
      rcases e with e | e
      · rcases e with rfl | rfl | rfl <;> omega
      · rcases e with rfl | rfl <;> omega
  have HL : Bx (Below w2.heap.size w2 w6) := ⟨below_on (below_on (below_on hL3.out hb4.out) hb5.out) hb6.out⟩
  replace H2 := Bx.mk (H2.out.below (hL2.out.mono HB.out))
  replace HB := Bx.mk (Nat.le_trans HB.out hL2.out.size)
  clear hBo hL3 hC hC2 hT hd4 hp4 hg4 hm4 hb4 hb5 hr6 hq6 hgq6 hb6 H
  have hlo : Bx (∀ x ∈ ys, ∀ b o, x.a = some ⟨b, o, none⟩ → 0 < x.picks.length → b < w2.heap.size) := ⟨fun x hx b o e hl => Nat.lt_of_lt_of_le ((H2.out.pk x hx).2 b o e hl) HB.out⟩
  go_wp2_with fail
  go_loopw [61] (fun v61 wr => ∃ k : Nat, k ≤ yn ∧ v61 = .int .i64 k ∧ Bx (Four w2.heap.size p g mb cp (xn + k) q gq cq p' g' mb' cp' xn q' gq' cq' (playN D (ys.take k)) (playN D (ys.take k)) D D wr) ∧ Bx (Below w2.heap.size w2 wr)) (fun v61 _ => yn - (intOf v61).toNat)
  case atStart => exact ⟨0, by omega, rfl, HF, HL⟩
  case round =>
    clear HF HL
    obtain ⟨k, hk, rfl, HF, HL⟩ := hrel
    by_cases hlt : k < yn
    · have t0 : decide ((k : Int) < (yn : Int)) = true := by simp; omega
      obtain ⟨x, hx⟩ : ∃ x, ys[k]? = some x := ⟨_, List.getElem?_eq_getElem (by have := hyn.out; omega)⟩
      have hxm := Bx.mk (List.mem_of_getElem? hx)
      have H3 := Bx.mk (H2.out.below (HL.out.mono HB.out))
      obtain ⟨b, o, rfl, hbB, hop⟩ := H3.out.at_ k x hx
      have hok := Bx.mk (hOk.out x hxm.out)
      have hpk := Bx.mk (H3.out.pk x hxm.out)
      have hsn := Bx.mk (playN_snoc D (ys.take k) x)
      rw [← take_snoc hx] at hsn
      have c0 := hop.c0
      have c1 := hop.c1
      have c2 := hop.c2
      have c3 := hop.c3
      have c4 := hop.c4
      have b0 : (0 : Int) ≤ (k : Int) := by omega
      have b1 : (k : Int) < (yn : Int) := by omega
      clear hx hop
      go_upto_region 13 with fail
      generalize hW : World.alloc wr _ = W
      have HW : Bx (Below wr.heap.size wr W) := by rw [← hW]; exact ⟨(Below.refl _ _).alloc (Nat.le_refl _) _⟩
      have kx : Bk W wr.heap.size #[.int .i64 x.kind, .int .i64 x.i, .int .i64 x.at_, .string (strOfNums x.text), .slice x.a x.picks.length x.c] 34 := by rw [← hW]; exact blk_new _ _ _ rfl
      clear hW c0 c1 c2 c3 c4
      have e0 := kx.cell 0 rfl
      have e1 := kx.cell 1 rfl
      have e2 := kx.cell 2 rfl
      have e3 := kx.cell 3 rfl
      have e4 := kx.cell 4 rfl
      have kx := Bx.mk kx
      have HF1 := Bx.mk (HF.out.later HW.out)
      have HL1 : Bx (Below w2.heap.size w2 W) := ⟨below_on HL.out HW.out⟩
      have hsW := Bx.mk (hpk.out.1.below HW.out)
      have hbx : Bx (¬ In3 p g mb wr.heap.size ∧ ¬ In2 q gq wr.heap.size) := ⟨HF.out.a.new3 (Nat.le_refl _), HF.out.a.new2 (Nat.le_refl _)⟩
      have hC := do_any W p g mb cp (xn + k) _ HF1.out.a.dk (by omega) x hok.out hsW.out (fun b o e hl hk => HF1.out.a.not3 (hlo.out x hxm.out b o e hl) hk)
      unfold Opn.v at hC
      replace hC := Bx.mk hC
      clear HF HL
      go_upto_region 14 with (go_at_call 13; refine hC.out.mono ?_; rintro _ w7 ⟨rfl, hd7, hc7⟩; replace hd7 := Bx.mk hd7; replace hc7 := Bx.mk hc7)
      have HF7 := Bx.mk (HF1.out.d1 hd7.out hc7.out)
      have HL7 := Bx.mk (HF1.out.a.belD HL1.out HL1.out.size hc7.out)
      have k7 := kx.out.chg hc7.out hbx.out.1
      clear e0 e1 e2 e3 e4
      have e0 := k7.cell 0 rfl
      have e1 := k7.cell 1 rfl
      have e2 := k7.cell 2 rfl
      have e3 := k7.cell 3 rfl
      have e4 := k7.cell 4 rfl
      have hD := rdo_any w7 q gq cq _ HF7.out.a.rk x hok.out (hsW.out.chg hc7.out (fun b o e hl hk => HF1.out.a.not3 (hlo.out x hxm.out b o e hl) hk)) (fun b o e hl hk => HF1.out.a.not2 (hlo.out x hxm.out b o e hl) hk)
      unfold Opn.v at hD
      replace hD := Bx.mk hD
      clear k7 kx hC hsW HF1 HL1
      go_wp2_with (go_at_call 14; refine hD.out.mono ?_; rintro _ w8 ⟨rfl, hr8, hc8⟩; replace hr8 := Bx.mk hr8; replace hc8 := Bx.mk hc8)
      have HF8 : Bx (Four w2.heap.size p g mb cp (xn + (k + 1)) q gq cq p' g' mb' cp' xn q' gq' cq' (playN D (ys.take (k + 1))) (playN D (ys.take (k + 1))) D D w8) := ⟨by rw [hsn.out]; exact HF7.out.r1 hr8.out hc8.out⟩
      have HL8 := Bx.mk (HF7.out.a.belR HL7.out HL7.out.size hc8.out)
      clear HF7 HL7 hD hr8 hc8 hd7 hc7 e0 e1 e2 e3 e4
      go_roundw
      case rel => exact ⟨k + 1, by omega, by go_num, HF8, HL8⟩
      case measure => simp [intOf]; omega
    · have t0 : decide ((k : Int) < (yn : Int)) = false := by simp; omega
      obtain rfl : k = yn := by omega
      have hte : ys.take k = ys := List.take_of_length_le (by have := hyn.out; omega)
      rw [hte] at HF
      clear hte
      generalize hDM : playN D ys = DM at *
      replace hDM := Bx.mk hDM
      have hT := Bx.mk (same_any wr p' g' mb' cp' xn q' gq' cq' D HF.out.b.dk HF.out.b.rk)
      go_wp2_with fail
      refine hT.out.mono ?_
      rintro _ w7 ⟨rfl, hb7⟩
      have HF7 := Bx.mk (HF.out.later hb7)
      have HL7 := Bx.mk (below_on HL.out hb7)
      clear HF HL hb7 hT
      have hT := Bx.mk (same_any w7 p g mb cp _ q gq cq DM HF7.out.a.dk HF7.out.a.rk)
      go_wp2_with fail
      refine hT.out.mono ?_
      rintro _ w8 ⟨rfl, hb8⟩
      have HF8 : Bx (Four w2.heap.size p g mb cp (xn + k) q gq cq p' g' mb' cp' (xn + 0) q' gq' cq' DM DM (playN D (ys.take 0)) (playN D (ys.take 0)) w8) := ⟨by rw [List.take_zero]; exact HF7.out.later hb8⟩
      have HL8 := Bx.mk (below_on HL7.out hb8)
      clear HF7 HL7 hb8 hT
      go_wp2_with fail
      go_loopw [84] (fun v84 wr => ∃ k2 : Nat, k2 ≤ k ∧ v84 = .int .i64 k2 ∧ Bx (Four w2.heap.size p g mb cp (xn + k) q gq cq p' g' mb' cp' (xn + k2) q' gq' cq' DM DM (playN D (ys.take k2)) (playN D (ys.take k2)) wr) ∧ Bx (Below w2.heap.size w2 wr)) (fun v84 _ => k - (intOf v84).toNat)
      case atStart => exact ⟨0, by omega, rfl, HF8, HL8⟩
      case round =>
        clear HF8 HL8
        rename_i wr0 _ _ _ _
        obtain ⟨j, hj, rfl, HF, HL⟩ := hrel
        by_cases hlt2 : j < k
        · have t0 : decide ((j : Int) < (k : Int)) = true := by simp; omega
          obtain ⟨x, hx⟩ : ∃ x, ys[j]? = some x := ⟨_, List.getElem?_eq_getElem (by have := hyn.out; omega)⟩
          have hxm := Bx.mk (List.mem_of_getElem? hx)
          have H3 := Bx.mk (H2.out.below (HL.out.mono HB.out))
          obtain ⟨b, o, rfl, hbB, hop⟩ := H3.out.at_ j x hx
          have hok := Bx.mk (hOk.out x hxm.out)
          have hpk := Bx.mk (H3.out.pk x hxm.out)
          have hsn := Bx.mk (playN_snoc D (ys.take j) x)
          rw [← take_snoc hx] at hsn
          have c0 := hop.c0
          have c1 := hop.c1
          have c2 := hop.c2
          have c3 := hop.c3
          have c4 := hop.c4
          have b0 : (0 : Int) ≤ (j : Int) := by omega
          have b1 : (j : Int) < (k : Int) := by omega
          clear hx hop
          go_upto_region 21 with fail
          generalize hW : World.alloc wr _ = W
          have HW : Bx (Below wr.heap.size wr W) := by rw [← hW]; exact ⟨(Below.refl _ _).alloc (Nat.le_refl _) _⟩
          have kx : Bk W wr.heap.size #[.int .i64 x.kind, .int .i64 x.i, .int .i64 x.at_, .string (strOfNums x.text), .slice x.a x.picks.length x.c] 34 := by rw [← hW]; exact blk_new _ _ _ rfl
          clear hW c0 c1 c2 c3 c4
          have e0 := kx.cell 0 rfl
          have e1 := kx.cell 1 rfl
          have e2 := kx.cell 2 rfl
          have e3 := kx.cell 3 rfl
          have e4 := kx.cell 4 rfl
          have kx := Bx.mk kx
          have HF1 := Bx.mk (HF.out.later HW.out)
          have HL1 : Bx (Below w2.heap.size w2 W) := ⟨below_on HL.out HW.out⟩
          have hsW := Bx.mk (hpk.out.1.below HW.out)
          have hbx : Bx (¬ In3 p' g' mb' wr.heap.size ∧ ¬ In2 q' gq' wr.heap.size) := ⟨HF.out.b.new3 (Nat.le_refl _), HF.out.b.new2 (Nat.le_refl _)⟩
          have hC := do_any W p' g' mb' cp' (xn + j) _ HF1.out.b.dk (by omega) x hok.out hsW.out (fun b o e hl hk => HF1.out.b.not3 (hlo.out x hxm.out b o e hl) hk)
          unfold Opn.v at hC
          replace hC := Bx.mk hC
          clear HF HL
          go_upto_region 22 with (go_at_call 13; refine hC.out.mono ?_; rintro _ w7 ⟨rfl, hd7, hc7⟩; replace hd7 := Bx.mk hd7; replace hc7 := Bx.mk hc7)
          have HF7 := Bx.mk (HF1.out.c2 hd7.out hc7.out)
          have HL7 := Bx.mk (HF1.out.b.belD HL1.out HL1.out.size hc7.out)
          have k7 := kx.out.chg hc7.out hbx.out.1
          clear e0 e1 e2 e3 e4
          have e0 := k7.cell 0 rfl
          have e1 := k7.cell 1 rfl
          have e2 := k7.cell 2 rfl
          have e3 := k7.cell 3 rfl
          have e4 := k7.cell 4 rfl
          have hD := rdo_any w7 q' gq' cq' _ HF7.out.b.rk x hok.out (hsW.out.chg hc7.out (fun b o e hl hk => HF1.out.b.not3 (hlo.out x hxm.out b o e hl) hk)) (fun b o e hl hk => HF1.out.b.not2 (hlo.out x hxm.out b o e hl) hk)
          unfold Opn.v at hD
          replace hD := Bx.mk hD
          clear k7 kx hC hsW HF1 HL1
          go_upto_region 23 with (go_at_call 14; refine hD.out.mono ?_; rintro _ w8 ⟨rfl, hr8, hc8⟩; replace hr8 := Bx.mk hr8; replace hc8 := Bx.mk hc8)
          have HF8 : Bx (Four w2.heap.size p g mb cp (xn + k) q gq cq p' g' mb' cp' (xn + (j + 1)) q' gq' cq' DM DM (playN D (ys.take (j + 1))) (playN D (ys.take (j + 1))) w8) := ⟨by rw [hsn.out]; exact HF7.out.r2 hr8.out hc8.out⟩
          have HL8 := Bx.mk (HF7.out.b.belR HL7.out HL7.out.size hc8.out)
          clear HF7 HL7 hD hr8 hc8 hd7 hc7 e0 e1 e2 e3 e4
          generalize (Dk.doOp _ x).2.2 = E
          generalize strOfNums (Dk.doOp _ x).2.1 = X
          have t2 : (X.toList != X.toList) = false := by simp
          have t4 : (E != E) = false := by simp
          go_wp2_with fail
          go_roundw
          case rel => exact ⟨j + 1, by omega, by go_num, HF8, HL8⟩
          case measure => simp [intOf]; omega
        · have t0 : decide ((j : Int) < (k : Int)) = false := by simp; omega
          obtain rfl : j = k := by omega
          have hte : ys.take j = ys := List.take_of_length_le (by have := hyn.out; omega)
          rw [hte, hDM.out] at HF
          clear hte
          go_wp2_with fail
          refine (hS.out _).mono ?_
          rintro _ w9 ⟨rfl, hb9⟩
          have HF9 := Bx.mk (HF.out.later hb9)
          have HL9 := Bx.mk (below_on HL.out hb9)
          clear HF HL hb9
          have hT := Bx.mk (same_any w9 p' g' mb' cp' _ q' gq' cq' DM HF9.out.b.dk HF9.out.b.rk)
          go_wp2_with fail
          refine hT.out.mono ?_
          rintro _ w10 ⟨rfl, hb10⟩
          have HF10 := Bx.mk (HF9.out.later hb10)
          have HL10 := Bx.mk (below_on HL9.out hb10)
          clear HF9 HL9 hb10 hT
          have hT := Bx.mk (same_any w10 p g mb cp _ q gq cq DM HF10.out.a.dk HF10.out.a.rk)
          go_wp2_with fail
          refine hT.out.mono ?_
          rintro _ w11 ⟨rfl, hb11⟩
          go_wp2_with fail
          go_ret
          exact ⟨rfl, below_on hL2.out (below_on HL10.out hb11)⟩
theorem clones_true (w : World) (n : Int) (_ : -9223372036854775808 ≤ n ∧ n ≤ 9223372036854775807) (a : Option Addr) (cap : Nat) (xs : List Opn) (hl : xs.length ≤ 9223372036854775807) (h : Ops w w.heap.size a xs) (a2 : Option Addr) (cap2 : Nat) (ys : List Opn) (hl2 : ys.length ≤ 9223372036854775807) (h2 : Ops w w.heap.size a2 ys) :
    Calls Try.prog 8 #[.int .i64 n, .slice a xs.length cap, .slice a2 ys.length cap2] w (TruePost w) := clones_any w n _ a cap xs hl h a2 cap2 ys hl2 h2
end Go.Proofs.Ytaajkhdmeghnbaa
