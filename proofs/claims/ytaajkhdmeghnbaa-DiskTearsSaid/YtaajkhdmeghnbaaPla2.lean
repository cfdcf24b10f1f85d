/- The law's played. -/
import Derived.Test.YtaajkhdmeghnbaaFew
namespace Go.Proofs.Ytaajkhdmeghnbaa
open Go.RowKit Go.Sort

/-- a disk after a script -/
def playN (d : Dk) (xs : List Opn) : Dk := xs.foldl (fun d x => (d.doOp x).1) d
theorem playN_snoc (d : Dk) (xs : List Opn) (x : Opn) : playN d (xs ++ [x]) = ((playN d xs).doOp x).1 := by unfold playN; rw [List.foldl_append]; rfl
/-- both disks, apart, all in blocks from B on -/
structure Both (B p g mb cap m q gq cq : Nat) (d d' : Dk) (w : World) : Prop where
  dk : DkIs w p g mb cap m d
  rk : RkIs w q gq cq d'
  ap : ∀ k, In3 p g mb k → ¬ In2 q gq k
  lo3 : ∀ k, In3 p g mb k → B ≤ k
  lo2 : ∀ k, In2 q gq k → B ≤ k
section
variable {B p g mb cap m q gq cq : Nat} {d d' d2 : Dk} {w w' : World}
theorem Both.ofD (h : Both B p g mb cap m q gq cq d d' w) {m' : Nat} (hd : DkIs w' p g mb cap m' d2) (hc : Chg (In3 p g mb) w w') : Both B p g mb cap m' q gq cq d2 d' w' :=
  ⟨hd, h.rk.chg hc (fun k hk e => h.ap k e hk), h.ap, h.lo3, h.lo2⟩
theorem Both.ofR (h : Both B p g mb cap m q gq cq d d' w) (hr : RkIs w' q gq cq d2) (hc : Chg (In2 q gq) w w') : Both B p g mb cap m q gq cq d d2 w' :=
  ⟨h.dk.chg hc (fun k hk e => h.ap k hk e), hr, h.ap, h.lo3, h.lo2⟩
theorem Both.later (h : Both B p g mb cap m q gq cq d d' w) (hb : Below w.heap.size w w') : Both B p g mb cap m q gq cq d d' w' := ⟨h.dk.later hb, h.rk.later hb, h.ap, h.lo3, h.lo2⟩
theorem Both.belD {w0 : World} (h : Both B p g mb cap m q gq cq d d' w) (hb : Below B w0 w) (hB : B ≤ w.heap.size) (hc : Chg (In3 p g mb) w w') : Below B w0 w' := hb.trans (hc.below hB fun k hk e => by have := h.lo3 k e; omega)
theorem Both.belR {w0 : World} (h : Both B p g mb cap m q gq cq d d' w) (hb : Below B w0 w) (hB : B ≤ w.heap.size) (hc : Chg (In2 q gq) w w') : Below B w0 w' := hb.trans (hc.below hB fun k hk e => by have := h.lo2 k e; omega)
end
theorem opn_ok {w : World} {B : Nat} {a : Option Addr} {xs : List Opn} (h : Ops w B a xs) (hf : fewB xs = true) {x : Opn} (hx : x ∈ xs) : OpnOk x := by
  obtain ⟨h1, h2, h3, _⟩ := h.by_ x hx
  unfold fewB at hf
  rw [Bool.and_eq_true, List.all_eq_true] at hf
  have := hf.1 x hx
  simp only [Bool.and_eq_true, decide_eq_true_eq] at this
  exact ⟨h1, this.1, this.2, h2, h3⟩
theorem few_len {xs : List Opn} (hf : fewB xs = true) : xs.length ≤ 40 := by
  unfold fewB at hf
  rw [Bool.and_eq_true, decide_eq_true_eq] at hf
  exact hf.2
def PlPost (w : World) (n : Nat) (xs : List Opn) (e : Ending) (w' : World) : Prop :=
  ∃ p g mb cap q gq cq, e = .returned (.tuple #[.pointer (some ⟨p, 0, none⟩), .pointer (some ⟨q, 0, none⟩), .bool true]) ∧ Both w.heap.size p g mb cap xs.length q gq cq (playN (mkDk n) xs) (playN (mkDk n) xs) w' ∧ Below w.heap.size w w'
theorem played_no (w : World) (n : Int) (v : Value) (h : n < 1) : Calls Try.prog 16 #[.int .i64 n, v] w fun e w' => e = .returned (.tuple #[.pointer none, .pointer none, .bool false]) ∧ w = w' := by
  have h1 := Bx.mk (new_bad w n (.inl h))
  have h2 := Bx.mk (rnew_bad w n (.inl h))
  go_enter Try.func16, Try.ntmps16
  go_wp2_with (first
    | (go_at_call 11; refine h1.out.mono ?_; rintro _ _ ⟨rfl, rfl⟩)
    | (go_at_call 12; refine h2.out.mono ?_; rintro _ _ ⟨rfl, rfl⟩))
  exact bodyPost_ret (v := .tuple #[.pointer none, .pointer none, .bool false]) (by simp [results, Try.results16, go_sem]) rfl ⟨rfl, rfl⟩
/-- the disks are new -/
theorem both_new {w w1 w2 : World} {p g mb q gq cq n m : Nat} {d : Dk} (h1 : DkIs w1 p g mb n m d) (hp : w.heap.size ≤ p) (hg : w.heap.size ≤ g) (hmb : w.heap.size ≤ mb) (hb1 : Below w.heap.size w w1) (h2 : RkIs w2 q gq cq d) (hq : w1.heap.size ≤ q) (hgq : w1.heap.size ≤ gq) (hb2 : Below w1.heap.size w1 w2) : Both w.heap.size p g mb n m q gq cq d d w2 := by
  have hl := h1.lt
  have hs := hb1.size
  refine ⟨h1.later hb2, h2, fun k hk e => ?_, fun k hk => ?_, fun k hk => ?_⟩
  · rcases hk with rfl | rfl | rfl <;> rcases e with rfl | rfl <;> omega
  · rcases hk with rfl | rfl | rfl <;> omega
  · rcases hk with rfl | rfl <;> omega
set_option maxRecDepth 100000 in
theorem played_yes (w : World) (n : Nat) (h1 : 1 ≤ n) (h2 : n ≤ 40) (B : Nat) (a : Option Addr) (cap : Nat) (xs : List Opn) (hf : fewB xs = true) (h : Ops w B a xs) :
    Calls Try.prog 16 #[.int .i64 (n : Int), .slice a xs.length cap] w (PlPost w n xs) := by
  have H := Bx.mk h
  have hN := Bx.mk (new_ok w n h1 h2)
  have hM := Bx.mk fun (W : World) => rnew_ok W n h1 h2
  have hOk := Bx.mk fun (x : Opn) (hx : x ∈ xs) => opn_ok h hf hx
  have HB := Bx.mk h.lt
  have hlen := few_len hf
  clear h hf
  generalize hxn : xs.length = xn at *
  replace hxn := Bx.mk hxn
  go_enter Try.func16, Try.ntmps16
  go_wp2_with (first
    | (go_at_call 11; refine hN.out.mono ?_; rintro _ w1 ⟨p, g, mb, rfl, hd, hp, hg, hmb, hb1⟩; replace hd := Bx.mk hd; replace hp := Bx.mk hp; replace hg := Bx.mk hg; replace hmb := Bx.mk hmb; replace hb1 := Bx.mk hb1)
    | (go_at_call 12; refine (hM.out _).mono ?_; rintro _ w2 ⟨q, gq, cq, rfl, hr, hq, hgq, hb2⟩; replace hr := Bx.mk hr; replace hq := Bx.mk hq; replace hgq := Bx.mk hgq; replace hb2 := Bx.mk hb2))
  have HI : Bx (Both w.heap.size p g mb n 0 q gq cq (playN (mkDk n) (xs.take 0)) (playN (mkDk n) (xs.take 0)) w2) := ⟨by rw [List.take_zero]; exact both_new hd.out hp.out hg.out hmb.out hb1.out hr.out hq.out hgq.out hb2.out⟩
  have HL : Bx (Below w.heap.size w w2) := ⟨below_on hb1.out hb2.out⟩
  clear hd hp hg hmb hb1 hr hq hgq hb2 hN hM
  go_loopw [35] (fun v35 wr => ∃ k : Nat, k ≤ xn ∧ v35 = .int .i64 k ∧ Bx (Both w.heap.size p g mb n k q gq cq (playN (mkDk n) (xs.take k)) (playN (mkDk n) (xs.take k)) wr) ∧ Bx (Below w.heap.size w wr)) (fun v35 _ => xn - (intOf v35).toNat)
  case atStart => exact ⟨0, by omega, rfl, HI, HL⟩
  case round =>
    clear HI HL
    obtain ⟨k, hk, rfl, HI, HL⟩ := hrel
    by_cases hlt : k < xn
    · have t0 : decide ((k : Int) < (xn : Int)) = true := by simp; omega
      obtain ⟨x, hx⟩ : ∃ x, xs[k]? = some x := ⟨_, List.getElem?_eq_getElem (by have := hxn.out; omega)⟩
      have hxm := List.mem_of_getElem? hx
      have H2 := Bx.mk (H.out.below (HL.out.mono HB.out))
      obtain ⟨b, o, rfl, hbB, hop⟩ := H2.out.at_ k x hx
      have hok := Bx.mk (hOk.out x hxm)
      have hpk := Bx.mk (H2.out.pk x hxm)
      have hsn := Bx.mk (playN_snoc (mkDk n) (xs.take k) x)
      rw [← take_snoc hx] at hsn
      have c0 := hop.c0
      have c1 := hop.c1
      have c2 := hop.c2
      have c3 := hop.c3
      have c4 := hop.c4
      have b0 : (0 : Int) ≤ (k : Int) := by omega
      have b1 : (k : Int) < (xn : Int) := by omega
      clear hx hxm hop
      go_upto_region 8 with fail
      generalize hW : World.alloc wr _ = W
      have HW : Bx (Below wr.heap.size wr W) := by rw [← hW]; exact ⟨(Below.refl _ _).alloc (Nat.le_refl _) _⟩
      have kx : Bk W wr.heap.size #[.int .i64 x.kind, .int .i64 x.i, .int .i64 x.at_, .string (strOfNums x.text), .slice x.a x.picks.length x.c] 34 := by rw [← hW]; exact blk_new _ _ _ rfl
      clear hW c0 c1 c2 c3 c4
      have e0 := kx.cell 0 rfl
      have e1 := kx.cell 1 rfl
      have e2 := kx.cell 2 rfl
      have e3 := kx.cell 3 rfl
      have e4 := kx.cell 4 rfl
      have kx := Bx.mk kx
      have HI1 := Bx.mk (HI.out.later HW.out)
      have HL1 : Bx (Below w.heap.size w W) := ⟨below_on HL.out HW.out⟩
      have hsW := Bx.mk (hpk.out.1.below HW.out)
      have hlo : Bx (∀ b o, x.a = some ⟨b, o, none⟩ → 0 < x.picks.length → b < w.heap.size) := ⟨fun b o e hl => Nat.lt_of_lt_of_le (hpk.out.2 b o e hl) HB.out⟩
      have hC := do_any W p g mb n k _ HI1.out.dk (by omega) x hok.out hsW.out (fun b o e hl hk => by have h1 := hlo.out b o e hl; have h2 := HI1.out.lo3 b hk; omega)
      unfold Opn.v at hC
      replace hC := Bx.mk hC
      have hbx : Bx (¬ In3 p g mb wr.heap.size ∧ ¬ In2 q gq wr.heap.size) := ⟨fun e => by have := HI.out.dk.lt; rcases e with e | e | e <;> omega, fun e => by have := HI.out.rk.lt; rcases e with e | e <;> omega⟩
      clear HI HL
      go_upto_region 9 with (go_at_call 13; refine hC.out.mono ?_; rintro _ w3 ⟨rfl, hd3, hc3⟩; replace hd3 := Bx.mk hd3; replace hc3 := Bx.mk hc3)
      have HI3 := Bx.mk (HI1.out.ofD hd3.out hc3.out)
      have HL3 := Bx.mk (HI1.out.belD HL1.out HL1.out.size hc3.out)
      have k3 := kx.out.chg hc3.out hbx.out.1
      clear e0 e1 e2 e3 e4
      have e0 := k3.cell 0 rfl
      have e1 := k3.cell 1 rfl
      have e2 := k3.cell 2 rfl
      have e3 := k3.cell 3 rfl
      have e4 := k3.cell 4 rfl
      have hC2 := rdo_any w3 q gq cq _ HI3.out.rk x hok.out (hsW.out.chg hc3.out (fun b o e hl hk => by have h1 := hlo.out b o e hl; have h2 := HI1.out.lo3 b hk; omega)) (fun b o e hl hk => by have h1 := hlo.out b o e hl; have h2 := HI1.out.lo2 b hk; omega)
      unfold Opn.v at hC2
      replace hC2 := Bx.mk hC2
      clear k3 kx hC hsW HI1 HL1
      go_wp2_with (go_at_call 14; refine hC2.out.mono ?_; rintro _ w4 ⟨rfl, hr4, hc4⟩; replace hr4 := Bx.mk hr4; replace hc4 := Bx.mk hc4)
      have HI4 : Bx (Both w.heap.size p g mb n (k + 1) q gq cq (playN (mkDk n) (xs.take (k + 1))) (playN (mkDk n) (xs.take (k + 1))) w4) := ⟨by rw [hsn.out]; exact HI3.out.ofR hr4.out hc4.out⟩
      have HL4 := Bx.mk (HI3.out.belR HL3.out HL3.out.size hc4.out)
      clear HI3 HL3 hC2 hr4 hc4 hd3 hc3 e0 e1 e2 e3 e4
      go_roundw
      case rel => exact ⟨k + 1, by omega, by go_num, HI4, HL4⟩
      case measure => simp [intOf]; omega
    · have t0 : decide ((k : Int) < (xn : Int)) = false := by simp; omega
      obtain rfl : k = xn := by omega
      rw [← hxn.out, List.take_length] at HI
      go_wp2_with fail
      refine bodyPost_ret (v := .tuple #[.pointer (some ⟨p, 0, none⟩), .pointer (some ⟨q, 0, none⟩), .bool true]) (by simp [results, Try.results16, go_sem]) rfl ⟨p, g, mb, n, q, gq, cq, rfl, HI.out, HL.out⟩
end Go.Proofs.Ytaajkhdmeghnbaa
