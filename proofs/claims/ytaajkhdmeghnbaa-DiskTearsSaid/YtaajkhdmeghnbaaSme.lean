/- The law's comparison of the two disks. -/
import Derived.Test.YtaajkhdmeghnbaaSam
namespace Go.Proofs.Ytaajkhdmeghnbaa
open Go.RowKit Go.Sort

def TruePost (w : World) (e : Ending) (w' : World) : Prop := e = .returned (.bool true) ∧ Below w.heap.size w w'
set_option maxRecDepth 100000 in
theorem same_any (w : World) (p g mb cap m q g2 cap2 : Nat) (d : Dk) (h : DkIs w p g mb cap m d) (h2 : RkIs w q g2 cap2 d) :
    Calls Try.prog 15 #[.pointer (some ⟨p, 0, none⟩), .pointer (some ⟨q, 0, none⟩)] w (TruePost w) := by
  have H := Bx.mk h
  have H2 := Bx.mk h2
  have hfew := h.ok.few
  have L1 := Bx.mk (len_any w p g mb cap m d h)
  have L2 := Bx.mk (rlen_any w q g2 cap2 d h2)
  have U1 := Bx.mk (up_any w p g mb cap m d h)
  have U2 := Bx.mk (rup_any w q g2 cap2 d h2)
  have I1 := Bx.mk (image_any w p g mb cap m d h)
  have I2 := Bx.mk fun (W : World) (hb : Below w.heap.size w W) => rimage_any W q g2 cap2 d (h2.later hb)
  have P1 := Bx.mk fun (W : World) (hb : Below w.heap.size w W) => pend_any W p g mb cap m d (h.later hb)
  have P2 := Bx.mk fun (W : World) (hb : Below w.heap.size w W) => rpend_any W q g2 cap2 d (h2.later hb)
  have hil : d.image.length = d.p.length := by unfold Dk.image; rw [List.length_map]
  have hpl : (ints (pendOf d.p)).length ≤ 40 := by have := pend_len_le d.p; unfold ints; rw [List.length_map]; omega
  clear h h2
  have hn2 : Bx ((strs d.image).length = d.image.length) := ⟨strs_length _⟩
  generalize d.image = im at *
  generalize hnn : d.p.length = n at *
  clear hnn
  generalize (!d.off) = u at *
  have t1 : ((n : Int) == (n : Int)) = true := by simp
  have t2 : (u == u) = true := by simp
  replace hil := Bx.mk hil
  replace hpl := Bx.mk hpl
  go_enter Try.func15, Try.ntmps15
  go_wp2_with (first
    | (go_at_call 31; refine L1.out.mono ?_; rintro _ _ ⟨rfl, rfl⟩)
    | (go_at_call 39; refine L2.out.mono ?_; rintro _ _ ⟨rfl, rfl⟩)
    | (go_at_call 20; refine U1.out.mono ?_; rintro _ _ ⟨rfl, rfl⟩)
    | (go_at_call 40; refine U2.out.mono ?_; rintro _ _ ⟨rfl, rfl⟩)
    | (go_at_call 24; refine I1.out.mono ?_; rintro _ w1 ⟨v1, rfl, ho1, hb1⟩; obtain ⟨a1, c1, rfl, hs1⟩ := ho1.form; replace hs1 := Bx.mk hs1; replace hb1 := Bx.mk hb1; clear ho1)
    | (go_at_call 41; refine (I2.out w1 hb1.out).mono ?_; rintro _ w2 ⟨v2, rfl, ho2, hb2⟩; obtain ⟨a2, c2, rfl, hs2⟩ := ho2.form; replace hs2 := Bx.mk hs2; replace hb2 := Bx.mk hb2; clear ho2))
  have T := sameTexts_eq w2 a1 a2 c1 c2 im (by have := hil.out; omega) (hs1.out.below hb2.out) hs2.out
  rw [← hn2.out] at T
  replace T := Bx.mk T
  have hb2' : Bx (Below w.heap.size w w2) := ⟨below_on hb1.out hb2.out⟩
  refine T.out.mono ?_
  rintro _ w3 ⟨rfl, hb3⟩
  have hb3' : Bx (Below w.heap.size w w3) := ⟨below_on hb2'.out hb3⟩
  clear hb3 T
  go_wp2_with (first
    | (go_at_call 25; refine (P1.out w3 hb3'.out).mono ?_; rintro _ w4 ⟨v3, rfl, ho3, hb4⟩; obtain ⟨a3, c3, rfl, hs3⟩ := ho3.form; replace hs3 := Bx.mk hs3; replace hb4 := Bx.mk (below_on hb3'.out hb4); replace hs3 := Bx.mk hs3.out; clear ho3)
    | (go_at_call 42; refine (P2.out w4 hb4.out).mono ?_; rintro _ w5 ⟨v4, rfl, ho4, hb5⟩; obtain ⟨a4, c4, rfl, hs4⟩ := ho4.form; replace hs4 := Bx.mk hs4; replace hb5 := Bx.mk hb5; clear ho4))
  have S := Bx.mk (sameInts_eq w5 a3 a4 c3 c4 _ (by have := hpl.out; omega) (hs3.out.below hb5.out) hs4.out)
  have hb5' : Bx (Below w.heap.size w w5) := ⟨below_on hb4.out hb5.out⟩
  refine S.out.mono ?_
  rintro _ w6 ⟨rfl, hb6⟩
  go_wp2_with fail
  go_ret
  exact ⟨rfl, below_on hb5'.out hb6⟩
end Go.Proofs.Ytaajkhdmeghnbaa
