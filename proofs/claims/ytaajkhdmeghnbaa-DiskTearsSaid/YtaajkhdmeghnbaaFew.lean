/- Scripts: how they lie in memory; few. -/
import Derived.Test.YtaajkhdmeghnbaaSme
namespace Go.Proofs.Ytaajkhdmeghnbaa
open Go.RowKit Go.Sort

/-- the operation x lies at b, o -/
structure OpAt (w : World) (b o : Nat) (x : Opn) : Prop where
  c0 : w.cell? ⟨b, o, none⟩ = some (.int .i64 x.kind)
  c1 : w.cell? ⟨b, o + 1, none⟩ = some (.int .i64 x.i)
  c2 : w.cell? ⟨b, o + 2, none⟩ = some (.int .i64 x.at_)
  c3 : w.cell? ⟨b, o + 3, none⟩ = some (.string (strOfNums x.text))
  c4 : w.cell? ⟨b, o + 4, none⟩ = some (.slice x.a x.picks.length x.c)
theorem OpAt.below {w w' : World} {b o : Nat} {x : Opn} {B : Nat} (h : OpAt w b o x) (hB : b < B) (hb : Below B w w') : OpAt w' b o x :=
  ⟨(hb.cell (p := ⟨b, o, none⟩) hB).trans h.c0, (hb.cell (p := ⟨b, o + 1, none⟩) hB).trans h.c1, (hb.cell (p := ⟨b, o + 2, none⟩) hB).trans h.c2, (hb.cell (p := ⟨b, o + 3, none⟩) hB).trans h.c3, (hb.cell (p := ⟨b, o + 4, none⟩) hB).trans h.c4⟩
/-- a script lies at a; all below block B -/
structure Ops (w : World) (B : Nat) (a : Option Addr) (xs : List Opn) : Prop where
  at_ : ∀ i x, xs[i]? = some x → ∃ b o, a = some ⟨b, o, none⟩ ∧ b < B ∧ OpAt w b (o + i * 5) x
  pk : ∀ x ∈ xs, Sl w .i64 x.a x.picks ∧ ∀ b o, x.a = some ⟨b, o, none⟩ → 0 < x.picks.length → b < B
  by_ : ∀ x ∈ xs, Byt x.text ∧ (-9223372036854775808 ≤ x.i ∧ x.i ≤ 9223372036854775807) ∧ (-9223372036854775808 ≤ x.at_ ∧ x.at_ ≤ 9223372036854775807) ∧ x.text.length ≤ 9223372036854775807 ∧ x.picks.length ≤ 9223372036854775807
  lt : B ≤ w.heap.size
theorem Ops.below {w w' : World} {B : Nat} {a : Option Addr} {xs : List Opn} (h : Ops w B a xs) (hb : Below B w w') : Ops w' B a xs :=
  ⟨fun i x hx => by obtain ⟨b, o, h1, h2, h3⟩ := h.at_ i x hx; exact ⟨b, o, h1, h2, h3.below h2 hb⟩, fun x hx => ⟨fun i v hv => by
    obtain ⟨h1, h2⟩ := h.pk x hx
    obtain ⟨b, o, he, hc⟩ := h1 i v hv
    have hl : 0 < x.picks.length := by have := (List.getElem?_eq_some_iff.1 hv).1; omega
    exact ⟨b, o, he, (hb.cell (p := ⟨b, o + i, none⟩) (h2 b o he hl)).trans hc⟩, (h.pk x hx).2⟩, h.by_, Nat.le_trans h.lt hb.size⟩
def fewB (xs : List Opn) : Bool := xs.all (fun x => decide (x.text.length ≤ 300) && decide (x.picks.length ≤ 70)) && decide (xs.length ≤ 40)
def fine (x : Opn) : Bool := decide (x.text.length ≤ 300) && decide (x.picks.length ≤ 70)
set_option maxRecDepth 100000 in
theorem few_any (w : World) (B : Nat) (a : Option Addr) (cap : Nat) (xs : List Opn) (hl : xs.length ≤ 9223372036854775807) (h : Ops w B a xs) :
    Calls Try.prog 9 #[.slice a xs.length cap] w fun e w' => e = .returned (.bool (fewB xs)) ∧ Below w.heap.size w w' := by
  have H := Bx.mk h
  have HI : Bx (Below w.heap.size w w) := ⟨Below.refl _ _⟩
  have HA : Bx ((xs.take 0).all fine = true) := ⟨by rw [List.take_zero]; rfl⟩
  have HB := Bx.mk h.lt
  clear h
  have hf : fewB xs = (xs.all fine && decide (xs.length ≤ 40)) := rfl
  generalize hR : fewB xs = R at *
  replace hf := Bx.mk hf
  clear hR
  generalize hn : xs.length = n at *
  replace hn := Bx.mk hn
  go_enter Try.func9, Try.ntmps9
  go_wp2_with fail
  go_loopw [7] (fun v7 wr => ∃ k : Nat, k ≤ n ∧ v7 = .int .i64 k ∧ Bx (Below w.heap.size w wr) ∧ Bx ((xs.take k).all fine = true)) (fun v7 _ => n - (intOf v7).toNat)
  case atStart => exact ⟨0, by omega, rfl, HI, HA⟩
  case round =>
    clear HI HA
    obtain ⟨k, hk, rfl, HI, HA⟩ := hrel
    by_cases hlt : k < n
    · have t0 : decide ((k : Int) < (n : Int)) = true := by simp; omega
      obtain ⟨x, hx⟩ : ∃ x, xs[k]? = some x := ⟨_, List.getElem?_eq_getElem (by have := hn.out; omega)⟩
      have H2 := H.out.below (HI.out.mono HB.out)
      obtain ⟨b, o, rfl, hbB, hop⟩ := H2.at_ k x hx
      obtain ⟨-, -, -, hbt, hbp⟩ := H2.by_ x (List.mem_of_getElem? hx)
      have htk := Bx.mk (take_snoc hx)
      have hxm := Bx.mk (List.mem_of_getElem? hx)
      have c0 := hop.c0
      have c1 := hop.c1
      have c2 := hop.c2
      have c3 := hop.c3
      have c4 := hop.c4
      have hsz : (strOfNums x.text).size = x.text.length := strOfNums_size _
      have hwlt := Bx.mk (Nat.lt_of_lt_of_le hbB (Nat.le_trans HB.out HI.out.size))
      clear H2 hop hx
      have b0 : (0 : Int) ≤ (k : Int) := by omega
      have b1 : (k : Int) < (n : Int) := by omega
      go_upto_region 4 with fail
      generalize hW : World.alloc wr _ = W
      have HW : Bx (Below w.heap.size w W) := by rw [← hW]; exact ⟨below_al HI.out _⟩
      have kx : Bk W wr.heap.size #[.int .i64 x.kind, .int .i64 x.i, .int .i64 x.at_, .string (strOfNums x.text), .slice x.a x.picks.length x.c] 34 := by rw [← hW]; exact blk_new _ _ _ rfl
      clear hW c0 c1 c2 c3 c4 HI
      have d3 := kx.cell 3 rfl
      have d4 := kx.cell 4 rfl
      clear kx
      by_cases h1 : x.text.length ≤ 300
      · have t1 : decide (300 < (x.text.length : Int)) = false := by simp; omega
        by_cases h2 : x.picks.length ≤ 70
        · have t2 : decide (70 < (x.picks.length : Int)) = false := by simp; omega
          have HA2 : Bx ((xs.take (k + 1)).all fine = true) := ⟨by rw [htk.out, List.all_append, HA.out]; simp [fine, h1, h2]⟩
          go_wp2_with fail
          go_roundw
          case rel => exact ⟨k + 1, by omega, by go_num, HW, HA2⟩
          case measure => simp [intOf]; omega
        · have t2 : decide (70 < (x.picks.length : Int)) = true := by simp; omega
          have hR : Bx (R = false) := ⟨by
            rw [hf.out]
            have : xs.all fine = false := by
              rw [List.all_eq_false]
              exact ⟨x, hxm.out, by unfold fine; simp [h2]⟩
            rw [this]; rfl⟩
          go_wp2_with fail
          go_ret
          exact ⟨by rw [hR.out]; rfl, HW.out⟩
      · have t1 : decide (300 < (x.text.length : Int)) = true := by simp; omega
        have hR : Bx (R = false) := ⟨by
          rw [hf.out]
          have : xs.all fine = false := by
            rw [List.all_eq_false]
            exact ⟨x, hxm.out, by unfold fine; simp [h1]⟩
          rw [this]; rfl⟩
        go_wp2_with fail
        go_ret
        exact ⟨by rw [hR.out]; rfl, HW.out⟩
    · have t0 : decide ((k : Int) < (n : Int)) = false := by simp; omega
      obtain rfl : k = n := by omega
      have hR : Bx (R = decide (k ≤ 40)) := ⟨by
        have h1 := HA.out
        rw [← hn.out, List.take_length] at h1
        rw [hf.out, h1]; rfl⟩
      go_wp2_with fail
      go_ret
      exact ⟨by rw [hR.out]; exact ret_bool (by simp; omega), HI.out⟩
end Go.Proofs.Ytaajkhdmeghnbaa
