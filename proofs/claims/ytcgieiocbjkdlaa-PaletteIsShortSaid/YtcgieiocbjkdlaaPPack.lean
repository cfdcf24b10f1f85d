/- palette.Pack: the packed form, by the program. -/
import Derived.Test.YtcgieiocbjkdlaaRPack
namespace Go.Proofs.Ytcgieiocbjkdlaa
open Go.RowKit

theorem put_zero (a : Option Addr) (n cap : Nat) (f : Value) (w : World) (_hl : n ≤ 1000) :
    Calls Try.prog 29 #[.slice a n cap, .int .i64 0, f] w fun e w' => e = .returned (.slice none 0 0) ∧ w = w' := by
  go_enter Try.func29, Try.ntmps29
  go_wp2
  go_ret
  exact ⟨rfl, rfl⟩

theorem put_any (wd : Nat) (hwd : Pal.Wd wd) (a : Option Addr) (cap : Nat) (xs : List Int) (pp : Addr) (pa : Option Addr) (pc : Nat) (p : List Int) (w : World) (hl : xs.length ≤ 1000) (h : Sl w .i64 a xs)
    (hpl : p.length ≤ 2 ^ wd) (hin : ∀ x, x ∈ xs → x ∈ p) (hc : w.cell? pp = some (.slice pa p.length pc)) (hp : Sl w .i64 pa p) :
    Calls Try.prog 29 #[.slice a xs.length cap, .int .i64 (wd : Int), .func (.func 31) #[] #[.pointer (some pp)]] w fun e w' =>
      ∃ v, e = .returned v ∧ Own w' w.heap.size 5 .u8 v (Pal.packs wd (fun i => p.idxOf (xs.getD i 0)) xs.length) ∧ Below w.heap.size w w' := by
  rcases hwd with rfl | rfl | rfl | rfl
  · exact put_pal1 a cap xs pp pa pc p w hl h hpl hin hc hp
  · exact put_pal2 a cap xs pp pa pc p w hl h hpl hin hc hp
  · exact put_pal4 a cap xs pp pa pc p w hl h hpl hin hc hp
  · exact put_pal8 a cap xs pp pa pc p w hl h hpl hin hc hp

/-- put at the width of a palette, which may be 0 -/
theorem put_width (a : Option Addr) (cap : Nat) (xs : List Int) (pp : Addr) (pa : Option Addr) (pc : Nat) (p : List Int) (w : World) (hl : xs.length ≤ 64) (h : Sl w .i64 a xs)
    (hpl : p.length ≤ xs.length) (hin : ∀ x, x ∈ xs → x ∈ p) (hc : w.cell? pp = some (.slice pa p.length pc)) (hp : Sl w .i64 pa p) :
    Calls Try.prog 29 #[.slice a xs.length cap, .int .i64 (Pal.width p.length : Nat), .func (.func 31) #[] #[.pointer (some pp)]] w fun e w' =>
      ∃ v, e = .returned v ∧ Own w' w.heap.size 5 .u8 v (Pal.packs (Pal.width p.length) (fun i => p.idxOf (xs.getD i 0)) xs.length) ∧ Below w.heap.size w w' := by
  by_cases h1 : 1 < p.length
  · exact put_any _ (Pal.width_wd h1) a cap xs pp pa pc p w (by omega) h (Pal.width_fits (by omega)) hin hc hp
  · have h0 : Pal.width p.length = 0 := by unfold Pal.width; rw [if_pos (by omega)]
    rw [h0]
    refine (put_zero a xs.length cap _ w (by omega)).mono ?_
    rintro e w' ⟨rfl, rfl⟩
    refine ⟨_, rfl, ?_, Below.refl _ _⟩
    have : Pal.packs 0 (fun i => p.idxOf (xs.getD i 0)) xs.length = [] := by simp [Pal.packs]
    rw [this]
    exact Own.nil _ _ _ _

set_option maxHeartbeats 1000000 in
theorem pal_pack (a : Option Addr) (cap : Nat) (xs : List Int) (w : World) (hl : xs.length ≤ 1000) (h : Sl w .i64 a xs) :
    Calls Try.prog 11 #[.slice a xs.length cap] w fun e w' => e = .returned (.tuple #[.string (strOfNums (Pal.packB xs)), .int .i64 (Pal.packE xs)]) ∧ Below w.heap.size w w' := by
  by_cases h64 : 64 < xs.length
  · have hbad : Pal.bad xs = true := by simp [Pal.bad, h64]
    have h1 := Bx.mk (Pal.packB_bad hbad)
    have h2 := Bx.mk (Pal.packE_bad hbad)
    clear hbad
    generalize xs.length = n at *
    go_enter Try.func11, Try.ntmps11
    go_wp2
    go_ret2
    exact ⟨ret_str (by rw [h1.out]; rfl) h2.out.symm, Below.refl _ _⟩
  cases hall : xs.all Pal.cell with
  | false =>
    have hbad : Pal.bad xs = true := by simp [Pal.bad, hall]
    have h1 := Bx.mk (Pal.packB_bad hbad)
    have h2 := Bx.mk (Pal.packE_bad hbad)
    have hcall := Bx.mk ((valid_pal a cap xs w (by omega) h).mono (R' := fun e w' => e = .returned (.bool false) ∧ w = w') (by rw [hall]; exact fun _ _ h => h))
    clear hall hbad
    generalize xs.length = n at *
    go_enter Try.func11, Try.ntmps11
    go_wp2_with (first | (go_at_call 27; refine (hcall.out).mono ?_; rintro e w' ⟨rfl, rfl⟩))
    go_ret2
    exact ⟨ret_str (by rw [h1.out]; rfl) h2.out.symm, Below.refl _ _⟩
  | true =>
    have hbad : Pal.bad xs = false := by simp [Pal.bad, hall]; omega
    have h2 := Bx.mk (Pal.packE_good hbad)
    have hcall := Bx.mk ((valid_pal a cap xs w (by omega) h).mono (R' := fun e w' => e = .returned (.bool true) ∧ w = w') (by rw [hall]; exact fun _ _ h => h))
    have Hall := Bx.mk hall
    clear hall
    by_cases h0 : xs.length = 0
    · have h1 := Bx.mk (Pal.packB_nil hbad h0)
      clear hbad h
      have hb : ((xs.length : Int) == 0) = true := by simp [h0]
      generalize xs.length = n at *
      clear h0
      have hcv := fun w : World => conv_str (P := Try.prog) (w := w.alloc (.cells #[.int .u8 0] 5)) 43 5 9 Try.underlying43 Try.underlying5 Try.underlying9 (a := some ⟨w.heap.size, 0, none⟩) (xs := [0]) (fun i x hx => ⟨w.heap.size, 0, rfl, by
        match i with
        | 0 => simp at hx; subst hx; exact cell_new w (.int .u8 0) 5
        | i + 1 => simp at hx⟩) 1 1 rfl
      go_enter Try.func11, Try.ntmps11
      go_wp2_with (first | (go_at_call 27; refine (hcall.out).mono ?_; rintro e w' ⟨rfl, rfl⟩))
      go_ret2
      exact ⟨ret_str (by rw [h1.out]) h2.out.symm, (Below.refl _ _).alloc (Nat.le_refl _) _⟩
    · have h1 := Bx.mk (Pal.packB_main hbad h0)
      have hb : ((xs.length : Int) == 0) = false := beq_eq_false_iff_ne.2 (by omega)
      have hmem := Bx.mk (Pal.mem_diff xs)
      have hdl := Pal.diff_length xs
      have hpal := Bx.mk (different_pal a cap xs w (by omega) h)
      clear hbad
      generalize hn : xs.length = n at *
      have Hn := Bx.mk hn; clear hn
      have hmain : Bx (Pal.packMain xs = ([(n : Int), ((Pal.diff xs).length : Int)] ++ Pal.diff xs) ++ Pal.packs (Pal.width (Pal.diff xs).length) (fun i => (Pal.diff xs).idxOf (xs.getD i 0)) n) := Bx.mk (by rw [← Hn.out]; rfl)
      generalize Pal.diff xs = p at *
      generalize hmd : p.length = m at *
      have Hm := Bx.mk hmd; clear hmd
      go_enter Try.func11, Try.ntmps11
      go_wp2_with (first
        | (go_at_call 27; refine (hcall.out).mono ?_; rintro e w' ⟨rfl, rfl⟩)
        | (go_at_call 28; refine (hpal.out).mono ?_; rintro e w1 ⟨v, rfl, hown, hbel⟩; obtain ⟨pa, pc, rfl, hsl⟩ := hown.form; rw [Hm.out]))
      have hW0 : Below w1.heap.size w1 (w1.alloc (.cells #[.slice pa m pc] 22)) := (Below.refl _ _).alloc (Nat.le_refl _) _
      have hcp0 : (w1.alloc (.cells #[.slice pa m pc] 22)).cell? ⟨w1.heap.size, 0, none⟩ = some (.slice pa m pc) := cell_new _ _ _
      have hsz0 : (w1.alloc (.cells #[.slice pa m pc] 22)).heap.size = w1.heap.size + 1 := by simp
      generalize w1.alloc (.cells #[.slice pa m pc] 22) = w0 at *
      rw [← hsz0]
      have Hsz0 := Bx.mk hsz0
      clear hsz0
      go_loopw [5, 32] (fun v i wr => ∃ k : Nat, k ≤ m ∧ i = .int .i64 k ∧ Own wr w0.heap.size 5 .u8 v ([(n : Int), (m : Int)] ++ p.take k) ∧ Below w0.heap.size w0 wr) (fun _ i _ => m - (intOf i).toNat)
      case atStart => exact ⟨0, Nat.zero_le _, rfl, by rw [List.take_zero, List.append_nil]; exact Own.lit w0 _ _ _ _ _ 2 (Nat.le_refl _) (by simp [maxLen]) rfl rfl, (Below.refl _ _).alloc (Nat.le_refl _) _⟩
      case round =>
        obtain ⟨k, hk, rfl, hown2, hbel2⟩ := hrel
        have hsl2 := (hsl.below hW0).below hbel2
        by_cases hlt : k < m
        · obtain ⟨x, hx⟩ := at_lt Hm hlt
          obtain ⟨b, off, rfl, hcx⟩ := hsl2 k x hx
          have hxc : 0 ≤ x ∧ x ≤ 255 := by
            have h3 := (hmem.out x).1 (List.mem_of_getElem? hx)
            have h4 := List.all_eq_true.1 Hall.out x h3
            simpa [Pal.cell] using h4
          have htk := Bx.mk (show p.take (k + 1) = p.take k ++ [x] by rw [List.take_add_one, hx]; rfl)
          have hlen : ([(n : Int), (m : Int)] ++ p.take k).length ≤ 100000 := by simp; omega
          obtain ⟨hx0, hx1⟩ := hxc
          clear hx
          go_wp2_with (first | (
            at_builtin
            refine wpList_append_int rfl _ _ 43 rfl 5 .u8 (.int .u8 0) 1 (by omega) Try.underlying43 (by kernel_rfl) rfl w0.heap.size _ _ rfl (hown2.alloc _) x ⟨wr.heap.size, 0, none⟩ 1 rfl (cell_new _ _ _) (by omega) (le_alloc hbel2.size _) ?_
            intro v1 w2 hown3 hg1 _))
          go_roundw
          case rel => exact ⟨k+1, by omega, by go_num, by rw [htk.out, ← List.append_assoc]; exact hown3, (hbel2.alloc hbel2.size _).grown hg1 (le_alloc hbel2.size _) (fun g hg => (hown2.lt g hg).1)⟩
          case measure => simp [intOf]; omega
        · have hkn : k = m := by omega
          have hpre : p.take k = p := by rw [hkn, ← Hm.out, List.take_length]
          rw [hpre] at hown2
          clear hkn hpre
          have hprel : ([(n : Int), (m : Int)] ++ p).length ≤ 100 := by have := Hm.out; simp; omega
          have hpkl : (Pal.packs (Pal.width m) (fun i => List.idxOf (xs.getD i 0) p) n).length ≤ 1000 := by
            have hw8 : Pal.width m ≤ 8 := by unfold Pal.width; repeat (split <;> try omega)
            have : n * Pal.width m ≤ n * 8 := Nat.mul_le_mul_left _ hw8
            simp [Pal.packs]; omega
          have hwref := Bx.mk (fun W => width_pal m W (by omega))
          have hput : Bx (∀ W : World, Below w.heap.size w W → Below w1.heap.size w1 W → W.cell? ⟨w1.heap.size, 0, none⟩ = some (.slice pa m pc) → Calls Try.prog 29 #[.slice a n cap, .int .i64 (Pal.width m : Nat), .func (.func 31) #[] #[.pointer (some ⟨w1.heap.size, 0, none⟩)]] W fun e w' =>
              ∃ v, e = .returned v ∧ Own w' W.heap.size 5 .u8 v (Pal.packs (Pal.width m) (fun i => p.idxOf (xs.getD i 0)) n) ∧ Below W.heap.size W w') := Bx.mk (fun W hb1 hb2 hcW => by
            have := put_width a cap xs ⟨w1.heap.size, 0, none⟩ pa pc p W (by have := Hn.out; omega) (h.below hb1) (by have := Hn.out; have := Hm.out; omega) (fun x hx => (hmem.out x).2 hx) (by rw [Hm.out]; exact hcW) (hsl.below hb2)
            rw [Hn.out, Hm.out] at this
            exact this)
          generalize Pal.packs (Pal.width m) (fun i => List.idxOf (xs.getD i 0) p) n = pk at *
          generalize [(n : Int), (m : Int)] ++ p = pre at *
          generalize Pal.width m = wd at *
          have hcp := (hbel2.cell (p := ⟨w1.heap.size, 0, none⟩) (by have := Hsz0.out; simp; omega)).trans hcp0
          have hbw : Below w.heap.size w wr := (hbel.trans (hW0.mono hbel.size)).trans (hbel2.mono (by have := Hsz0.out; have := hbel.size; omega))
          have hb1 : Below w1.heap.size w1 wr := hW0.trans (hbel2.mono (by have := Hsz0.out; omega))
          go_wp2_with (first
            | (go_at_call 30; refine (hwref.out _).mono ?_; rintro e w3 ⟨rfl, hb3⟩; have hc3 := cell_later hb3 hcp)
            | (go_at_call 29; refine (hput.out _ (hbw.trans (hb3.mono hbw.size)) (hb1.trans (hb3.mono hb1.size)) hc3).mono ?_; rintro e w4 ⟨v4, rfl, hown4, hb4⟩; obtain ⟨a4, c4, rfl, hsl4⟩ := hown4.form)
            | (at_builtin
               refine wpList_append_ints rfl _ _ 43 rfl 5 .u8 (.int .u8 0) 1 (by omega) Try.underlying43 (by kernel_rfl) rfl w0.heap.size _ pre rfl ((hown2.below hb3).below hb4) pk _ _ c4 rfl rfl hsl4 (by omega) (Nat.le_trans hbel2.size (Nat.le_trans hb3.size hb4.size)) ?_
               intro v5 w5 hown5 hg5 _
               obtain ⟨a5, c5, rfl, hsl5⟩ := hown5.form
               have hcv := conv_str (P := Try.prog) 43 5 9 Try.underlying43 Try.underlying5 Try.underlying9 hsl5 (pre.length + pk.length) c5 (by simp)))
          go_ret2
          have hb5 : Below w.heap.size w w4 := (hbw.trans (hb3.mono hbw.size)).trans (hb4.mono (Nat.le_trans hbw.size hb3.size))
          refine ⟨ret_str (by rw [h1.out, hmain.out]) h2.out.symm, hb5.grown hg5 hb5.size (fun g hg => ?_)⟩
          have := (((hown2.below hb3).below hb4).lt g hg).1
          have := hbel.size
          have := Hsz0.out
          omega
end Go.Proofs.Ytcgieiocbjkdlaa
