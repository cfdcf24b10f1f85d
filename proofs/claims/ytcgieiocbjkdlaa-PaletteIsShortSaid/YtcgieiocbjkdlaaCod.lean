/- Encode, Decode and Materials, of the program and of the specification; Brick; text. -/
import Derived.Test.YtcgieiocbjkdlaaRUnp
namespace Go.Proofs.Ytcgieiocbjkdlaa
open Go.RowKit

theorem law_text (a : Option Addr) (cap : Nat) (xs : List Int) (w : World) (h : Sl w .u8 a xs) :
    Calls Try.prog 26 #[.slice a xs.length cap] w fun e w' => e = .returned (.string (strOfNums xs)) ∧ w = w' := by
  have hcv := conv_str (P := Try.prog) 43 5 9 Try.underlying43 Try.underlying5 Try.underlying9 h _ cap rfl
  go_enter Try.func26, Try.ntmps26
  go_wp2
  go_ret
  exact ⟨rfl, rfl⟩

theorem ref_brick (a : Option Addr) (cap : Nat) (xs : List Int) (w : World) (hl : xs.length ≤ 1000) (h : Sl w .i64 a xs) :
    Calls Try.prog 39 #[.slice a xs.length cap] w fun e w' => e = .returned (.bool (Pal.brick xs)) ∧ w = w' := by
  have hc := Bx.mk (ref_cells a cap xs w (by omega) h)
  by_cases h64 : xs.length = 64
  · have hb : ((xs.length : Int) == 64) = true := beq_iff_eq.2 (by omega)
    have hr := Bx.mk (show Pal.brick xs = xs.all Pal.cell by simp [Pal.brick, h64])
    generalize xs.all Pal.cell = bb at *
    generalize Pal.brick xs = bk at *
    clear h64 h
    generalize xs.length = n at *
    go_enter Try.func39, Try.ntmps39
    go_wp2_with (first | (go_at_call 33; refine (hc.out).mono ?_; rintro e w' ⟨rfl, rfl⟩))
    go_ret
    exact ⟨ret_bool hr.out.symm, rfl⟩
  · have hb : ((xs.length : Int) == 64) = false := beq_eq_false_iff_ne.2 (by omega)
    have hr := Bx.mk (show Pal.brick xs = false by simp [Pal.brick, h64])
    generalize Pal.brick xs = bk at *
    clear h64 h
    generalize xs.length = n at *
    go_enter Try.func39, Try.ntmps39
    go_wp2
    go_ret
    exact ⟨ret_bool hr.out.symm, rfl⟩

theorem pal_encode (a : Option Addr) (cap : Nat) (xs : List Int) (w : World) (hl : xs.length ≤ 1000) (h : Sl w .i64 a xs) :
    Calls Try.prog 16 #[.slice a xs.length cap] w fun e w' => e = .returned (.tuple #[.string (strOfNums (Pal.encB xs)), .int .i64 (Pal.encE xs)]) ∧ Below w.heap.size w w' := by
  have hc := Bx.mk (pal_pack a cap xs w hl h)
  by_cases h64 : xs.length = 64
  · have hb : ((xs.length : Int) != 64) = false := by simp; omega
    have h1 := Bx.mk (show Pal.encB xs = Pal.packB xs by simp [Pal.encB, h64])
    have h2 := Bx.mk (show Pal.encE xs = Pal.packE xs by simp [Pal.encE, h64])
    generalize Pal.encB xs = eb at *
    generalize Pal.encE xs = ee at *
    clear h64 h
    generalize xs.length = n at *
    go_enter Try.func16, Try.ntmps16
    go_wp2_with (first | (go_at_call 11; refine (hc.out).mono ?_; rintro e w1 ⟨rfl, hb1⟩))
    go_ret2
    exact ⟨ret_str (by rw [h1.out]) h2.out.symm, hb1⟩
  · have hb : ((xs.length : Int) != 64) = true := by simp; omega
    have h1 := Bx.mk (show Pal.encB xs = [] by simp [Pal.encB, h64])
    have h2 := Bx.mk (show Pal.encE xs = 1 by simp [Pal.encE, h64])
    generalize Pal.encB xs = eb at *
    generalize Pal.encE xs = ee at *
    clear h64 h
    generalize xs.length = n at *
    go_enter Try.func16, Try.ntmps16
    go_wp2
    go_ret2
    exact ⟨ret_str (by rw [h1.out]; rfl) h2.out.symm, Below.refl _ _⟩

theorem ref_encode (a : Option Addr) (cap : Nat) (xs : List Int) (w : World) (hl : xs.length ≤ 1000) (h : Sl w .i64 a xs) :
    Calls Try.prog 17 #[.slice a xs.length cap] w fun e w' => e = .returned (.tuple #[.string (strOfNums (Pal.encB xs)), .int .i64 (Pal.encE xs)]) ∧ Below w.heap.size w w' := by
  have hc := Bx.mk (ref_pack a cap xs w hl h)
  by_cases h64 : xs.length = 64
  · have hb : ((xs.length : Int) != 64) = false := by simp; omega
    have h1 := Bx.mk (show Pal.encB xs = Pal.packB xs by simp [Pal.encB, h64])
    have h2 := Bx.mk (show Pal.encE xs = Pal.packE xs by simp [Pal.encE, h64])
    generalize Pal.encB xs = eb at *
    generalize Pal.encE xs = ee at *
    clear h64 h
    generalize xs.length = n at *
    go_enter Try.func17, Try.ntmps17
    go_wp2_with (first | (go_at_call 12; refine (hc.out).mono ?_; rintro e w1 ⟨rfl, hb1⟩))
    go_ret2
    exact ⟨ret_str (by rw [h1.out]) h2.out.symm, hb1⟩
  · have hb : ((xs.length : Int) != 64) = true := by simp; omega
    have h1 := Bx.mk (show Pal.encB xs = [] by simp [Pal.encB, h64])
    have h2 := Bx.mk (show Pal.encE xs = 1 by simp [Pal.encE, h64])
    generalize Pal.encB xs = eb at *
    generalize Pal.encE xs = ee at *
    clear h64 h
    generalize xs.length = n at *
    go_enter Try.func17, Try.ntmps17
    go_wp2
    go_ret2
    exact ⟨ret_str (by rw [h1.out]; rfl) h2.out.symm, Below.refl _ _⟩

theorem pal_decode (t : List Int) (w : World) (hb : Byt t) (ht : t.length ≤ 1000000) :
    Calls Try.prog 18 #[.string (strOfNums t)] w (RetSl .i64 (Pal.dec t).1 (Pal.dec t).2 w) := by
  have hc := Bx.mk (pal_unpack t w hb ht)
  have hd : Bx (Pal.dec t = if (Pal.unp t).2.2 ≠ 0 then ([], (Pal.unp t).2.2) else if (Pal.unp t).2.1 ≠ (t.length : Int) ∨ (Pal.unp t).1.length ≠ 64 then ([], 6) else ((Pal.unp t).1, 0)) := Bx.mk rfl
  generalize Pal.dec t = d at *
  generalize Pal.unp t = u at *
  obtain ⟨cells, n, e⟩ := u
  have hsz := strOfNums_size t
  generalize t.length = tl at *
  generalize strOfNums t = S at *
  clear hb
  by_cases he : e = 0
  · have hb1 : (e != 0) = false := by simp [he]
    have hd2 : Bx (d = if n ≠ (tl : Int) ∨ cells.length ≠ 64 then ([], 6) else (cells, 0)) := Bx.mk (by have := hd.out; simpa [he] using this)
    clear he hd
    by_cases hn : n = (tl : Int)
    · have hb2 : (n != (tl : Int)) = false := by simp [hn]
      by_cases hcl : cells.length = 64
      · have hb3 : ((cells.length : Int) != 64) = false := by simp; omega
        have hd3 := Bx.mk (show d = (cells, 0) by have := hd2.out; simpa [hn, hcl] using this)
        clear hn hcl hd2
        go_enter Try.func18, Try.ntmps18
        go_wp2_with (first | (go_at_call 13; refine (hc.out).mono ?_; rintro e w1 ⟨a, cap, rfl, hsl, hb1⟩))
        go_ret2
        rw [hd3.out]
        exact ⟨a, cap, rfl, hsl, hb1⟩
      · have hb3 : ((cells.length : Int) != 64) = true := by simp; omega
        have hd3 := Bx.mk (show d = ([], 6) by have := hd2.out; simpa [hn, hcl] using this)
        clear hn hcl hd2
        go_enter Try.func18, Try.ntmps18
        go_wp2_with (first | (go_at_call 13; refine (hc.out).mono ?_; rintro e w1 ⟨a, cap, rfl, hsl, hb1⟩))
        go_ret2
        rw [hd3.out]
        exact ret_sl_nil rfl hb1 rfl
    · have hb2 : (n != (tl : Int)) = true := by simp [hn]
      have hd3 := Bx.mk (show d = ([], 6) by have := hd2.out; simpa [hn] using this)
      clear hn hd2
      go_enter Try.func18, Try.ntmps18
      go_wp2_with (first | (go_at_call 13; refine (hc.out).mono ?_; rintro e w1 ⟨a, cap, rfl, hsl, hb1⟩))
      go_ret2
      rw [hd3.out]
      exact ret_sl_nil rfl hb1 rfl
  · have hb1 : (e != 0) = true := by simp [he]
    have hd2 := Bx.mk (show d = ([], e) by have := hd.out; simpa [he] using this)
    clear he hd
    go_enter Try.func18, Try.ntmps18
    go_wp2_with (first | (go_at_call 13; refine (hc.out).mono ?_; rintro e w1 ⟨a, cap, rfl, hsl, hb1⟩))
    go_ret2
    rw [hd2.out]
    exact ret_sl_nil rfl hb1 rfl
theorem ref_decode (t : List Int) (w : World) (hb : Byt t) (ht : t.length ≤ 1000000) :
    Calls Try.prog 19 #[.string (strOfNums t)] w (RetSl .i64 (Pal.dec t).1 (Pal.dec t).2 w) := by
  have hc := Bx.mk (ref_unpack t w hb ht)
  have hd : Bx (Pal.dec t = if (Pal.unp t).2.2 ≠ 0 then ([], (Pal.unp t).2.2) else if (Pal.unp t).2.1 ≠ (t.length : Int) ∨ (Pal.unp t).1.length ≠ 64 then ([], 6) else ((Pal.unp t).1, 0)) := Bx.mk rfl
  generalize Pal.dec t = d at *
  generalize Pal.unp t = u at *
  obtain ⟨cells, n, e⟩ := u
  have hsz := strOfNums_size t
  generalize t.length = tl at *
  generalize strOfNums t = S at *
  clear hb
  by_cases he : e = 0
  · have hb1 : (e != 0) = false := by simp [he]
    have hd2 : Bx (d = if n ≠ (tl : Int) ∨ cells.length ≠ 64 then ([], 6) else (cells, 0)) := Bx.mk (by have := hd.out; simpa [he] using this)
    clear he hd
    by_cases hn : n = (tl : Int)
    · have hb2 : (n != (tl : Int)) = false := by simp [hn]
      by_cases hcl : cells.length = 64
      · have hb3 : ((cells.length : Int) != 64) = false := by simp; omega
        have hd3 := Bx.mk (show d = (cells, 0) by have := hd2.out; simpa [hn, hcl] using this)
        clear hn hcl hd2
        go_enter Try.func19, Try.ntmps19
        go_wp2_with (first | (go_at_call 14; refine (hc.out).mono ?_; rintro e w1 ⟨a, cap, rfl, hsl, hb1⟩))
        go_ret2
        rw [hd3.out]
        exact ⟨a, cap, rfl, hsl.below ((Below.refl _ _).alloc (Nat.le_refl _) _), hb1.alloc hb1.size _⟩
      · have hb3 : ((cells.length : Int) != 64) = true := by simp; omega
        have hd3 := Bx.mk (show d = ([], 6) by have := hd2.out; simpa [hn, hcl] using this)
        clear hn hcl hd2
        go_enter Try.func19, Try.ntmps19
        go_wp2_with (first | (go_at_call 14; refine (hc.out).mono ?_; rintro e w1 ⟨a, cap, rfl, hsl, hb1⟩))
        go_ret2
        rw [hd3.out]
        exact ret_sl_nil rfl (hb1.alloc hb1.size _) rfl
    · have hb2 : (n != (tl : Int)) = true := by simp [hn]
      have hd3 := Bx.mk (show d = ([], 6) by have := hd2.out; simpa [hn] using this)
      clear hn hd2
      go_enter Try.func19, Try.ntmps19
      go_wp2_with (first | (go_at_call 14; refine (hc.out).mono ?_; rintro e w1 ⟨a, cap, rfl, hsl, hb1⟩))
      go_ret2
      rw [hd3.out]
      exact ret_sl_nil rfl (hb1.alloc hb1.size _) rfl
  · have hb1 : (e != 0) = true := by simp [he]
    have hd2 := Bx.mk (show d = ([], e) by have := hd.out; simpa [he] using this)
    clear he hd
    go_enter Try.func19, Try.ntmps19
    go_wp2_with (first | (go_at_call 14; refine (hc.out).mono ?_; rintro e w1 ⟨a, cap, rfl, hsl, hb1⟩))
    go_quiet (fail)
    go_wp2_with fail
    go_ret2
    rw [hd2.out]
    exact ret_sl_nil rfl (below_drewN (hb1.alloc hb1.size _) _) rfl

theorem pal_materials (t : List Int) (w : World) (hb : Byt t) (ht : t.length ≤ 1000000) :
    Calls Try.prog 20 #[.string (strOfNums t)] w (RetSl .i64 (Pal.mat t).1 (Pal.mat t).2 w) := by
  have hc := Bx.mk (pal_decode t w hb ht)
  have hl := Pal.dec_length t
  have hm : Bx (Pal.mat t = (Pal.diff (Pal.dec t).1, (Pal.dec t).2)) := Bx.mk rfl
  generalize Pal.mat t = mt at *
  generalize Pal.dec t = u at *
  obtain ⟨cells, e⟩ := u
  have hl2 : cells.length ≤ 1000000 := Nat.le_trans hl (by decide)
  clear hl
  generalize strOfNums t = S at *
  clear hb ht
  go_enter Try.func20, Try.ntmps20
  go_wp2_with (first
    | (go_at_call 18; refine (hc.out).mono ?_; rintro e w1 ⟨a, cap, rfl, hsl, hb1⟩)
    | (go_at_call 28; refine (different_pal _ _ _ _ hl2 hsl).mono ?_; rintro e w2 ⟨v, rfl, hown, hb2⟩))
  go_ret2
  rw [hm.out]
  exact ret_sl hown (hb1.trans (hb2.mono hb1.size)) rfl

theorem ref_materials (t : List Int) (w : World) (hb : Byt t) (ht : t.length ≤ 1000000) :
    Calls Try.prog 21 #[.string (strOfNums t)] w (RetSl .i64 (Pal.mat t).1 (Pal.mat t).2 w) := by
  have hc := Bx.mk (ref_decode t w hb ht)
  have hl := Pal.dec_length t
  have hm : Bx (Pal.mat t = (Pal.diff (Pal.dec t).1, (Pal.dec t).2)) := Bx.mk rfl
  generalize Pal.mat t = mt at *
  generalize Pal.dec t = u at *
  obtain ⟨cells, e⟩ := u
  have hl2 : cells.length ≤ 1000000 := Nat.le_trans hl (by decide)
  clear hl
  generalize strOfNums t = S at *
  clear hb ht
  go_enter Try.func21, Try.ntmps21
  go_wp2_with (first
    | (go_at_call 19; refine (hc.out).mono ?_; rintro e w1 ⟨a, cap, rfl, hsl, hb1⟩)
    | (go_at_call 34; refine (ref_palette _ _ _ _ hl2 hsl).mono ?_; rintro e w2 ⟨v, rfl, hown, hb2⟩))
  go_ret2
  rw [hm.out]
  exact ret_sl hown (hb1.trans (hb2.mono hb1.size)) rfl
end Go.Proofs.Ytcgieiocbjkdlaa
