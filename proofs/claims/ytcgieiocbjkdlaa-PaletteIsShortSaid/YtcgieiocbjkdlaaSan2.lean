/- sanity answers true. Printed by gen_san2.py. -/
import Derived.Test.YtcgieiocbjkdlaaSan
namespace Go.Proofs.Ytcgieiocbjkdlaa
open Go.RowKit

set_option maxRecDepth 100000 in
set_option maxHeartbeats 4000000 in
theorem sanity_true (w : World) : Calls Try.prog 10 #[] w fun e w' => e = .returned (.bool true) ∧ Below w.heap.size w w' := by
  have c0 : Bx (∀ W : World, Calls Try.prog 11 #[.slice (some ⟨W.heap.size, 0, none⟩) 4 4] (W.alloc (.cells #[.int .i64 7, .int .i64 7, .int .i64 3, .int .i64 7] 3)) fun e w' => e = .returned (.tuple #[.string (strOfNums [4, 2, 7, 3, 4]), .int .i64 0]) ∧ Below W.heap.size W w') := ⟨fun W => san_pack W [7, 7, 3, 7] [4, 2, 7, 3, 4] (by decide) (by decide +kernel) (by decide +kernel)⟩
  have c1 : Bx (∀ W : World, Calls Try.prog 11 #[.slice (some ⟨W.heap.size, 0, none⟩) 3 3] (W.alloc (.cells #[.int .i64 9, .int .i64 8, .int .i64 7] 3)) fun e w' => e = .returned (.tuple #[.string (strOfNums [3, 3, 9, 8, 7, 36]), .int .i64 0]) ∧ Below W.heap.size W w') := ⟨fun W => san_pack W [9, 8, 7] [3, 3, 9, 8, 7, 36] (by decide) (by decide +kernel) (by decide +kernel)⟩
  have c2 : Bx (∀ W : World, Calls Try.prog 11 #[.slice none 0 0] W fun e w' => e = .returned (.tuple #[.string (strOfNums [0]), .int .i64 0]) ∧ Below W.heap.size W w') := ⟨fun W => (pal_pack none 0 [] W (by decide) (Sl.nil _ _ _)).mono (by rintro e w' ⟨rfl, hb⟩; exact ⟨ret_str (by decide +kernel) (by decide +kernel), hb⟩)⟩
  have t3 : Bx (∀ W : World, Calls Try.prog 26 #[.slice (some ⟨W.heap.size, 0, none⟩) 6 6] (W.alloc (.cells #[.int .u8 4, .int .u8 2, .int .u8 7, .int .u8 3, .int .u8 4, .int .u8 99] 5)) fun e w' => e = .returned (.string (strOfNums [4, 2, 7, 3, 4, 99])) ∧ Below W.heap.size W w') := ⟨fun W => san_text W [4, 2, 7, 3, 4, 99]⟩
  have u4 : Bx (∀ W : World, Calls Try.prog 13 #[.string (strOfNums [4, 2, 7, 3, 4, 99])] W (RetSl3 .i64 ([7, 7, 3, 7], 5, 0) W)) := ⟨fun W => san_unpack W [4, 2, 7, 3, 4, 99] ([7, 7, 3, 7], 5, 0) (by unfold Byt; decide) (by decide) san_u1⟩
  have t5 : Bx (∀ W : World, Calls Try.prog 26 #[.slice (some ⟨W.heap.size, 0, none⟩) 4 4] (W.alloc (.cells #[.int .u8 4, .int .u8 2, .int .u8 7, .int .u8 3] 5)) fun e w' => e = .returned (.string (strOfNums [4, 2, 7, 3])) ∧ Below W.heap.size W w') := ⟨fun W => san_text W [4, 2, 7, 3]⟩
  have u6 : Bx (∀ W : World, Calls Try.prog 13 #[.string (strOfNums [4, 2, 7, 3])] W (RetSl3 .i64 ([], 0, 5) W)) := ⟨fun W => san_unpack W [4, 2, 7, 3] ([], 0, 5) (by unfold Byt; decide) (by decide) san_u2⟩
  have t7 : Bx (∀ W : World, Calls Try.prog 26 #[.slice (some ⟨W.heap.size, 0, none⟩) 5 5] (W.alloc (.cells #[.int .u8 4, .int .u8 2, .int .u8 7, .int .u8 3, .int .u8 20] 5)) fun e w' => e = .returned (.string (strOfNums [4, 2, 7, 3, 20])) ∧ Below W.heap.size W w') := ⟨fun W => san_text W [4, 2, 7, 3, 20]⟩
  have u8 : Bx (∀ W : World, Calls Try.prog 13 #[.string (strOfNums [4, 2, 7, 3, 20])] W (RetSl3 .i64 ([], 0, 6) W)) := ⟨fun W => san_unpack W [4, 2, 7, 3, 20] ([], 0, 6) (by unfold Byt; decide) (by decide) san_u3⟩
  have t9 : Bx (∀ W : World, Calls Try.prog 26 #[.slice (some ⟨W.heap.size, 0, none⟩) 5 5] (W.alloc (.cells #[.int .u8 2, .int .u8 2, .int .u8 7, .int .u8 7, .int .u8 2] 5)) fun e w' => e = .returned (.string (strOfNums [2, 2, 7, 7, 2])) ∧ Below W.heap.size W w') := ⟨fun W => san_text W [2, 2, 7, 7, 2]⟩
  have u10 : Bx (∀ W : World, Calls Try.prog 13 #[.string (strOfNums [2, 2, 7, 7, 2])] W (RetSl3 .i64 ([], 0, 6) W)) := ⟨fun W => san_unpack W [2, 2, 7, 7, 2] ([], 0, 6) (by unfold Byt; decide) (by decide) san_u4⟩
  have d1 : Bx (∀ (W : World) (a b : Option Addr) (c d : Nat), Sl W .i64 a ones → Sl W .i64 b nine → Calls Try.prog 22 #[.slice a 64 c, .slice b 64 d] W fun e w' => e = .returned (.tuple #[.string (strOfNums [0, 2, 0, 0, 0, 0, 0, 0, 1, 1, 6]), .int .i64 0]) ∧ Below W.heap.size W w') := ⟨fun W a b c d h1 h2 => (pal_delta a b c d ones nine W (by decide) (by decide) h1 h2).mono (by rintro e w' ⟨rfl, hb⟩; exact ⟨ret_str (by rw [san_dltB]) san_dltE, hb⟩)⟩
  have p1 : Bx (∀ (W : World) (a : Option Addr) (c : Nat), Sl W .i64 a ones → Calls Try.prog 24 #[.slice a 64 c, .string (strOfNums [0, 2, 0, 0, 0, 0, 0, 0, 1, 1, 6])] W fun e w' => ∃ a' c', e = .returned (.tuple #[.slice a' 64 c', .int .i64 0]) ∧ Sl w' .i64 a' nine ∧ Below W.heap.size W w') := ⟨fun W a c h => by have := pal_patch a c ones [0, 2, 0, 0, 0, 0, 0, 0, 1, 1, 6] W (by decide) h san_dByt (by decide); rw [san_pat] at this; exact this⟩
  have e1 : Bx (∀ (W : World) (a : Option Addr) (c : Nat), Sl W .i64 a nine → Calls Try.prog 16 #[.slice a 64 c] W fun e w' => e = .returned (.tuple #[.string (strOfNums (Pal.encB nine)), .int .i64 0]) ∧ Below W.heap.size W w') := ⟨fun W a c h => (pal_encode a c nine W (by decide) h).mono (by rintro e w' ⟨rfl, hb⟩; exact ⟨ret_str rfl san_encE, hb⟩)⟩
  have f1 : Bx (∀ W : World, Calls Try.prog 18 #[.string (strOfNums (Pal.encB nine))] W fun e w' => ∃ a' c', e = .returned (.tuple #[.slice a' 64 c', .int .i64 0]) ∧ Sl w' .i64 a' nine ∧ Below W.heap.size W w') := ⟨fun W => by have := pal_decode (Pal.encB nine) W san_encByt (by rw [san_encL]; decide); rw [san_dec] at this; exact this⟩
  have m1 : Bx (∀ W : World, Calls Try.prog 20 #[.string (strOfNums (Pal.encB nine))] W fun e w' => ∃ a' c', e = .returned (.tuple #[.slice a' 2 c', .int .i64 0]) ∧ Sl w' .i64 a' [1, 6] ∧ Below W.heap.size W w') := ⟨fun W => by have := pal_materials (Pal.encB nine) W san_encByt (by rw [san_encL]; decide); rw [san_mat] at this; exact this⟩
  have q1 : Bx (∀ (W : World) (a b : Option Addr) (c d : Nat), Sl W .i64 a nine → Sl W .i64 b nine → Calls Try.prog 15 #[.slice a 64 c, .slice b 64 d] W fun e w' => e = .returned (.bool true) ∧ Below W.heap.size W w') := ⟨fun W a b c d h1 h2 => (ref_same a b c d nine nine W (by decide) (by decide) h1 h2).mono (by rintro e w' ⟨rfl, hb⟩; exact ⟨ret_bool (by simp), hb⟩)⟩
  have hsE : (strOfNums (Pal.encB nine)).size = 12 := (strOfNums_size _).trans san_encL
  generalize strOfNums (Pal.encB nine) = SE at *
  have t19 : Bx (∀ W : World, Calls Try.prog 26 #[.slice (some ⟨W.heap.size, 0, none⟩) 5 5] (W.alloc (.cells #[.int .u8 4, .int .u8 2, .int .u8 7, .int .u8 3, .int .u8 4] 5)) fun e w' => e = .returned (.string (strOfNums [4, 2, 7, 3, 4])) ∧ Below W.heap.size W w') := ⟨fun W => san_text W [4, 2, 7, 3, 4]⟩
  have t20 : Bx (∀ W : World, Calls Try.prog 26 #[.slice (some ⟨W.heap.size, 0, none⟩) 6 6] (W.alloc (.cells #[.int .u8 3, .int .u8 3, .int .u8 9, .int .u8 8, .int .u8 7, .int .u8 36] 5)) fun e w' => e = .returned (.string (strOfNums [3, 3, 9, 8, 7, 36])) ∧ Below W.heap.size W w') := ⟨fun W => san_text W [3, 3, 9, 8, 7, 36]⟩
  have t21 : Bx (∀ W : World, Calls Try.prog 26 #[.slice (some ⟨W.heap.size, 0, none⟩) 1 1] (W.alloc (.cells #[.int .u8 0] 5)) fun e w' => e = .returned (.string (strOfNums [0])) ∧ Below W.heap.size W w') := ⟨fun W => san_text W [0]⟩
  have s22 : Bx (∀ (W : World) (a : Option Addr) (c : Nat), Sl W .i64 a [7, 7, 3, 7] → Calls Try.prog 15 #[.slice a 4 c, .slice (some ⟨W.heap.size, 0, none⟩) 4 4] (W.alloc (.cells #[.int .i64 7, .int .i64 7, .int .i64 3, .int .i64 7] 3)) fun e w' => e = .returned (.bool true) ∧ Below W.heap.size W w') := ⟨fun W a c h => san_same W a c [7, 7, 3, 7] (by decide) h⟩
  have t23 : Bx (∀ W : World, Calls Try.prog 26 #[.slice (some ⟨W.heap.size, 0, none⟩) 11 11] (W.alloc (.cells #[.int .u8 0, .int .u8 2, .int .u8 0, .int .u8 0, .int .u8 0, .int .u8 0, .int .u8 0, .int .u8 0, .int .u8 1, .int .u8 1, .int .u8 6] 5)) fun e w' => e = .returned (.string (strOfNums [0, 2, 0, 0, 0, 0, 0, 0, 1, 1, 6])) ∧ Below W.heap.size W w') := ⟨fun W => san_text W [0, 2, 0, 0, 0, 0, 0, 0, 1, 1, 6]⟩
  have s24 : Bx (∀ (W : World) (a : Option Addr) (c : Nat), Sl W .i64 a [1, 6] → Calls Try.prog 15 #[.slice a 2 c, .slice (some ⟨W.heap.size, 0, none⟩) 2 2] (W.alloc (.cells #[.int .i64 1, .int .i64 6] 3)) fun e w' => e = .returned (.bool true) ∧ Below W.heap.size W w') := ⟨fun W a c h => san_same W a c [1, 6] (by decide) h⟩
  have hB := Below.refl w.heap.size w
  go_enter Try.func10, Try.ntmps10
  go_wp2_with fail
  refine (c0.out _).mono ?_
  rintro e w1 ⟨rfl, hb⟩
  replace hB := hB.trans (hb.mono hB.size)
  clear hb
  go_wp2_with fail
  refine (c1.out _).mono ?_
  rintro e w2 ⟨rfl, hb⟩
  replace hB := hB.trans (hb.mono hB.size)
  clear hb
  go_wp2_with fail
  refine (c2.out _).mono ?_
  rintro e w3 ⟨rfl, hb⟩
  replace hB := hB.trans (hb.mono hB.size)
  clear hb
  go_wp2_with fail
  refine (t3.out _).mono ?_
  rintro e w4 ⟨rfl, hb⟩
  replace hB := hB.trans (hb.mono hB.size)
  clear hb
  go_wp2_with fail
  refine (u4.out _).mono ?_
  rintro e w5 ⟨al, cl, rfl, hsl, hb⟩
  replace hB := hB.trans (hb.mono hB.size)
  clear hb
  go_wp2_with fail
  refine (t5.out _).mono ?_
  rintro e w6 ⟨rfl, hb⟩
  replace hB := hB.trans (hb.mono hB.size)
  replace hsl := hsl.below hb
  clear hb
  go_wp2_with fail
  refine (u6.out _).mono ?_
  rintro e w7 ⟨_, _, rfl, _, hb⟩
  replace hB := hB.trans (hb.mono hB.size)
  replace hsl := hsl.below hb
  clear hb
  go_wp2_with fail
  refine (t7.out _).mono ?_
  rintro e w8 ⟨rfl, hb⟩
  replace hB := hB.trans (hb.mono hB.size)
  replace hsl := hsl.below hb
  clear hb
  go_wp2_with fail
  refine (u8.out _).mono ?_
  rintro e w9 ⟨_, _, rfl, _, hb⟩
  replace hB := hB.trans (hb.mono hB.size)
  replace hsl := hsl.below hb
  clear hb
  go_wp2_with fail
  refine (t9.out _).mono ?_
  rintro e w10 ⟨rfl, hb⟩
  replace hB := hB.trans (hb.mono hB.size)
  replace hsl := hsl.below hb
  clear hb
  go_wp2_with fail
  refine (u10.out _).mono ?_
  rintro e w11 ⟨_, _, rfl, _, hb⟩
  replace hB := hB.trans (hb.mono hB.size)
  replace hsl := hsl.below hb
  clear hb
  have hmk : ∀ W, (Instr.makeSlice 22 (.int .i64 64) (.int .i64 64)).run Try.prog W = .ok (.slice (some ⟨W.heap.size, 0, none⟩) 64 64) (W.alloc (.cells (madeCells #[.int .i64 0] 64) 3)) :=
    fun W => run_make_row' (P := Try.prog) 22 3 (.int .i64 0) 8 Try.underlying22 (by kernel_rfl) rfl .i64 .i64 64 (by omega) (by omega) W
  go_wp2_with fail
  clear hmk
  go_loopw [21] (fun i wr => ∃ k : Nat, k ≤ 64 ∧ i = .int .i64 k ∧ wr.rowIs w11.heap.size 3 64 (fun j => .int .i64 (if j < k then 1 else 0)) ∧ wr.rowIs (w11.heap.size + 1) 3 64 (fun j => .int .i64 (if j < k then 1 else 0)) ∧ Below w11.heap.size w11 wr) (fun i _ => 64 - (intOf i).toNat)
  case atStart => exact ⟨0, Nat.zero_le _, rfl, (World.rowIs_made _ _ _ _).alloc _ |>.congr (fun i _ => rfl), (by have := World.rowIs_made (w11.alloc (.cells (madeCells #[.int .i64 0] 64) 3)) (.int .i64 0) 64 3; simpa using this), ((Below.refl _ _).alloc (Nat.le_refl _) _).alloc (by simp) _⟩
  case round =>
    obtain ⟨k, hk, rfl, hr1, hr2, hb⟩ := hrel
    by_cases hlt : k < 64
    · have hc1 := hr1.cell hlt
      have hc2 := hr2.cell hlt
      have hf1 := hr1.frozen k
      have hf2 := hr2.frozen k
      have hr1' := Bx.mk hr1
      have hr2' := Bx.mk hr2
      clear hr1 hr2
      go_wp2
      go_roundw
      case rel =>
        refine ⟨k + 1, by omega, by go_num, ?_, ?_, (hb.setCell (Nat.le_refl _) _).setCell (by simp) _⟩
        · refine ((hr1'.out.set k (.int .i64 1)).setOther (by simp) _).congr (fun j hj => ?_)
          by_cases e : j = k
          · rw [if_pos e, if_pos (by omega)]
          · rw [if_neg e]; by_cases h : j < k
            · rw [if_pos h, if_pos (by omega)]
            · rw [if_neg h, if_neg (by omega)]
        · refine ((hr2'.out.setOther (by simp) _).set k (.int .i64 1)).congr (fun j hj => ?_)
          by_cases e : j = k
          · rw [if_pos e, if_pos (by omega)]
          · rw [if_neg e]; by_cases h : j < k
            · rw [if_pos h, if_pos (by omega)]
            · rw [if_neg h, if_neg (by omega)]
      case measure => simp [intOf]; omega
    · have hk64 : k = 64 := by omega
      rw [hk64] at hr1 hr2
      clear hk64
      have hc2 := hr2.cell (show 9 < 64 by decide)
      have hf2 := hr2.frozen 9
      have hr2' := Bx.mk (hr2.set 9 (.int .i64 6))
      have hr1' := Bx.mk (hr1.setOther (a := ⟨w11.heap.size + 1, 9, none⟩) (by simp) (.int .i64 6))
      replace hb := hb.setCell (p := ⟨w11.heap.size + 1, 9, none⟩) (by simp) (.int .i64 6)
      clear hr1 hr2
      go_wp2_with fail
      replace hB := hB.trans (hb.mono hB.size)
      replace hsl := hsl.below hb
      have hold := rowIs_sl (F := fun j => if j < 64 then (1 : Int) else 0) hr1'.out
      rw [san_range1] at hold
      have hnew := rowIs_sl (F := fun j => if j = 9 then (6 : Int) else if j < 64 then 1 else 0) (hr2'.out.congr (g := fun j => .int .i64 (if j = 9 then (6 : Int) else if j < 64 then 1 else 0)) (fun j hj => by by_cases e : j = 9 <;> simp [e]))
      rw [san_range2] at hnew
      clear hb hr1' hr2' hc2 hf2
      go_wp2_with fail
      refine (d1.out _ _ _ _ _ hold hnew).mono ?_
      rintro e w12 ⟨rfl, hb⟩
      replace hB := hB.trans (hb.mono hB.size)
      replace hsl := hsl.below hb
      replace hold := hold.below hb
      replace hnew := hnew.below hb
      clear hb
      go_wp2_with fail
      refine (p1.out _ _ _ hold).mono ?_
      rintro e w13 ⟨ap, cp, rfl, hp, hb⟩
      replace hB := hB.trans (hb.mono hB.size)
      replace hsl := hsl.below hb
      replace hold := hold.below hb
      replace hnew := hnew.below hb
      clear hb
      go_wp2_with fail
      refine (e1.out _ _ _ hnew).mono ?_
      rintro e w14 ⟨rfl, hb⟩
      replace hB := hB.trans (hb.mono hB.size)
      replace hsl := hsl.below hb
      replace hold := hold.below hb
      replace hnew := hnew.below hb
      replace hp := hp.below hb
      clear hb
      go_wp2_with fail
      refine (f1.out _).mono ?_
      rintro e w15 ⟨ar, cr, rfl, hr, hb⟩
      replace hB := hB.trans (hb.mono hB.size)
      replace hsl := hsl.below hb
      replace hold := hold.below hb
      replace hnew := hnew.below hb
      replace hp := hp.below hb
      clear hb
      go_wp2_with fail
      refine (m1.out _).mono ?_
      rintro e w16 ⟨au, cu, rfl, hu, hb⟩
      replace hB := hB.trans (hb.mono hB.size)
      replace hsl := hsl.below hb
      replace hold := hold.below hb
      replace hnew := hnew.below hb
      replace hp := hp.below hb
      replace hr := hr.below hb
      clear hb
      go_wp2_with fail
      refine (t19.out _).mono ?_
      rintro e w17 ⟨rfl, hb⟩
      replace hB := hB.trans (hb.mono hB.size)
      replace hsl := hsl.below hb
      replace hold := hold.below hb
      replace hnew := hnew.below hb
      replace hp := hp.below hb
      replace hr := hr.below hb
      replace hu := hu.below hb
      clear hb
      go_wp2_with fail
      refine (t20.out _).mono ?_
      rintro e w18 ⟨rfl, hb⟩
      replace hB := hB.trans (hb.mono hB.size)
      replace hsl := hsl.below hb
      replace hold := hold.below hb
      replace hnew := hnew.below hb
      replace hp := hp.below hb
      replace hr := hr.below hb
      replace hu := hu.below hb
      clear hb
      go_wp2_with fail
      refine (t21.out _).mono ?_
      rintro e w19 ⟨rfl, hb⟩
      replace hB := hB.trans (hb.mono hB.size)
      replace hsl := hsl.below hb
      replace hold := hold.below hb
      replace hnew := hnew.below hb
      replace hp := hp.below hb
      replace hr := hr.below hb
      replace hu := hu.below hb
      clear hb
      go_wp2_with fail
      refine (s22.out _ _ _ hsl).mono ?_
      rintro e w20 ⟨rfl, hb⟩
      replace hB := hB.trans (hb.mono hB.size)
      replace hsl := hsl.below hb
      replace hold := hold.below hb
      replace hnew := hnew.below hb
      replace hp := hp.below hb
      replace hr := hr.below hb
      replace hu := hu.below hb
      clear hb
      go_wp2_with fail
      refine (t23.out _).mono ?_
      rintro e w21 ⟨rfl, hb⟩
      replace hB := hB.trans (hb.mono hB.size)
      replace hsl := hsl.below hb
      replace hold := hold.below hb
      replace hnew := hnew.below hb
      replace hp := hp.below hb
      replace hr := hr.below hb
      replace hu := hu.below hb
      clear hb
      go_wp2_with fail
      refine (q1.out _ _ _ _ _ hp hnew).mono ?_
      rintro e w22 ⟨rfl, hb⟩
      replace hB := hB.trans (hb.mono hB.size)
      replace hsl := hsl.below hb
      replace hold := hold.below hb
      replace hnew := hnew.below hb
      replace hp := hp.below hb
      replace hr := hr.below hb
      replace hu := hu.below hb
      clear hb
      go_wp2_with fail
      refine (q1.out _ _ _ _ _ hr hnew).mono ?_
      rintro e w23 ⟨rfl, hb⟩
      replace hB := hB.trans (hb.mono hB.size)
      replace hsl := hsl.below hb
      replace hold := hold.below hb
      replace hnew := hnew.below hb
      replace hp := hp.below hb
      replace hr := hr.below hb
      replace hu := hu.below hb
      clear hb
      go_wp2_with fail
      refine (s24.out _ _ _ hu).mono ?_
      rintro e w24 ⟨rfl, hb⟩
      replace hB := hB.trans (hb.mono hB.size)
      replace hsl := hsl.below hb
      replace hold := hold.below hb
      replace hnew := hnew.below hb
      replace hp := hp.below hb
      replace hr := hr.below hb
      replace hu := hu.below hb
      clear hb
      go_wp2_with fail
      go_ret
      exact ⟨rfl, hB⟩
end Go.Proofs.Ytcgieiocbjkdlaa
