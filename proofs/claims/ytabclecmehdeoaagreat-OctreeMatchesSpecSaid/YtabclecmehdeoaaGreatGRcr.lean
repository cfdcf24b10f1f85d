import Derived.Test.YtabclecmehdeoaaGreatGRps
import Derived.Test.YtabclecmehdeoaaGreatGRst
section
/- voxelref07.Crop, voxelref09.Check, by the program. -/
namespace Go.Proofs.YtabclecmehdeoaaGreat
open Go.RowKit Go.Sort Go.Maps
open Oct

set_option maxRecDepth 100000 in
set_option maxHeartbeats 2000000 in
theorem ref_crop (a b c d e f a2 b2 c2 d2 e2 f2 : Int) (n : Nat) (hb : Option Addr) (hcp2 : Nat) (ys : List Int) (hok : okB ⟨⟨a, b, c⟩, ⟨d, e, f⟩⟩ = true) (he : emptyB ⟨⟨a, b, c⟩, ⟨d, e, f⟩⟩ = false) (hV : volB ⟨⟨a, b, c⟩, ⟨d, e, f⟩⟩ = n) (hle : n ≤ 300) (HX : GoodG ⟨⟨a2, b2, c2⟩, ⟨d2, e2, f2⟩⟩ ys hcp2) (w : World) (hsm : Sl w .i64 hb ys) :
    Calls Tryz.prog 74 #[.agg #[.int .i64 a2, .int .i64 b2, .int .i64 c2, .int .i64 d2, .int .i64 e2, .int .i64 f2, .slice hb ys.length hcp2], .agg #[.int .i64 a, .int .i64 b, .int .i64 c, .int .i64 d, .int .i64 e, .int .i64 f]] w fun e' w' => ∃ g cap, e' = .returned (.tuple #[.agg #[.int .i64 a, .int .i64 b, .int .i64 c, .int .i64 d, .int .i64 e, .int .i64 f, .slice (some ⟨g, 0, none⟩) n cap], .int .i64 0]) ∧ Sl w' .i64 (some ⟨g, 0, none⟩) (cellsOf ⟨⟨a, b, c⟩, ⟨d, e, f⟩⟩ (cellG ⟨⟨a2, b2, c2⟩, ⟨d2, e2, f2⟩⟩ ys)) ∧ Below w.heap.size w w' := by
  have hnew := Bx.mk fun W => ref_new a b c d e f hok he n hV hle W
  have hpos : 0 < n := by have := atB_pos he; omega
  have hpas := Bx.mk fun (pb po cap : Nat) W (h : Sl W .i64 (some ⟨pb, po, none⟩) (List.replicate n 0)) (h' : Sl W .i64 hb ys) => ref_paste a b c d e f a2 b2 c2 d2 e2 f2 pb po n cap hb hcp2 ys (okB_small hok) hV hpos hle HX W h h'
  have Hsm := Bx.mk hsm
  clear hok he hV HX hsm
  generalize cellsOf ⟨⟨a, b, c⟩, ⟨d, e, f⟩⟩ (cellG ⟨⟨a2, b2, c2⟩, ⟨d2, e2, f2⟩⟩ ys) = zs at *
  go_enter Tryz.func74, Tryz.ntmps74
  go_wp2_with fail
  generalize hW : World.alloc (World.alloc (World.alloc w _) _) _ = W
  have hSz : w.heap.size + 1 + 1 + 1 ≤ W.heap.size := by rw [← hW]; simp
  have hB : Below w.heap.size w W := by rw [← hW]; exact (((Below.refl _ _).alloc (Nat.le_refl _) _).alloc (by simp) _).alloc (by simp; omega) _
  have kg : Bk W (w.heap.size) #[.int .i64 a2, .int .i64 b2, .int .i64 c2, .int .i64 d2, .int .i64 e2, .int .i64 f2, .slice hb ys.length hcp2] 28 := by rw [← hW]; exact blk_old (blk_old (blk_new _ _ _ (by simp)))
  have kc : Bk W (w.heap.size + 1) #[.int .i64 a, .int .i64 b, .int .i64 c, .int .i64 d, .int .i64 e, .int .i64 f] 25 := by rw [← hW]; exact blk_old (blk_new _ _ _ (by simp))
  have kr : Bk W (w.heap.size + 1 + 1) #[.int .i64 0, .int .i64 0, .int .i64 0, .int .i64 0, .int .i64 0, .int .i64 0, .slice none 0 0] 28 := by rw [← hW]; exact blk_new _ _ _ (by simp)
  clear hW
  have cc0 := kc.cell 0 rfl
  have cc1 := kc.cell 1 rfl
  have cc2 := kc.cell 2 rfl
  have cc3 := kc.cell 3 rfl
  have cc4 := kc.cell 4 rfl
  have cc5 := kc.cell 5 rfl
  go_wp2_with fail
  refine (hnew.out _).mono ?_
  rintro _ w1 ⟨g1, cap, rfl, hown, hb1⟩
  have Hz := Bx.mk hown.sl
  replace hB := hB.trans (hb1.mono hB.size)
  replace kg := kg.later hb1
  replace kc := kc.later hb1
  replace kr := kr.later hb1
  replace hSz := Nat.le_trans hSz hb1.size
  clear hb1
  clear cc0 cc1 cc2 cc3 cc4 cc5
  clear hown
  have cg0 : ∀ o, (w1.alloc o).cell? ⟨w.heap.size, 0, none⟩ = some (.int .i64 a2) := fun o => Bk.cell (blk_old kg) 0 rfl
  have cg1 : ∀ o, (w1.alloc o).cell? ⟨w.heap.size, 1, none⟩ = some (.int .i64 b2) := fun o => Bk.cell (blk_old kg) 1 rfl
  have cg2 : ∀ o, (w1.alloc o).cell? ⟨w.heap.size, 2, none⟩ = some (.int .i64 c2) := fun o => Bk.cell (blk_old kg) 2 rfl
  have cg3 : ∀ o, (w1.alloc o).cell? ⟨w.heap.size, 3, none⟩ = some (.int .i64 d2) := fun o => Bk.cell (blk_old kg) 3 rfl
  have cg4 : ∀ o, (w1.alloc o).cell? ⟨w.heap.size, 4, none⟩ = some (.int .i64 e2) := fun o => Bk.cell (blk_old kg) 4 rfl
  have cg5 : ∀ o, (w1.alloc o).cell? ⟨w.heap.size, 5, none⟩ = some (.int .i64 f2) := fun o => Bk.cell (blk_old kg) 5 rfl
  have cg6 : ∀ o, (w1.alloc o).cell? ⟨w.heap.size, 6, none⟩ = some (.slice hb ys.length hcp2) := fun o => Bk.cell (blk_old kg) 6 rfl
  go_wp2_with fail
  generalize hW3 : World.alloc w1 _ = V3
  have hb3 : Below w1.heap.size w1 V3 := by rw [← hW3]; exact (Below.refl _ _).alloc (Nat.le_refl _) _
  have Hz3 := Bx.mk (Hz.out.below hb3)
  replace hB := hB.trans (hb3.mono hB.size)
  replace kg := kg.later hb3
  replace kc := kc.later hb3
  replace kr := kr.later hb3
  replace hSz := Nat.le_trans hSz hb3.size
  clear hb3
  clear hW3 cg0 cg1 cg2 cg3 cg4 cg5 cg6 Hz
  refine (hpas.out _ _ _ _ Hz3.out (Hsm.out.below hB)).mono ?_
  rintro _ w4 ⟨g2, cap2, rfl, hown, hb4⟩
  have hg2 := hown.lt g2 rfl
  have Hz4 := Bx.mk hown.sl
  have hSz4 := hSz
  replace hB := hB.trans (hb4.mono hB.size)
  replace kg := kg.later hb4
  replace kc := kc.later hb4
  replace kr := kr.later hb4
  replace hSz := Nat.le_trans hSz hb4.size
  clear hb4
  have cr0 := kr.cell 0 rfl
  have cr1 := kr.cell 1 rfl
  have cr2 := kr.cell 2 rfl
  have cr3 := kr.cell 3 rfl
  have cr4 := kr.cell 4 rfl
  have cr5 := kr.cell 5 rfl
  have cr6 := kr.cell 6 rfl
  have fr0 := kr.frozen 0
  have fr1 := kr.frozen 1
  have fr2 := kr.frozen 2
  have fr3 := kr.frozen 3
  have fr4 := kr.frozen 4
  have fr5 := kr.frozen 5
  have fr6 := kr.frozen 6
  clear hown Hz3
  go_wp2_with fail
  have kr2 := kr.put7 (.int .i64 a) (.int .i64 b) (.int .i64 c) (.int .i64 d) (.int .i64 e) (.int .i64 f) (.slice (some ⟨g2, 0, none⟩) n cap2)
  have hB2 := Bx.mk (blw7 hB (show w.heap.size ≤ w.heap.size + 1 + 1 by omega) (.int .i64 a) (.int .i64 b) (.int .i64 c) (.int .i64 d) (.int .i64 e) (.int .i64 f) (.slice (some ⟨g2, 0, none⟩) n cap2))
  have hS2 := Bx.mk (sl_put7 Hz4.out (show g2 ≠ w.heap.size + 1 + 1 by omega) (.int .i64 a) (.int .i64 b) (.int .i64 c) (.int .i64 d) (.int .i64 e) (.int .i64 f) (.slice (some ⟨g2, 0, none⟩) n cap2))
  have z0 := kr2.cell 0 rfl
  have z1 := kr2.cell 1 rfl
  have z2 := kr2.cell 2 rfl
  have z3 := kr2.cell 3 rfl
  have z4 := kr2.cell 4 rfl
  have z5 := kr2.cell 5 rfl
  have z6 := kr2.cell 6 rfl
  exact bodyPost_ret (v := .tuple #[.agg #[.int .i64 a, .int .i64 b, .int .i64 c, .int .i64 d, .int .i64 e, .int .i64 f, .slice (some ⟨g2, 0, none⟩) n cap2], .int .i64 0]) (by simp [results, Tryz.results74, go_sem, z0, z1, z2, z3, z4, z5, z6]) rfl ⟨g2, cap2, rfl, hS2.out, hB2.out⟩
end Go.Proofs.YtabclecmehdeoaaGreat
end
