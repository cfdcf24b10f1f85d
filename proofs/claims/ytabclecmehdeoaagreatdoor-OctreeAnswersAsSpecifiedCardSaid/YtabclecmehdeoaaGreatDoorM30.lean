/- Rgr, Veq, Wrd: joined by program, for one claim. -/
import Derived.Test.YtabclecmehdeoaaGreatDoorMr
import Derived.Test.YtabclecmehdeoaaGreatDoorM27
import Derived.Test.YtabclecmehdeoaaGreatDoorM29
import Derived.Test.YtabclecmehdeoaaGreatDoorM23
import Derived.Test.YtabclecmehdeoaaGreatDoorM2
import Derived.Lib.EndianBits
section
namespace Go.Proofs.YtabclecmehdeoaaGreatDoor
open Go.RowKit Go.Sort Go.Maps
open Oct
set_option maxRecDepth 100000 in
set_option maxHeartbeats 4000000 in
theorem rgrid_full (w : World) (n : Nat) (F : Pt → Int) (hn : n ≤ 12) (hF : FnC n F) 
 (a b c d e f : Int) (h0 : newE ⟨⟨a, b, c⟩, ⟨d, e, f⟩⟩ 0 = 0) (hem : emptyB ⟨⟨a, b, c⟩, ⟨d, e, f⟩⟩ = false) (m : Nat) (hm : volB ⟨⟨a, b, c⟩, ⟨d, e, f⟩⟩ = (m : Int)) (hs : Small ⟨⟨a, b, c⟩, ⟨d, e, f⟩⟩ 1048575) (hmm : m ≤ 300) :
 Calls Tryz.prog 10 #[.string (strOfNums (Tr.enc (trF n F))), .int .i64 ((n : Int) + 2), .agg #[.int .i64 a, .int .i64 b, .int .i64 c, .int .i64 d, .int .i64 e, .int .i64 f]] w fun e' w' => ∃ pa pc, e' = .returned (.tuple #[.agg #[.int .i64 a, .int .i64 b, .int .i64 c, .int .i64 d, .int .i64 e, .int .i64 f, .slice pa m pc], .int .i64 0]) ∧ Sl w' .i64 pa (cellsOf ⟨⟨a, b, c⟩, ⟨d, e, f⟩⟩ F) ∧ Below w.heap.size w w' := by
 have hok : okB ⟨⟨a, b, c⟩, ⟨d, e, f⟩⟩ = true := by
  unfold newE at h0
  cases h : okB ⟨⟨a, b, c⟩, ⟨d, e, f⟩⟩ with
  | true => rfl
  | false => rw [if_pos (.inl h)] at h0; cases h0
 have hNew := Bx.mk fun W => (ref_new a b c d e f hok hem m hm hmm W).mono (R' := RetG a b c d e f (List.replicate m 0) 0 W) (fun e' w' ⟨g, cap, x, y, z⟩ => ⟨some ⟨g, 0, none⟩, cap, by rw [List.length_replicate]; exact x, by rw [List.length_replicate]; exact y, z⟩)
 have hAt := Bx.mk fun W (k : Nat) (hk : k < m) => ref_at_yes a b c d e f (k : Int) hs (by omega) W
 have hGet := Bx.mk fun W (p : Pt) => Get9_any n hn F hF p.x p.y p.z W
 have hfin := Bx.mk (fillL_all ⟨⟨a, b, c⟩, ⟨d, e, f⟩⟩ F)
 rw [hm, Int.toNat_natCast] at hfin
 have hpos : 0 < m := by
  have := emptyB_iff.1 hem
  have h1 : volB ⟨⟨a, b, c⟩, ⟨d, e, f⟩⟩ = (d - a) * (e - b) * (f - c) := by unfold volB; rw [sizeB_full hem]; rfl
  simp only at this
  have h2 : 0 < (d - a) * (e - b) := Int.mul_pos (by omega) (by omega)
  have h3 : 0 < (d - a) * (e - b) * (f - c) := Int.mul_pos h2 (by omega)
  omega
 generalize strOfNums (Tr.enc (trF n F)) = S at *
 generalize ((n : Int) + 2) = dd at *
 clear hF h0 hem hm hs hn hok
 go_enter Tryz.func10, Tryz.ntmps10
 go_wp2_with fail
 generalize hW : World.alloc (World.alloc w _) _ = W
 have hSz : w.heap.size + 1 + 1 ≤ W.heap.size := by rw [← hW]; simp
 have hB : Below w.heap.size w W := by rw [← hW]; exact ((Below.refl _ _).alloc (Nat.le_refl _) _).alloc (by simp) _
 have kb : Bk W (w.heap.size) #[.int .i64 a, .int .i64 b, .int .i64 c, .int .i64 d, .int .i64 e, .int .i64 f] 25 := by rw [← hW]; exact blk_old (blk_new _ _ _ (by simp))
 have kr : Bk W (w.heap.size + 1) #[.int .i64 0, .int .i64 0, .int .i64 0, .int .i64 0, .int .i64 0, .int .i64 0, .slice none 0 0] 28 := by rw [← hW]; exact blk_new _ _ _ (by simp)
 clear hW
 have hWs : w.heap.size + 1 + 1 ≤ W.heap.size := by omega
 obtain ⟨cb0, cb1, cb2, cb3, cb4, cb5⟩ := kb.c6
 go_wp2_with fail
 refine (hNew.out _).mono ?_
 rintro _ w1 ⟨pa, pc, rfl, how, hb0⟩
 replace hB := hB.trans (hb0.mono hB.size)
 replace kb := kb.later hb0
 replace kr := kr.later hb0
 replace hSz := Nat.le_trans hSz hb0.size
 clear hb0
 clear cb0 cb1 cb2 cb3 cb4 cb5
 obtain ⟨g, cap, hpa, hg1, hg2, -, -, -⟩ := how.at (by simp; omega)
 simp only [List.length_replicate] at hpa how ⊢
 injection hpa with e1 _ e3
 subst e1 e3
 have hgw : w.heap.size + 1 + 1 ≤ g := Nat.le_trans hWs hg1
 have how2 : Own w1 w.heap.size 3 .i64 (.slice (some ⟨g, 0, none⟩) m pc) (fillL ⟨⟨a, b, c⟩, ⟨d, e, f⟩⟩ F m 0) := by rw [fillL_zero]; exact how.base (by omega)
 clear how
 go_wp2_with fail
 obtain ⟨gg, hgg⟩ : ∃ gg, gg = w1.heap.size := ⟨_, rfl⟩
 generalize hW2 : World.alloc w1 _ = W2
 have HI : Bx (GrI w #[.int .i64 a, .int .i64 b, .int .i64 c, .int .i64 d, .int .i64 e, .int .i64 f] #[.int .i64 0, .int .i64 0, .int .i64 0, .int .i64 0, .int .i64 0, .int .i64 0, .slice none 0 0] #[.int .i64 a, .int .i64 b, .int .i64 c, .int .i64 d, .int .i64 e, .int .i64 f, .slice (some ⟨g, 0, none⟩) m pc] g gg m pc (fillL ⟨⟨a, b, c⟩, ⟨d, e, f⟩⟩ F m 0) W2) := ⟨by
  rw [← hW2]
  exact ⟨how2.alloc _, hB.alloc hB.size _, kb.alloc _, kr.alloc _, by rw [hgg]; exact Bk.new _ _ _⟩⟩
 have hgl : g < gg := by rw [hgg]; exact hg2
 rw [← hgg]
 clear hW2 how2 hB kb kr hg2 hSz hWs hNew hg1 hgg
 go_loopw [10] (fun v10 wr => ∃ k : Nat, k ≤ m ∧ v10 = .int .i64 k ∧ Bx (GrI w #[.int .i64 a, .int .i64 b, .int .i64 c, .int .i64 d, .int .i64 e, .int .i64 f] #[.int .i64 0, .int .i64 0, .int .i64 0, .int .i64 0, .int .i64 0, .int .i64 0, .slice none 0 0] #[.int .i64 a, .int .i64 b, .int .i64 c, .int .i64 d, .int .i64 e, .int .i64 f, .slice (some ⟨g, 0, none⟩) m pc] g gg m pc (fillL ⟨⟨a, b, c⟩, ⟨d, e, f⟩⟩ F m k) wr)) (fun i _ => m - (intOf i).toNat)
 case atStart => exact ⟨0, Nat.zero_le _, rfl, HI⟩
 case round =>
  clear HI
  obtain ⟨k, hk, rfl, HI⟩ := hrel
  obtain ⟨ho, hB, kb, kr, kg⟩ := HI.out
  have HO := Bx.mk ho
  clear ho HI
  by_cases hlt : k < m
  · have t0 : decide ((k : Int) < (m : Int)) = true := by simp; omega
    have t0' : (k : Int) < (m : Int) := by omega
    have t1 : (0 : Int) ≤ (k : Int) := by omega
    obtain ⟨cb0, cb1, cb2, cb3, cb4, cb5⟩ := kb.c6
    have cx6 := kg.cell 6 rfl
    have hat := hAt.out (k := k)
    have hpv : Bx (F (atB ⟨⟨a, b, c⟩, ⟨d, e, f⟩⟩ (k : Int)) = F (atB ⟨⟨a, b, c⟩, ⟨d, e, f⟩⟩ (k : Int))) := ⟨rfl⟩
    rcases hpt : atB ⟨⟨a, b, c⟩, ⟨d, e, f⟩⟩ (k : Int) with ⟨px, py, pz⟩
    simp only [hpt] at hat
    replace hat := Bx.mk hat
    replace hpt := Bx.mk hpt
    clear hpv
    go_wp2_with fail
    refine (hat.out _ hlt).mono ?_
    rintro _ w5 ⟨rfl, hb0⟩
    replace HO := Bx.mk (HO.out.below hb0)
    replace hB := hB.trans (hb0.mono hB.size)
    replace kb := kb.later hb0
    replace kr := kr.later hb0
    replace kg := kg.later hb0
    clear hb0 cb0 cb1 cb2 cb3 cb4 cb5 cx6
    go_wp2_with fail
    obtain ⟨gp, hgp⟩ : ∃ gp, gp = w5.heap.size := ⟨_, rfl⟩
    generalize hW6 : World.alloc w5 _ = W6
    have hb0 : Below w5.heap.size w5 W6 := by rw [← hW6]; exact (Below.refl _ _).alloc (Nat.le_refl _) _
    have kp : Bk W6 gp #[.int .i64 px, .int .i64 py, .int .i64 pz] 23 := by rw [← hW6, hgp]; exact Bk.new _ _ _
    rw [← hgp]
    replace HO := Bx.mk (HO.out.below hb0)
    replace hB := hB.trans (hb0.mono hB.size)
    replace kb := kb.later hb0
    replace kr := kr.later hb0
    replace kg := kg.later hb0
    clear hb0 hW6 hgp
    have hSz := hB.size
    obtain ⟨cg0, cg1, cg2, cg3, cg4, cg5, cg6⟩ := kg.r7
    obtain ⟨cp0, cp1, cp2⟩ := kp.r3
    have q0 := Bx.mk fun dk osk => Calls.regrown_of (hGet.out (grow (redrawn W6 dk) osk) ⟨px, py, pz⟩)
    refine wp_region_head_below 8 (by kernel_rfl) (by kernel_rfl) ?_
    simp only [List.take_succ_cons, List.take_zero, List.drop_succ_cons, List.drop_zero]
    repeat (first | go_big_quiet_step ((first | with_reducible exact q0.out _ _)) | quiet_step (first | with_reducible exact q0.out _ _))
    refine wpQuiet_nil ?_
    rintro _ ⟨⟨dq, osq⟩, rfl⟩
    have hb := below_regrown W6 dq osq
    replace hB := hB.trans (hb.mono hB.size)
    clear cg0 cg1 cg2 cg3 cg4 cg5 cg6
    clear cp0 cp1 cp2
    clear q0
    replace HO := Bx.mk (HO.out.below hb)
    replace kb := kb.later hb
    replace kr := kr.later hb
    replace kg := kg.later hb
    replace kp := kp.later hb
    replace hSz := Nat.le_trans hSz hb.size
    clear hb
    generalize grow (redrawn W6 dq) osq = W7 at *
    clear kp
    have hx := fillL_at ⟨⟨a, b, c⟩, ⟨d, e, f⟩⟩ F hlt
    obtain ⟨g', cap', he, -, hgl2, hcs, hfr, hst⟩ := HO.out.at (by rw [fillL_length]; exact hpos)
    simp only [Value.slice.injEq, Option.some.injEq, Addr.mk.injEq, and_true] at he
    obtain ⟨rfl, hl2, rfl⟩ := he
    have hcell := hcs k _ hx
    have hfr0 := hfr k
    have hst0 := hst k (F ⟨px, py, pz⟩)
    have hset := fillL_set ⟨⟨a, b, c⟩, ⟨d, e, f⟩⟩ F hlt
    rw [hpt.out] at hset
    rw [hset, ← hl2] at hst0
    replace hst0 := Bx.mk hst0
    clear hcs hfr hst hset hl2 hx
    go_wp2_with fail
    have HI2 : Bx (GrI w #[.int .i64 a, .int .i64 b, .int .i64 c, .int .i64 d, .int .i64 e, .int .i64 f] #[.int .i64 0, .int .i64 0, .int .i64 0, .int .i64 0, .int .i64 0, .int .i64 0, .slice none 0 0] #[.int .i64 a, .int .i64 b, .int .i64 c, .int .i64 d, .int .i64 e, .int .i64 f, .slice (some ⟨g, 0, none⟩) m pc] g gg m pc (fillL ⟨⟨a, b, c⟩, ⟨d, e, f⟩⟩ F m (k + 1)) (W7.setCell ⟨g, k, none⟩ (.int .i64 (F ⟨px, py, pz⟩)))) := ⟨⟨hst0.out, hB.setCell (show w.heap.size ≤ g by omega) _, kb.other _ _ (show w.heap.size ≠ g by omega), kr.other _ _ (show w.heap.size + 1 ≠ g by omega), kg.other _ _ (show gg ≠ g by omega)⟩⟩
    clear hst0 hB kb kr kg hcell hfr0
    go_roundw
    case rel => exact ⟨k + 1, by omega, by go_num, HI2⟩
    case measure => simp [intOf]; omega
  · obtain rfl : k = m := by omega
    have t0 : decide ((k : Int) < (k : Int)) = false := by simp
    have hsl := Bx.mk HO.out.sl
    rw [hfin.out] at hsl
    obtain ⟨cg0, cg1, cg2, cg3, cg4, cg5, cg6⟩ := kg.c7
    obtain ⟨cr0, cr1, cr2, cr3, cr4, cr5, cr6⟩ := kr.c7
    obtain ⟨fr0, fr1, fr2, fr3, fr4, fr5, fr6⟩ := kr.f7
    go_wp2_with fail
    replace kr := kr.put7 (.int .i64 a) (.int .i64 b) (.int .i64 c) (.int .i64 d) (.int .i64 e) (.int .i64 f) (.slice (some ⟨g, 0, none⟩) k pc)
    clear cr0 cr1 cr2 cr3 cr4 cr5 cr6
    obtain ⟨cz0, cz1, cz2, cz3, cz4, cz5, cz6⟩ := kr.c7
    exact bodyPost_ret (v := .tuple #[.agg #[.int .i64 a, .int .i64 b, .int .i64 c, .int .i64 d, .int .i64 e, .int .i64 f, .slice (some ⟨g, 0, none⟩) k pc], .int .i64 0]) (by simp [results, Tryz.results10, go_sem, cz0, cz1, cz2, cz3, cz4, cz5, cz6]) rfl ⟨_, _, rfl, sl_put7 hsl.out (by omega) _ _ _ _ _ _ _, blw7 hB (by omega) _ _ _ _ _ _ _⟩
set_option maxRecDepth 100000 in
set_option maxHeartbeats 2000000 in
theorem rnew_bad (a b c d e f : Int) (hok : okB ⟨⟨a, b, c⟩, ⟨d, e, f⟩⟩ = false) (w : World) :
 Calls Tryz.prog 35 #[.agg #[.int .i64 a, .int .i64 b, .int .i64 c, .int .i64 d, .int .i64 e, .int .i64 f], .int .i64 0] w fun e' w' => e' = .returned (.tuple #[.agg #[.int .i64 0, .int .i64 0, .int .i64 0, .int .i64 0, .int .i64 0, .int .i64 0, .slice none 0 0], .int .i64 1]) ∧ Below w.heap.size w w' := by
 have hok2 : (okP ⟨a, b, c⟩ && okP ⟨d, e, f⟩) = false := by simpa [okB] using hok
 have hr0 := fun W => ref_ranged a b c W
 have hr1 := fun W => ref_ranged d e f W
 have hm := Bx.mk fun W => ref_mat 0 W
 rw [show Pal.cell 0 = true from rfl] at hm
 generalize okP ⟨a, b, c⟩ = p at *
 generalize okP ⟨d, e, f⟩ = q at *
 replace hr0 := Bx.mk hr0
 replace hr1 := Bx.mk hr1
 clear hok
 have hx0 : ∃ x : Nat, x = w.heap.size := ⟨_, rfl⟩
 clear hx0
 cases p with
 | false =>
   clear hok2
   go_enter Tryz.func35, Tryz.ntmps35
   go_wp2_with fail
   generalize hW : World.alloc (World.alloc w _) _ = W
   have hB : Below w.heap.size w W := by rw [← hW]; exact ((Below.refl _ _).alloc (Nat.le_refl _) _).alloc (by simp) _
   have kb : Bk W (w.heap.size) #[.int .i64 a, .int .i64 b, .int .i64 c, .int .i64 d, .int .i64 e, .int .i64 f] 25 := by rw [← hW]; exact blk_old (blk_new _ _ _ (by simp))
   have kr : Bk W (w.heap.size + 1) #[.int .i64 0, .int .i64 0, .int .i64 0, .int .i64 0, .int .i64 0, .int .i64 0, .slice none 0 0] 28 := by rw [← hW]; exact blk_new _ _ _ (by simp)
   clear hW
   refine (hr0.out _).mono ?_
   rintro _ w1 ⟨rfl, hb⟩
   replace hB := hB.trans (hb.mono hB.size)
   replace kb := kb.later hb
   replace kr := kr.later hb
   clear hb
   obtain ⟨cb0, cb1, cb2, cb3, cb4, cb5⟩ := kb.c6
   go_wp2_with fail
   clear cb0 cb1 cb2 cb3 cb4 cb5
   refine (hr1.out _).mono ?_
   rintro _ w2 ⟨rfl, hb⟩
   replace hB := hB.trans (hb.mono hB.size)
   replace kb := kb.later hb
   replace kr := kr.later hb
   clear hb
   go_wp2_with fail
   refine (hm.out _).mono ?_
   rintro _ _ ⟨rfl, rfl⟩
   obtain ⟨cr0, cr1, cr2, cr3, cr4, cr5, cr6⟩ := kr.c7
   obtain ⟨fr0, fr1, fr2, fr3, fr4, fr5, fr6⟩ := kr.f7
   go_wp2_with fail
   replace kr := kr.put7 (.int .i64 0) (.int .i64 0) (.int .i64 0) (.int .i64 0) (.int .i64 0) (.int .i64 0) (.slice none 0 0)
   clear cr0 cr1 cr2 cr3 cr4 cr5 cr6
   obtain ⟨z0, z1, z2, z3, z4, z5, z6⟩ := kr.c7
   exact bodyPost_ret (v := .tuple #[.agg #[.int .i64 0, .int .i64 0, .int .i64 0, .int .i64 0, .int .i64 0, .int .i64 0, .slice none 0 0], .int .i64 1]) (by simp [results, Tryz.results35, go_sem, z0, z1, z2, z3, z4, z5, z6]) rfl ⟨rfl, blw7 hB (by omega) _ _ _ _ _ _ _⟩
 | true =>
   obtain rfl : q = false := by simpa using hok2
   clear hok2
   go_enter Tryz.func35, Tryz.ntmps35
   go_wp2_with fail
   generalize hW : World.alloc (World.alloc w _) _ = W
   have hB : Below w.heap.size w W := by rw [← hW]; exact ((Below.refl _ _).alloc (Nat.le_refl _) _).alloc (by simp) _
   have kb : Bk W (w.heap.size) #[.int .i64 a, .int .i64 b, .int .i64 c, .int .i64 d, .int .i64 e, .int .i64 f] 25 := by rw [← hW]; exact blk_old (blk_new _ _ _ (by simp))
   have kr : Bk W (w.heap.size + 1) #[.int .i64 0, .int .i64 0, .int .i64 0, .int .i64 0, .int .i64 0, .int .i64 0, .slice none 0 0] 28 := by rw [← hW]; exact blk_new _ _ _ (by simp)
   clear hW
   refine (hr0.out _).mono ?_
   rintro _ w1 ⟨rfl, hb⟩
   replace hB := hB.trans (hb.mono hB.size)
   replace kb := kb.later hb
   replace kr := kr.later hb
   clear hb
   obtain ⟨cb0, cb1, cb2, cb3, cb4, cb5⟩ := kb.c6
   go_wp2_with fail
   clear cb0 cb1 cb2 cb3 cb4 cb5
   refine (hr1.out _).mono ?_
   rintro _ w2 ⟨rfl, hb⟩
   replace hB := hB.trans (hb.mono hB.size)
   replace kb := kb.later hb
   replace kr := kr.later hb
   clear hb
   go_wp2_with fail
   refine (hm.out _).mono ?_
   rintro _ _ ⟨rfl, rfl⟩
   obtain ⟨cr0, cr1, cr2, cr3, cr4, cr5, cr6⟩ := kr.c7
   obtain ⟨fr0, fr1, fr2, fr3, fr4, fr5, fr6⟩ := kr.f7
   go_wp2_with fail
   replace kr := kr.put7 (.int .i64 0) (.int .i64 0) (.int .i64 0) (.int .i64 0) (.int .i64 0) (.int .i64 0) (.slice none 0 0)
   clear cr0 cr1 cr2 cr3 cr4 cr5 cr6
   obtain ⟨z0, z1, z2, z3, z4, z5, z6⟩ := kr.c7
   exact bodyPost_ret (v := .tuple #[.agg #[.int .i64 0, .int .i64 0, .int .i64 0, .int .i64 0, .int .i64 0, .int .i64 0, .slice none 0 0], .int .i64 1]) (by simp [results, Tryz.results35, go_sem, z0, z1, z2, z3, z4, z5, z6]) rfl ⟨rfl, blw7 hB (by omega) _ _ _ _ _ _ _⟩
set_option maxRecDepth 100000 in
set_option maxHeartbeats 2000000 in
theorem rnew_empty (a b c d e f : Int) (hok : okB ⟨⟨a, b, c⟩, ⟨d, e, f⟩⟩ = true) (he : emptyB ⟨⟨a, b, c⟩, ⟨d, e, f⟩⟩ = true) (w : World) :
 Calls Tryz.prog 35 #[.agg #[.int .i64 a, .int .i64 b, .int .i64 c, .int .i64 d, .int .i64 e, .int .i64 f], .int .i64 0] w fun e' w' => e' = .returned (.tuple #[.agg #[.int .i64 0, .int .i64 0, .int .i64 0, .int .i64 0, .int .i64 0, .int .i64 0, .slice none 0 0], .int .i64 0]) ∧ Below w.heap.size w w' := by
 have hok2 : okP ⟨a, b, c⟩ = true ∧ okP ⟨d, e, f⟩ = true := by simpa [okB] using hok
 have hr0 := Bx.mk fun W => ref_ranged a b c W
 have hr1 := Bx.mk fun W => ref_ranged d e f W
 have hm := Bx.mk fun W => ref_mat 0 W
 have hv := Bx.mk fun W => ref_vol a b c d e f (okB_small hok) W
 rw [hok2.1] at hr0
 rw [hok2.2] at hr1
 rw [volB_empty he] at hv
 rw [show Pal.cell 0 = true from rfl] at hm
 clear hok he hok2
 go_enter Tryz.func35, Tryz.ntmps35
 go_wp2_with fail
 generalize hW : World.alloc (World.alloc w _) _ = W
 have hB : Below w.heap.size w W := by rw [← hW]; exact ((Below.refl _ _).alloc (Nat.le_refl _) _).alloc (by simp) _
 have kb : Bk W (w.heap.size) #[.int .i64 a, .int .i64 b, .int .i64 c, .int .i64 d, .int .i64 e, .int .i64 f] 25 := by rw [← hW]; exact blk_old (blk_new _ _ _ (by simp))
 have kr : Bk W (w.heap.size + 1) #[.int .i64 0, .int .i64 0, .int .i64 0, .int .i64 0, .int .i64 0, .int .i64 0, .slice none 0 0] 28 := by rw [← hW]; exact blk_new _ _ _ (by simp)
 clear hW
 refine (hr0.out _).mono ?_
 rintro _ w1 ⟨rfl, hb⟩
 replace hB := hB.trans (hb.mono hB.size)
 replace kb := kb.later hb
 replace kr := kr.later hb
 clear hb
 obtain ⟨cb0, cb1, cb2, cb3, cb4, cb5⟩ := kb.c6
 go_wp2_with fail
 clear cb0 cb1 cb2 cb3 cb4 cb5
 refine (hr1.out _).mono ?_
 rintro _ w2 ⟨rfl, hb⟩
 replace hB := hB.trans (hb.mono hB.size)
 replace kb := kb.later hb
 replace kr := kr.later hb
 clear hb
 go_wp2_with fail
 refine (hm.out _).mono ?_
 rintro _ _ ⟨rfl, rfl⟩
 obtain ⟨cb0, cb1, cb2, cb3, cb4, cb5⟩ := kb.c6
 go_wp2_with fail
 clear cb0 cb1 cb2 cb3 cb4 cb5
 refine (hv.out _).mono ?_
 rintro _ w3 ⟨rfl, hb⟩
 replace hB := hB.trans (hb.mono hB.size)
 replace kb := kb.later hb
 replace kr := kr.later hb
 clear hb
 obtain ⟨cr0, cr1, cr2, cr3, cr4, cr5, cr6⟩ := kr.c7
 obtain ⟨fr0, fr1, fr2, fr3, fr4, fr5, fr6⟩ := kr.f7
 go_wp2_with fail
 replace kr := kr.put7 (.int .i64 0) (.int .i64 0) (.int .i64 0) (.int .i64 0) (.int .i64 0) (.int .i64 0) (.slice none 0 0)
 clear cr0 cr1 cr2 cr3 cr4 cr5 cr6
 obtain ⟨z0, z1, z2, z3, z4, z5, z6⟩ := kr.c7
 exact bodyPost_ret (v := .tuple #[.agg #[.int .i64 0, .int .i64 0, .int .i64 0, .int .i64 0, .int .i64 0, .int .i64 0, .slice none 0 0], .int .i64 0]) (by simp [results, Tryz.results35, go_sem, z0, z1, z2, z3, z4, z5, z6]) rfl ⟨rfl, blw7 hB (by omega) _ _ _ _ _ _ _⟩
set_option maxRecDepth 100000 in
set_option maxHeartbeats 2000000 in
theorem rgrid_nil (S : ByteArray) (dd a b c d e f er : Int) (hNew : ∀ W, Calls Tryz.prog 35 #[.agg #[.int .i64 a, .int .i64 b, .int .i64 c, .int .i64 d, .int .i64 e, .int .i64 f], .int .i64 0] W fun e' w' => e' = .returned (.tuple #[.agg #[.int .i64 0, .int .i64 0, .int .i64 0, .int .i64 0, .int .i64 0, .int .i64 0, .slice none 0 0], .int .i64 er]) ∧ Below W.heap.size W w') (w : World) :
 Calls Tryz.prog 10 #[.string S, .int .i64 dd, .agg #[.int .i64 a, .int .i64 b, .int .i64 c, .int .i64 d, .int .i64 e, .int .i64 f]] w fun e' w' => e' = .returned (.tuple #[.agg #[.int .i64 0, .int .i64 0, .int .i64 0, .int .i64 0, .int .i64 0, .int .i64 0, .slice none 0 0], .int .i64 er]) ∧ Below w.heap.size w w' := by
 replace hNew := Bx.mk hNew
 go_enter Tryz.func10, Tryz.ntmps10
 go_wp2_with fail
 generalize hW : World.alloc (World.alloc w _) _ = W
 have hB : Below w.heap.size w W := by rw [← hW]; exact ((Below.refl _ _).alloc (Nat.le_refl _) _).alloc (by simp) _
 have kb : Bk W (w.heap.size) #[.int .i64 a, .int .i64 b, .int .i64 c, .int .i64 d, .int .i64 e, .int .i64 f] 25 := by rw [← hW]; exact blk_old (blk_new _ _ _ (by simp))
 have kr : Bk W (w.heap.size + 1) #[.int .i64 0, .int .i64 0, .int .i64 0, .int .i64 0, .int .i64 0, .int .i64 0, .slice none 0 0] 28 := by rw [← hW]; exact blk_new _ _ _ (by simp)
 clear hW
 obtain ⟨cb0, cb1, cb2, cb3, cb4, cb5⟩ := kb.c6
 go_wp2_with fail
 clear cb0 cb1 cb2 cb3 cb4 cb5
 refine (hNew.out _).mono ?_
 rintro _ w1 ⟨rfl, hb⟩
 replace hB := hB.trans (hb.mono hB.size)
 replace kb := kb.later hb
 replace kr := kr.later hb
 clear hb
 go_wp2_with fail
 obtain ⟨gg, hgg⟩ : ∃ gg, gg = w1.heap.size := ⟨_, rfl⟩
 generalize hW2 : World.alloc w1 _ = W2
 have kg : Bk W2 gg #[.int .i64 0, .int .i64 0, .int .i64 0, .int .i64 0, .int .i64 0, .int .i64 0, .slice none 0 0] 28 := by rw [← hW2, hgg]; exact Bk.new _ _ _
 replace hB : Below w.heap.size w W2 := by rw [← hW2]; exact hB.alloc hB.size _
 replace kr : Bk W2 (w.heap.size + 1) #[.int .i64 0, .int .i64 0, .int .i64 0, .int .i64 0, .int .i64 0, .int .i64 0, .slice none 0 0] 28 := by rw [← hW2]; exact kr.alloc _
 try rw [← hgg]
 clear hW2 kb hgg
 have HI : Bx (Below w.heap.size w W2 ∧ Bk W2 (w.heap.size + 1) #[.int .i64 0, .int .i64 0, .int .i64 0, .int .i64 0, .int .i64 0, .int .i64 0, .slice none 0 0] 28 ∧ Bk W2 gg #[.int .i64 0, .int .i64 0, .int .i64 0, .int .i64 0, .int .i64 0, .int .i64 0, .slice none 0 0] 28) := ⟨hB, kr, kg⟩
 clear hB kr kg
 go_loopw [10] (fun v wr => v = .int .i64 0 ∧ wr = W2) (fun _ _ => 0)
 case atStart => exact ⟨rfl, rfl⟩
 case round =>
  obtain ⟨rfl, rfl⟩ := hrel
  have hB := HI.out.1
  have kr := HI.out.2.1
  have kg := HI.out.2.2
  obtain ⟨cg0, cg1, cg2, cg3, cg4, cg5, cg6⟩ := kg.c7
  obtain ⟨cr0, cr1, cr2, cr3, cr4, cr5, cr6⟩ := kr.c7
  obtain ⟨fr0, fr1, fr2, fr3, fr4, fr5, fr6⟩ := kr.f7
  go_wp2_with fail
  replace kr := kr.put7 (.int .i64 0) (.int .i64 0) (.int .i64 0) (.int .i64 0) (.int .i64 0) (.int .i64 0) (.slice none 0 0)
  clear cr0 cr1 cr2 cr3 cr4 cr5 cr6
  obtain ⟨z0, z1, z2, z3, z4, z5, z6⟩ := kr.c7
  exact bodyPost_ret (v := .tuple #[.agg #[.int .i64 0, .int .i64 0, .int .i64 0, .int .i64 0, .int .i64 0, .int .i64 0, .slice none 0 0], .int .i64 er]) (by simp [results, Tryz.results10, go_sem, z0, z1, z2, z3, z4, z5, z6]) rfl ⟨rfl, blw7 hB (by omega) _ _ _ _ _ _ _⟩
set_option maxRecDepth 100000 in
set_option maxHeartbeats 2000000 in
theorem grid_nil (sb : Nat) (id : Int) (dd a b c d e f er : Int) (hNew : ∀ W, Calls Tryz.prog 33 #[.agg #[.int .i64 a, .int .i64 b, .int .i64 c, .int .i64 d, .int .i64 e, .int .i64 f], .int .i64 0] W fun e' w' => e' = .returned (.tuple #[.agg #[.int .i64 0, .int .i64 0, .int .i64 0, .int .i64 0, .int .i64 0, .int .i64 0, .slice none 0 0], .int .i64 er]) ∧ Below W.heap.size W w') (w : World) :
 Calls Tryz.prog 9 #[.pointer (some ⟨sb, 0, none⟩), .int .i64 id, .int .i64 dd, .agg #[.int .i64 a, .int .i64 b, .int .i64 c, .int .i64 d, .int .i64 e, .int .i64 f]] w fun e' w' => e' = .returned (.tuple #[.agg #[.int .i64 0, .int .i64 0, .int .i64 0, .int .i64 0, .int .i64 0, .int .i64 0, .slice none 0 0], .int .i64 er]) ∧ Below w.heap.size w w' := by
 replace hNew := Bx.mk hNew
 go_enter Tryz.func9, Tryz.ntmps9
 go_wp2_with fail
 generalize hW : World.alloc (World.alloc w _) _ = W
 have hB : Below w.heap.size w W := by rw [← hW]; exact ((Below.refl _ _).alloc (Nat.le_refl _) _).alloc (by simp) _
 have kb : Bk W (w.heap.size) #[.int .i64 a, .int .i64 b, .int .i64 c, .int .i64 d, .int .i64 e, .int .i64 f] 25 := by rw [← hW]; exact blk_old (blk_new _ _ _ (by simp))
 have kr : Bk W (w.heap.size + 1) #[.int .i64 0, .int .i64 0, .int .i64 0, .int .i64 0, .int .i64 0, .int .i64 0, .slice none 0 0] 28 := by rw [← hW]; exact blk_new _ _ _ (by simp)
 clear hW
 obtain ⟨cb0, cb1, cb2, cb3, cb4, cb5⟩ := kb.c6
 go_wp2_with fail
 clear cb0 cb1 cb2 cb3 cb4 cb5
 refine (hNew.out _).mono ?_
 rintro _ w1 ⟨rfl, hb⟩
 replace hB := hB.trans (hb.mono hB.size)
 replace kb := kb.later hb
 replace kr := kr.later hb
 clear hb
 go_wp2_with fail
 obtain ⟨gg, hgg⟩ : ∃ gg, gg = w1.heap.size := ⟨_, rfl⟩
 generalize hW2 : World.alloc w1 _ = W2
 have kg : Bk W2 gg #[.int .i64 0, .int .i64 0, .int .i64 0, .int .i64 0, .int .i64 0, .int .i64 0, .slice none 0 0] 28 := by rw [← hW2, hgg]; exact Bk.new _ _ _
 replace hB : Below w.heap.size w W2 := by rw [← hW2]; exact hB.alloc hB.size _
 replace kr : Bk W2 (w.heap.size + 1) #[.int .i64 0, .int .i64 0, .int .i64 0, .int .i64 0, .int .i64 0, .int .i64 0, .slice none 0 0] 28 := by rw [← hW2]; exact kr.alloc _
 try rw [← hgg]
 clear hW2 kb hgg
 have HI : Bx (Below w.heap.size w W2 ∧ Bk W2 (w.heap.size + 1) #[.int .i64 0, .int .i64 0, .int .i64 0, .int .i64 0, .int .i64 0, .int .i64 0, .slice none 0 0] 28 ∧ Bk W2 gg #[.int .i64 0, .int .i64 0, .int .i64 0, .int .i64 0, .int .i64 0, .int .i64 0, .slice none 0 0] 28) := ⟨hB, kr, kg⟩
 clear hB kr kg
 go_loopw [23] (fun v wr => v = .int .i64 0 ∧ wr = W2) (fun _ _ => 0)
 case atStart => exact ⟨rfl, rfl⟩
 case round =>
  obtain ⟨rfl, rfl⟩ := hrel
  have hB := HI.out.1
  have kr := HI.out.2.1
  have kg := HI.out.2.2
  obtain ⟨cg0, cg1, cg2, cg3, cg4, cg5, cg6⟩ := kg.c7
  obtain ⟨cr0, cr1, cr2, cr3, cr4, cr5, cr6⟩ := kr.c7
  obtain ⟨fr0, fr1, fr2, fr3, fr4, fr5, fr6⟩ := kr.f7
  go_wp2_with fail
  replace kr := kr.put7 (.int .i64 0) (.int .i64 0) (.int .i64 0) (.int .i64 0) (.int .i64 0) (.int .i64 0) (.slice none 0 0)
  clear cr0 cr1 cr2 cr3 cr4 cr5 cr6
  obtain ⟨z0, z1, z2, z3, z4, z5, z6⟩ := kr.c7
  exact bodyPost_ret (v := .tuple #[.agg #[.int .i64 0, .int .i64 0, .int .i64 0, .int .i64 0, .int .i64 0, .int .i64 0, .slice none 0 0], .int .i64 er]) (by simp [results, Tryz.results9, go_sem, z0, z1, z2, z3, z4, z5, z6]) rfl ⟨rfl, blw7 hB (by omega) _ _ _ _ _ _ _⟩
end Go.Proofs.YtabclecmehdeoaaGreatDoor
end
section
namespace Go.Proofs.YtabclecmehdeoaaGreatDoor
open Go.RowKit Go.Sort Go.Maps
open Oct
def AnyPt (w : World) (e : Ending) (w' : World) : Prop := ∃ x y z : Int, e = .returned (.agg #[.int .i64 x, .int .i64 y, .int .i64 z]) ∧ Below w.heap.size w w'
def AnyInt (w : World) (e : Ending) (w' : World) : Prop := ∃ x : Int, e = .returned (.int .i64 x) ∧ Below w.heap.size w w'
set_option maxRecDepth 100000 in
set_option maxHeartbeats 1000000 in
theorem sub_gen (px py pz qx qy qz : Int) (w : World) :
 Calls Tryz.prog 73 #[.agg #[.int .i64 px, .int .i64 py, .int .i64 pz], .agg #[.int .i64 qx, .int .i64 qy, .int .i64 qz]] w (AnyPt w) := by
 obtain ⟨x, hx⟩ : ∃ x, IntKind.i64.wrap (px - qx) = x := ⟨_, rfl⟩
 obtain ⟨y, hy⟩ : ∃ y, IntKind.i64.wrap (py - qy) = y := ⟨_, rfl⟩
 obtain ⟨z, hz⟩ : ∃ z, IntKind.i64.wrap (pz - qz) = z := ⟨_, rfl⟩
 go_enter Tryz.func73, Tryz.ntmps73
 go_wp2_with fail
 generalize hW : World.alloc (World.alloc (World.alloc w _) _) _ = W
 have hB : Below w.heap.size w W := by rw [← hW]; exact (((Below.refl _ _).alloc (Nat.le_refl _) _).alloc (by simp) _).alloc (by simp; omega) _
 have kr : Bk W (w.heap.size + 1 + 1) #[.int .i64 x, .int .i64 y, .int .i64 z] 23 := by rw [← hW]; exact blk_new _ _ _ (by simp)
 clear hW
 exact bodyPost_ret (v := .agg #[.int .i64 x, .int .i64 y, .int .i64 z]) (results_cell_row rfl _ _ _ 23 #[.int .i64 x, .int .i64 y, .int .i64 z] (0, 0) _ rfl kr Tryz.underlying23 rfl (by kernel_rfl)) rfl ⟨x, y, z, rfl, hB⟩
set_option maxRecDepth 100000 in
set_option maxHeartbeats 1000000 in
theorem size_gen (a b c d e f : Int) (he : emptyB ⟨⟨a, b, c⟩, ⟨d, e, f⟩⟩ = false) (w : World) : Calls Tryz.prog 30 #[.agg #[.int .i64 a, .int .i64 b, .int .i64 c, .int .i64 d, .int .i64 e, .int .i64 f]] w (AnyPt w) := by
 have hem := fun W => ref_empty a b c d e f W
 rw [he] at hem
 replace hem := Bx.mk hem
 have hsub := Bx.mk fun W => sub_gen d e f a b c W
 clear he
 go_enter Tryz.func30, Tryz.ntmps30
 go_upto_region 1 with fail
 generalize hW : World.alloc (World.alloc w _) _ = W
 have hB : Below w.heap.size w W := by rw [← hW]; exact ((Below.refl _ _).alloc (Nat.le_refl _) _).alloc (by simp) _
 have kb : Bk W (w.heap.size) #[.int .i64 a, .int .i64 b, .int .i64 c, .int .i64 d, .int .i64 e, .int .i64 f] 25 := by rw [← hW]; exact blk_old (blk_new _ _ _ (by simp))
 have kr : Bk W (w.heap.size + 1) #[.int .i64 0, .int .i64 0, .int .i64 0] 23 := by rw [← hW]; exact blk_new _ _ _ (by simp)
 clear hW
 obtain ⟨cb0, cb1, cb2, cb3, cb4, cb5⟩ := kb.c6
 go_wp2_with fail
 refine (hem.out _).mono ?_
 rintro _ w1 ⟨rfl, hb⟩
 replace hB := hB.trans (hb.mono hB.size)
 replace kb := kb.later hb
 replace kr := kr.later hb
 clear hb cb0 cb1 cb2 cb3 cb4 cb5
 obtain ⟨cb0, cb1, cb2, cb3, cb4, cb5⟩ := kb.c6
 go_wp2_with fail
 refine (hsub.out _).mono ?_
 rintro _ w2 ⟨x, y, z, rfl, hb⟩
 replace hB := hB.trans (hb.mono hB.size)
 replace kr := kr.later hb
 clear hb cb0 cb1 cb2 cb3 cb4 cb5 kb
 obtain ⟨cr0, cr1, cr2⟩ := kr.c3
 obtain ⟨fr0, fr1, fr2⟩ := kr.f3
 go_wp2_with fail
 replace kr := kr.put3 (.int .i64 x) (.int .i64 y) (.int .i64 z)
 exact bodyPost_ret (v := .agg #[.int .i64 x, .int .i64 y, .int .i64 z]) (results_cell_row rfl _ _ _ 23 #[.int .i64 x, .int .i64 y, .int .i64 z] (0, 0) _ rfl kr Tryz.underlying23 rfl (by kernel_rfl)) rfl ⟨x, y, z, rfl, blw3 hB (by omega) _ _ _⟩
set_option maxRecDepth 100000 in
set_option maxHeartbeats 1000000 in
theorem vol_gen (a b c d e f : Int) (w : World) : Calls Tryz.prog 6 #[.agg #[.int .i64 a, .int .i64 b, .int .i64 c, .int .i64 d, .int .i64 e, .int .i64 f]] w (AnyInt w) := by
 have hsz : Bx (∀ W, Calls Tryz.prog 30 #[.agg #[.int .i64 a, .int .i64 b, .int .i64 c, .int .i64 d, .int .i64 e, .int .i64 f]] W (AnyPt W)) := ⟨fun W => by
  cases he : emptyB ⟨⟨a, b, c⟩, ⟨d, e, f⟩⟩ with
  | true => exact (ref_size0 a b c d e f he W).mono fun e' w' ⟨x, y⟩ => ⟨0, 0, 0, x, y⟩
  | false => exact size_gen a b c d e f he W⟩
 go_enter Tryz.func6, Tryz.ntmps6
 go_upto_region 1 with fail
 generalize hW : World.alloc w _ = W
 have hB : Below w.heap.size w W := by rw [← hW]; exact (Below.refl _ _).alloc (Nat.le_refl _) _
 have kb : Bk W (w.heap.size) #[.int .i64 a, .int .i64 b, .int .i64 c, .int .i64 d, .int .i64 e, .int .i64 f] 25 := by rw [← hW]; exact blk_new _ _ _ (by simp)
 clear hW
 obtain ⟨cb0, cb1, cb2, cb3, cb4, cb5⟩ := kb.c6
 go_wp2_with fail
 refine (hsz.out _).mono ?_
 rintro _ w1 ⟨x, y, z, rfl, hb⟩
 replace hB := hB.trans (hb.mono hB.size)
 clear hb cb0 cb1 cb2 cb3 cb4 cb5 kb
 obtain ⟨p, hp⟩ : ∃ p, IntKind.i64.wrap (x * y) = p := ⟨_, rfl⟩
 obtain ⟨q, hq⟩ : ∃ q, IntKind.i64.wrap (p * z) = q := ⟨_, rfl⟩
 go_wp2_with fail
 go_ret
 exact ⟨_, rfl, hB.alloc hB.size _⟩
structure EqI (w : World) (a b c d e f : Int) (pa qa : Option Addr) (pc qc n : Nat) (xs : List Int) (wr : World) : Prop where
 kp : Bk wr w.heap.size #[.int .i64 a, .int .i64 b, .int .i64 c, .int .i64 d, .int .i64 e, .int .i64 f, .slice pa n pc] 28
 kq : Bk wr (w.heap.size + 1) #[.int .i64 a, .int .i64 b, .int .i64 c, .int .i64 d, .int .i64 e, .int .i64 f, .slice qa n qc] 28
 sp : Sl wr .i64 pa xs
 sq : Sl wr .i64 qa xs
 bel : Below w.heap.size w wr
theorem EqI.later {w wr w' : World} {a b c d e f : Int} {pa qa : Option Addr} {pc qc n : Nat} {xs : List Int} (h : EqI w a b c d e f pa qa pc qc n xs wr) (hb : Below wr.heap.size wr w') : EqI w a b c d e f pa qa pc qc n xs w' :=
 ⟨h.kp.later hb, h.kq.later hb, h.sp.below hb, h.sq.below hb, h.bel.trans (hb.mono h.bel.size)⟩
set_option maxRecDepth 100000 in
set_option maxHeartbeats 1000000 in
theorem req_any (a b c d e f : Int) (pa qa : Option Addr) (pc qc n : Nat) (xs : List Int) (hl : xs.length = n) (hn : n ≤ 1000000) (w : World) (hp : Sl w .i64 pa xs) (hq : Sl w .i64 qa xs) :
 Calls Tryz.prog 11 #[.agg #[.int .i64 a, .int .i64 b, .int .i64 c, .int .i64 d, .int .i64 e, .int .i64 f, .slice pa n pc], .agg #[.int .i64 a, .int .i64 b, .int .i64 c, .int .i64 d, .int .i64 e, .int .i64 f, .slice qa n qc]] w fun e' w' => e' = .returned (.bool true) ∧ Below w.heap.size w w' := by
 have heq := fun W => eql_box a b c d e f a b c d e f W
 replace hl := Bx.mk hl
 replace hp := Bx.mk hp
 replace hq := Bx.mk hq
 go_enter Tryz.func11, Tryz.ntmps11
 go_upto_region 1 with fail
 generalize hW : World.alloc (World.alloc w _) _ = W
 have HI : Bx (EqI w a b c d e f pa qa pc qc n xs W) := by
  have hB : Below w.heap.size w W := by rw [← hW]; exact ((Below.refl _ _).alloc (Nat.le_refl _) _).alloc (by simp) _
  refine ⟨⟨?_, ?_, hp.out.below hB, hq.out.below hB, hB⟩⟩
  · rw [← hW]; exact blk_old (blk_new _ _ _ (by simp))
  · rw [← hW]; exact blk_new _ _ _ (by simp)
 clear hW hp hq
 have cp0 := HI.out.kp.cell 0 rfl
 have cq0 := HI.out.kq.cell 0 rfl
 have cp1 := HI.out.kp.cell 1 rfl
 have cq1 := HI.out.kq.cell 1 rfl
 have cp2 := HI.out.kp.cell 2 rfl
 have cq2 := HI.out.kq.cell 2 rfl
 have cp3 := HI.out.kp.cell 3 rfl
 have cq3 := HI.out.kq.cell 3 rfl
 have cp4 := HI.out.kp.cell 4 rfl
 have cq4 := HI.out.kq.cell 4 rfl
 have cp5 := HI.out.kp.cell 5 rfl
 have cq5 := HI.out.kq.cell 5 rfl
 have cp6 := HI.out.kp.cell 6 rfl
 have cq6 := HI.out.kq.cell 6 rfl
 go_wp2_with fail
 clear cp0 cp1 cp2 cp3 cp4 cp5 cp6 cq0 cq1 cq2 cq3 cq4 cq5 cq6 heq
 go_loopw [5] (fun v5 wr => ∃ k : Nat, k ≤ n ∧ v5 = .int .i64 k ∧ Bx (EqI w a b c d e f pa qa pc qc n xs wr)) (fun v5 _ => n - (intOf v5).toNat)
 case atStart => exact ⟨0, Nat.zero_le _, rfl, HI⟩
 case round =>
  clear HI
  obtain ⟨k, hk, rfl, HI⟩ := hrel
  by_cases hlt : k < n
  · have t0 : decide ((k : Int) < (n : Int)) = true := by simp; omega
    have q0 : (0 : Int) ≤ (k : Int) := by omega
    have q1 : (k : Int) < (n : Int) := by omega
    obtain ⟨x, hx⟩ := at_lt hl hlt
    obtain ⟨b1, o1, rfl, hc1⟩ := HI.out.sp k x hx
    obtain ⟨b2, o2, rfl, hc2⟩ := HI.out.sq k x hx
    have cp6 := HI.out.kp.cell 6 rfl
    have d0 : ∀ dk osk, (grow (redrawn wr dk) osk).cell? ⟨w.heap.size, 6, none⟩ = some (.slice (some ⟨b1, o1, none⟩) n pc) := cell_regrown cp6
    have d1 : ∀ dk osk, (grow (redrawn wr dk) osk).cell? ⟨w.heap.size + 1, 6, none⟩ = some (.slice (some ⟨b2, o2, none⟩) n qc) := cell_regrown (HI.out.kq.cell 6 rfl)
    have d2 : ∀ dk osk, (grow (redrawn wr dk) osk).cell? ⟨b1, o1 + k, none⟩ = some (.int .i64 x) := cell_regrown hc1
    have d3 : ∀ dk osk, (grow (redrawn wr dk) osk).cell? ⟨b2, o2 + k, none⟩ = some (.int .i64 x) := cell_regrown hc2
    have tx : (x != x) = false := by simp
    clear hx hc1 hc2
    go_upto_region 6 with fail
    refine wp_region_quiet_below (by kernel_rfl) (by kernel_rfl) ?_
    repeat (first | go_big_quiet_step (fail) | quiet_step (fail))
    refine wpQuiet_nil ?_
    rintro _ ⟨⟨dq, osq⟩, rfl⟩
    have HI2 := Bx.mk (HI.out.later (below_regrown wr dq osq))
    generalize grow (redrawn wr dq) osq = w7 at *
    clear d0 d1 d2 d3 cp6
    go_wp2_with fail
    go_roundw
    case rel => exact ⟨k + 1, by omega, by go_num, HI2⟩
    case measure => simp [intOf]; omega
  · obtain rfl : k = n := by omega
    have t0 : decide ((k : Int) < (k : Int)) = false := by simp
    have cp6 := HI.out.kp.cell 6 rfl
    go_wp2_with fail
    go_ret
    exact ⟨rfl, HI.out.bel⟩
end Go.Proofs.YtabclecmehdeoaaGreatDoor
end
section
namespace Go.Proofs.YtabclecmehdeoaaGreatDoor
open Go.RowKit
def rot (x : Int) (n : Nat) : Int := bits .or .u32 (x / 2 ^ n) (x * 2 ^ (32 - n) % 4294967296)
theorem bits_comm_or (k : IntKind) (x y : Int) : bits .or k x y = bits .or k y x := by
 unfold bits
 simp only [BitVec.or_comm]
theorem rotr_any (x : Int) (n : Nat) (hn : 0 < n ∧ n < 32) (w : World) :
 Calls Tryz.prog 155 #[.int .u32 x, .int .i64 (n : Int)] w fun e w' => e = .returned (.int .u32 (rot x n)) ∧ Below w.heap.size w w' := by
 have h1 : ((n : Int)).toNat = n := by omega
 have h2 : (32 - (n : Int)).toNat = 32 - n := by omega
 go_enter Tryz.func155, Tryz.ntmps155
 go_wp2_with fail
 refine wp_region_quiet_below (by kernel_rfl) (by kernel_rfl) ?_
 repeat (first | go_big_quiet_step (fail) | quiet_step (fail))
 refine wpQuiet_nil ?_
 rintro _ ⟨⟨dq, osq⟩, rfl⟩
 go_wp2_with fail
 go_ret
 exact ⟨rfl, below_regrown w dq osq⟩
theorem rotl_any (x : Int) (n : Nat) (hn : 0 < n ∧ n < 32) (w : World) :
 Calls Tryz.prog 159 #[.int .u32 x, .int .i64 (-(n : Int))] w fun e w' => e = .returned (.int .u32 (rot x n)) ∧ w = w' := by
 have hw : bits .and .u64 (IntKind.u64.wrap (-(n : Int))) 31 = 32 - (n : Int) := by
  have h1 : IntKind.u64.wrap (-(n : Int)) = 18446744073709551616 - n := by rw [IntKind.wrap_u64]; omega
  rw [h1, show (31 : Int) = 2 ^ 5 - 1 by decide, bits_mask .u64 64 (by decide) wraps_u64 5 (by decide) _ (by omega) (by have : (2 : Int) ^ 64 = 18446744073709551616 := (by decide); omega)]
  have : (2 : Int) ^ 5 = 32 := by decide
  omega
 have h1 : (0 : Int) ≤ 32 - (n : Int) := by omega
 have h2 : (32 - (n : Int)).toNat = 32 - n := by omega
 have h3 : IntKind.u64.wrap (32 - (32 - (n : Int))) = n := by rw [IntKind.wrap_u64]; omega
 go_enter Tryz.func159, Tryz.ntmps159
 go_wp2_with fail
 go_ret
 refine ⟨?_, rfl⟩
 show Ending.returned (.int .u32 (bits .or .u32 (x * 2 ^ (32 - n) % 4294967296) (x / 2 ^ n))) = _
 rw [bits_comm_or]
 rfl
def mix3 (x : Int) (i j k : Nat) : Int := bits .xor .u32 (bits .xor .u32 (rot x i) (rot x j)) (rot x k)
theorem mix_any (x : Int) (i j k : Nat) (hi : 0 < i ∧ i < 32) (hj : 0 < j ∧ j < 32) (hk : 0 < k ∧ k < 32) (w : World) :
 Calls Tryz.prog 150 #[.int .u32 x, .int .i64 (i : Int), .int .i64 (j : Int), .int .i64 (k : Int)] w fun e w' => e = .returned (.int .u32 (mix3 x i j k)) ∧ w = w' := by
 have g1 := Bx.mk fun W => rotl_any x i hi W
 have g2 := Bx.mk fun W => rotl_any x j hj W
 have g3 := Bx.mk fun W => rotl_any x k hk W
 have n1 : IntKind.i64.wrap (-(i : Int)) = -(i : Int) := IntWalk.i64_in _ (by omega)
 have n2 : IntKind.i64.wrap (-(j : Int)) = -(j : Int) := IntWalk.i64_in _ (by omega)
 have n3 : IntKind.i64.wrap (-(k : Int)) = -(k : Int) := IntWalk.i64_in _ (by omega)
 unfold mix3
 generalize rot x i = a at *
 generalize rot x j = b at *
 generalize rot x k = c at *
 go_enter Tryz.func150, Tryz.ntmps150
 go_wp2_with fail
 refine (g1.out _).mono ?_
 rintro _ _ ⟨rfl, rfl⟩
 go_wp2_with fail
 refine (g2.out _).mono ?_
 rintro _ _ ⟨rfl, rfl⟩
 go_wp2_with fail
 refine (g3.out _).mono ?_
 rintro _ _ ⟨rfl, rfl⟩
 go_wp2_with fail
 go_ret
 exact ⟨rfl, rfl⟩
end Go.Proofs.YtabclecmehdeoaaGreatDoor
end
