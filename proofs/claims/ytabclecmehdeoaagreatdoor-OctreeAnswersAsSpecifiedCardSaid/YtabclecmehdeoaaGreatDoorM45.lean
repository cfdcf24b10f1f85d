/- Rps, Rcr: joined by program, for one claim. -/
import Derived.Test.YtabclecmehdeoaaGreatDoorMr
import Derived.Test.YtabclecmehdeoaaGreatDoorM44
import Derived.Test.YtabclecmehdeoaaGreatDoorM22
import Derived.Test.YtabclecmehdeoaaGreatDoorM23
import Derived.Test.YtabclecmehdeoaaGreatDoorM25
section
namespace Go.Proofs.YtabclecmehdeoaaGreatDoor
open Go.RowKit Go.Sort Go.Maps
open Oct
structure RpI (w : World) (gv hv ov : Array Value) (n cap g1 go : Nat) (hb : Option Addr) (ys : List Int) (xs : List Int) (wr : World) : Prop where
 kg : Bk wr w.heap.size gv 28
 kh : Bk wr (w.heap.size + 1) hv 28
 kr : Bk wr (w.heap.size + 1 + 1) #[.int .i64 0, .int .i64 0, .int .i64 0, .int .i64 0, .int .i64 0, .int .i64 0, .slice none 0 0] 28
 ko : Bk wr go ov 28
 own : Own wr (w.heap.size + 1 + 1 + 1) 3 .i64 (.slice (some ⟨g1, 0, none⟩) n cap) xs
 bel : Below w.heap.size w wr
 sl : Sl wr .i64 hb ys
 lt : w.heap.size + 1 + 1 < g1 ∧ g1 < go
theorem RpI.later {w wr w' : World} {gv hv ov : Array Value} {n cap g1 go : Nat} {hb : Option Addr} {ys xs : List Int} (H : RpI w gv hv ov n cap g1 go hb ys xs wr) (h : Below wr.heap.size wr w') : RpI w gv hv ov n cap g1 go hb ys xs w' :=
 ⟨H.kg.later h, H.kh.later h, H.kr.later h, H.ko.later h, H.own.below h, H.bel.trans (h.mono H.bel.size), H.sl.below h, H.lt⟩
theorem RpI.put {w wr : World} {gv hv ov : Array Value} {n cap g1 go : Nat} {hb : Option Addr} {ys xs : List Int} (H : RpI w gv hv ov n cap g1 go hb ys xs wr) (hn : xs.length = n) (h0 : 0 < n) (hf : ys ≠ [] → ∀ b, hb.map (·.block) = some b → b < w.heap.size) (k : Nat) (x : Int) : RpI w gv hv ov n cap g1 go hb ys (xs.set k x) (wr.setCell ⟨g1, k, none⟩ (.int .i64 x)) := by
 have hlt := H.lt
 obtain ⟨g', cap', he, -, -, -, -, hst⟩ := H.own.at (by omega)
 rw [hn] at he hst
 injection he with h1 h2 h3
 injection h1 with h1
 injection h1 with h1
 subst h1 h3
 refine ⟨H.kg.other _ _ (by simp only; omega), H.kh.other _ _ (by simp only; omega), H.kr.other _ _ (by simp only; omega), H.ko.other _ _ (by simp only; omega), hst k x, H.bel.setCell (by simp only; omega) _, ?_, hlt⟩
 intro i y hy
 obtain ⟨b', off', he, hc⟩ := H.sl i y hy
 refine ⟨b', off', he, ?_⟩
 have := hf (by rintro rfl; simp at hy) b' (by rw [he]; rfl)
 rw [World.cell?_of_block (heap_setCell_other wr _ _ _ (by simp only; omega))]; exact hc
theorem fillL_stay (b : Box) (F : Pt → Int) {m k : Nat} (hk : k < m) (h : F (atB b (k : Int)) = 0) : fillL b F m k = fillL b F m (k + 1) := by
 rw [← fillL_set b F hk, h]
 have h0 := fillL_at b F hk
 apply List.ext_getElem?
 intro i
 rw [List.getElem?_set]
 by_cases e : k = i
 · subst e
   rw [if_pos rfl, h0, if_pos (by rw [fillL_length]; exact hk)]
 · rw [if_neg e]
set_option maxRecDepth 100000 in
set_option maxHeartbeats 4000000 in
theorem ref_paste (a b c d e f a2 b2 c2 d2 e2 f2 : Int) (pb po n hcp : Nat) (hb : Option Addr) (hcp2 : Nat) (ys : List Int) (HS : Small ⟨⟨a, b, c⟩, ⟨d, e, f⟩⟩ 1048575) (hV : volB ⟨⟨a, b, c⟩, ⟨d, e, f⟩⟩ = n) (h0 : 0 < n) (hle : n ≤ 300) (HX : GoodG ⟨⟨a2, b2, c2⟩, ⟨d2, e2, f2⟩⟩ ys hcp2) (w : World) (hsl : Sl w .i64 (some ⟨pb, po, none⟩) (List.replicate n 0)) (hsm : Sl w .i64 hb ys) :
 Calls Tryz.prog 118 #[.agg #[.int .i64 a, .int .i64 b, .int .i64 c, .int .i64 d, .int .i64 e, .int .i64 f, .slice (some ⟨pb, po, none⟩) n hcp], .agg #[.int .i64 a2, .int .i64 b2, .int .i64 c2, .int .i64 d2, .int .i64 e2, .int .i64 f2, .slice hb ys.length hcp2]] w fun e' w' => ∃ g cap, e' = .returned (.agg #[.int .i64 a, .int .i64 b, .int .i64 c, .int .i64 d, .int .i64 e, .int .i64 f, .slice (some ⟨g, 0, none⟩) n cap]) ∧ Own w' w.heap.size 3 .i64 (.slice (some ⟨g, 0, none⟩) n cap) (cellsOf ⟨⟨a, b, c⟩, ⟨d, e, f⟩⟩ (cellG ⟨⟨a2, b2, c2⟩, ⟨d2, e2, f2⟩⟩ ys)) ∧ Below w.heap.size w w' := by
 have hcpd := Bx.mk fun W (h : Sl W .i64 (some ⟨pb, po, none⟩) (List.replicate n 0)) => ref_copied a b c d e f pb po hcp n (List.replicate n 0) List.length_replicate h0 (by omega) W h
 have hat := Bx.mk fun W (k : Nat) (hk : k < n) => ref_at_yes a b c d e f (k : Int) HS (by omega) W
 have hin := Bx.mk fun W (k : Nat) => ref_in (atB ⟨⟨a, b, c⟩, ⟨d, e, f⟩⟩ (k : Int)).x (atB ⟨⟨a, b, c⟩, ⟨d, e, f⟩⟩ (k : Int)).y (atB ⟨⟨a, b, c⟩, ⟨d, e, f⟩⟩ (k : Int)).z a2 b2 c2 d2 e2 f2 W
 have hgt := Bx.mk fun W (k : Nat) (h : Sl W .i64 hb ys) => ref_get a2 b2 c2 d2 e2 f2 (atB ⟨⟨a, b, c⟩, ⟨d, e, f⟩⟩ (k : Int)).x (atB ⟨⟨a, b, c⟩, ⟨d, e, f⟩⟩ (k : Int)).y (atB ⟨⟨a, b, c⟩, ⟨d, e, f⟩⟩ (k : Int)).z hb hcp2 ys HX W h
 have hall := Bx.mk (show fillL ⟨⟨a, b, c⟩, ⟨d, e, f⟩⟩ (cellG ⟨⟨a2, b2, c2⟩, ⟨d2, e2, f2⟩⟩ ys) n n = cellsOf ⟨⟨a, b, c⟩, ⟨d, e, f⟩⟩ (cellG ⟨⟨a2, b2, c2⟩, ⟨d2, e2, f2⟩⟩ ys) from by have := fillL_all ⟨⟨a, b, c⟩, ⟨d, e, f⟩⟩ (cellG ⟨⟨a2, b2, c2⟩, ⟨d2, e2, f2⟩⟩ ys); rw [hV] at this; exact this)
 have hset := Bx.mk fun (k : Nat) (hk : k < n) => fillL_set ⟨⟨a, b, c⟩, ⟨d, e, f⟩⟩ (cellG ⟨⟨a2, b2, c2⟩, ⟨d2, e2, f2⟩⟩ ys) hk
 have hstay := Bx.mk fun (k : Nat) (hk : k < n) (hi : inB (atB ⟨⟨a, b, c⟩, ⟨d, e, f⟩⟩ (k : Int)) ⟨⟨a2, b2, c2⟩, ⟨d2, e2, f2⟩⟩ = false) => fillL_stay ⟨⟨a, b, c⟩, ⟨d, e, f⟩⟩ (cellG ⟨⟨a2, b2, c2⟩, ⟨d2, e2, f2⟩⟩ ys) hk (by unfold cellG; rw [if_neg (by rw [hi]; decide)])
 have hlen := Bx.mk fun (k : Nat) => fillL_length ⟨⟨a, b, c⟩, ⟨d, e, f⟩⟩ (cellG ⟨⟨a2, b2, c2⟩, ⟨d2, e2, f2⟩⟩ ys) n k
 have hzero := Bx.mk (fillL_zero ⟨⟨a, b, c⟩, ⟨d, e, f⟩⟩ (cellG ⟨⟨a2, b2, c2⟩, ⟨d2, e2, f2⟩⟩ ys) n)
 have hfat := Bx.mk fun (k : Nat) (hk : k < n) => fillL_at ⟨⟨a, b, c⟩, ⟨d, e, f⟩⟩ (cellG ⟨⟨a2, b2, c2⟩, ⟨d2, e2, f2⟩⟩ ys) hk
 have hfar := Bx.mk (show ys ≠ [] → ∀ b, hb.map (·.block) = some b → b < w.heap.size from fun hx b hb' => by
  obtain ⟨x, r, rfl⟩ := List.exists_cons_of_ne_nil hx
  obtain ⟨b', off, h1, h2⟩ := hsm 0 x rfl
  rw [h1] at hb'
  simp only [Option.map_some, Option.some.injEq] at hb'
  rw [← hb']; exact World.block_lt_of_cell? w _ h2)
 have Hsl := Bx.mk hsl
 have Hsm := Bx.mk hsm
 clear hsl hsm HS hV HX
 go_enter Tryz.func118, Tryz.ntmps118
 go_wp2_with fail
 generalize hW : World.alloc (World.alloc (World.alloc w _) _) _ = W
 have hSz : w.heap.size + 1 + 1 + 1 ≤ W.heap.size := by rw [← hW]; simp
 have hB : Below w.heap.size w W := by rw [← hW]; exact (((Below.refl _ _).alloc (Nat.le_refl _) _).alloc (by simp) _).alloc (by simp; omega) _
 have kg : Bk W (w.heap.size) #[.int .i64 a, .int .i64 b, .int .i64 c, .int .i64 d, .int .i64 e, .int .i64 f, .slice (some ⟨pb, po, none⟩) n hcp] 28 := by rw [← hW]; exact blk_old (blk_old (blk_new _ _ _ (by simp)))
 have kh : Bk W (w.heap.size + 1) #[.int .i64 a2, .int .i64 b2, .int .i64 c2, .int .i64 d2, .int .i64 e2, .int .i64 f2, .slice hb ys.length hcp2] 28 := by rw [← hW]; exact blk_old (blk_new _ _ _ (by simp))
 have kr : Bk W (w.heap.size + 1 + 1) #[.int .i64 0, .int .i64 0, .int .i64 0, .int .i64 0, .int .i64 0, .int .i64 0, .slice none 0 0] 28 := by rw [← hW]; exact blk_new _ _ _ (by simp)
 clear hW
 obtain ⟨cg0, cg1, cg2, cg3, cg4, cg5, cg6⟩ := kg.c7
 have q0 : True := trivial
 refine (hcpd.out _ (Hsl.out.below hB)).mono ?_
 rintro _ w1 ⟨g1, cap, rfl, hown, hb1⟩
 have hg1 := hown.lt g1 rfl
 have hSzW := hSz
 have Hown := Bx.mk hown
 replace hB := hB.trans (hb1.mono hB.size)
 replace kg := kg.later hb1
 replace kh := kh.later hb1
 replace kr := kr.later hb1
 replace hSz := Nat.le_trans hSz hb1.size
 clear hb1
 clear cg0 cg1 cg2 cg3 cg4 cg5 cg6
 clear hown q0
 go_wp2_with fail
 generalize hW1 : World.alloc w1 _ = V1
 have hb9 : Below w1.heap.size w1 V1 := by rw [← hW1]; exact (Below.refl _ _).alloc (Nat.le_refl _) _
 have ko : Bk V1 w1.heap.size #[.int .i64 a, .int .i64 b, .int .i64 c, .int .i64 d, .int .i64 e, .int .i64 f, .slice (some ⟨g1, 0, none⟩) n cap] 28 := by rw [← hW1]; exact blk_new _ _ _ rfl
 have HI : Bx (RpI w #[.int .i64 a, .int .i64 b, .int .i64 c, .int .i64 d, .int .i64 e, .int .i64 f, .slice (some ⟨pb, po, none⟩) n hcp] #[.int .i64 a2, .int .i64 b2, .int .i64 c2, .int .i64 d2, .int .i64 e2, .int .i64 f2, .slice hb ys.length hcp2] #[.int .i64 a, .int .i64 b, .int .i64 c, .int .i64 d, .int .i64 e, .int .i64 f, .slice (some ⟨g1, 0, none⟩) n cap] n cap g1 w1.heap.size hb ys (fillL ⟨⟨a, b, c⟩, ⟨d, e, f⟩⟩ (cellG ⟨⟨a2, b2, c2⟩, ⟨d2, e2, f2⟩⟩ ys) n 0) V1) := ⟨by
  rw [hzero.out]
  exact ⟨kg.later hb9, kh.later hb9, kr.later hb9, ko, (Hown.out.base (by omega)).below hb9, hB.trans (hb9.mono hB.size), Hsm.out.below (hB.trans (hb9.mono hB.size)), by omega⟩⟩
 clear hW1 hb9 ko kg kh kr hB hSz hSzW Hown hg1 hzero hcpd Hsl
 generalize w1.heap.size = go at *
 go_loopw [6] (fun v6 wr => ∃ k : Nat, k ≤ n ∧ v6 = .int .i64 k ∧ Bx (RpI w #[.int .i64 a, .int .i64 b, .int .i64 c, .int .i64 d, .int .i64 e, .int .i64 f, .slice (some ⟨pb, po, none⟩) n hcp] #[.int .i64 a2, .int .i64 b2, .int .i64 c2, .int .i64 d2, .int .i64 e2, .int .i64 f2, .slice hb ys.length hcp2] #[.int .i64 a, .int .i64 b, .int .i64 c, .int .i64 d, .int .i64 e, .int .i64 f, .slice (some ⟨g1, 0, none⟩) n cap] n cap g1 go hb ys (fillL ⟨⟨a, b, c⟩, ⟨d, e, f⟩⟩ (cellG ⟨⟨a2, b2, c2⟩, ⟨d2, e2, f2⟩⟩ ys) n k) wr)) (fun i _ => n - (intOf i).toNat)
 case atStart => exact ⟨0, Nat.zero_le _, rfl, HI⟩
 case round =>
  clear HI
  obtain ⟨k, hk, rfl, HI⟩ := hrel
  by_cases hlt : k < n
  · have t0 : decide ((k : Int) < (n : Int)) = true := by simp; omega
    have z1 := fun W => hat.out W k hlt
    have z2 := fun W => hin.out W k
    have z3 := fun W => hgt.out W k
    have z4 := hset.out k hlt
    have z5 := hstay.out k hlt
    have z6 := hfat.out k hlt
    generalize cellG ⟨⟨a2, b2, c2⟩, ⟨d2, e2, f2⟩⟩ ys = FF at *
    rcases hpt : atB ⟨⟨a, b, c⟩, ⟨d, e, f⟩⟩ (k : Int) with ⟨px, py, pz⟩
    simp only [hpt] at z1 z2 z3 z4 z5
    generalize hfp : FF ⟨px, py, pz⟩ = x at *
    generalize hib : inB ⟨px, py, pz⟩ ⟨⟨a2, b2, c2⟩, ⟨d2, e2, f2⟩⟩ = ib at *
    have z1 := Bx.mk z1
    have z2 := Bx.mk z2
    have z3 := Bx.mk z3
    have z4 := Bx.mk z4
    have z5 := Bx.mk z5
    have z6 := Bx.mk z6
    clear hpt hfp hib
    obtain ⟨cg0, cg1, cg2, cg3, cg4, cg5, cg6⟩ := HI.out.kg.c7
    go_wp2_with fail
    refine (z1.out _).mono ?_
    rintro _ w2 ⟨rfl, hb2⟩
    have HI2 := Bx.mk (HI.out.later hb2)
    have ch0 : ∀ o, (w2.alloc o).cell? ⟨w.heap.size + 1, 0, none⟩ = some (.int .i64 a2) := fun o => Bk.cell (blk_old HI2.out.kh) 0 rfl
    have ch1 : ∀ o, (w2.alloc o).cell? ⟨w.heap.size + 1, 1, none⟩ = some (.int .i64 b2) := fun o => Bk.cell (blk_old HI2.out.kh) 1 rfl
    have ch2 : ∀ o, (w2.alloc o).cell? ⟨w.heap.size + 1, 2, none⟩ = some (.int .i64 c2) := fun o => Bk.cell (blk_old HI2.out.kh) 2 rfl
    have ch3 : ∀ o, (w2.alloc o).cell? ⟨w.heap.size + 1, 3, none⟩ = some (.int .i64 d2) := fun o => Bk.cell (blk_old HI2.out.kh) 3 rfl
    have ch4 : ∀ o, (w2.alloc o).cell? ⟨w.heap.size + 1, 4, none⟩ = some (.int .i64 e2) := fun o => Bk.cell (blk_old HI2.out.kh) 4 rfl
    have ch5 : ∀ o, (w2.alloc o).cell? ⟨w.heap.size + 1, 5, none⟩ = some (.int .i64 f2) := fun o => Bk.cell (blk_old HI2.out.kh) 5 rfl
    clear HI hb2 cg0 cg1 cg2 cg3 cg4 cg5 cg6
    go_wp2_with fail
    generalize hW3 : World.alloc w2 _ = V3
    have hb3 : Below w2.heap.size w2 V3 := by rw [← hW3]; exact (Below.refl _ _).alloc (Nat.le_refl _) _
    have kp : Bk V3 w2.heap.size #[.int .i64 px, .int .i64 py, .int .i64 pz] 23 := by rw [← hW3]; exact blk_new _ _ _ rfl
    have HI3 := Bx.mk (HI2.out.later hb3)
    clear hW3 hb3 ch0 ch1 ch2 ch3 ch4 ch5 HI2
    generalize w2.heap.size = gp at *
    refine (z2.out _).mono ?_
    rintro _ w4 ⟨rfl, hb4⟩
    have HI4 := Bx.mk (HI3.out.later hb4)
    replace kp := kp.later hb4
    clear hb4 HI3
    cases ib with
    | false =>
      have HI5 := HI4.out
      rw [z5.out rfl] at HI5
      have HI6 := Bx.mk HI5
      clear HI5
      go_wp2_with fail
      go_roundw
      case rel => exact ⟨k + 1, by omega, by go_num, HI6⟩
      case measure => simp [intOf]; omega
    | true =>
      obtain ⟨ch0, ch1, ch2, ch3, ch4, ch5, ch6⟩ := HI4.out.kh.r7
      obtain ⟨cp0, cp1, cp2⟩ := kp.r3
      have co6 : ∀ dk osk, (grow (redrawn w4 dk) osk).cell? ⟨go, 6, none⟩ = some (.slice (some ⟨g1, 0, none⟩) n cap) := cell_regrown (HI4.out.ko.cell 6 rfl)
      have q0 := Bx.mk fun dk osk => Calls.regrown_of (z3.out (grow (redrawn w4 dk) osk) (HI4.out.sl.below (below_regrown w4 dk osk)))
      have b1 : (0 : Int) ≤ (k : Int) := by omega
      have b2 : (k : Int) < (n : Int) := by omega
      go_wp2_with fail
      refine wp_region_head_below 7 (by kernel_rfl) (by kernel_rfl) ?_
      simp only [List.take_succ_cons, List.take_zero, List.drop_succ_cons, List.drop_zero]
      repeat (first | go_big_quiet_step ((first | with_reducible exact q0.out _ _)) | quiet_step (first | with_reducible exact q0.out _ _))
      refine wpQuiet_nil ?_
      rintro _ ⟨⟨dq, osq⟩, rfl⟩
      have HI5 := Bx.mk (HI4.out.later (below_regrown w4 dq osq))
      clear q0 ch0 ch1 ch2 ch3 ch4 ch5 ch6 cp0 cp1 cp2 co6 HI4 kp
      generalize grow (redrawn w4 dq) osq = w5 at *
      have HL := Bx.mk (hlen.out k)
      obtain ⟨g9, cap9, he9, -, -, hc9, hf9, -⟩ := HI5.out.own.at (by rw [HL.out]; omega)
      rw [HL.out] at he9
      injection he9 with h91 h92 h93
      injection h91 with h91
      injection h91 with h91
      subst h91
      have ck := hc9 k 0 z6.out
      have fk := hf9 k
      have HI6 := HI5.out.put HL.out h0 hfar.out k x
      rw [z4.out] at HI6
      have HI7 := Bx.mk HI6
      clear HI6 hc9 hf9 h92 h93
      go_wp2_with fail
      go_roundw
      case rel => exact ⟨k + 1, by omega, by go_num, HI7⟩
      case measure => simp [intOf]; omega
  · obtain rfl : k = n := by omega
    have t0 : decide ((k : Int) < (k : Int)) = false := by simp
    have HI2 := HI.out
    rw [hall.out] at HI2
    have kg := HI2.kg
    have ko := HI2.ko
    have kr := HI2.kr
    have hB := HI2.bel
    have hlo := HI2.lt
    have hO := HI2.own
    clear HI HI2 hall hat hin hgt hset hstay hlen hfat
    have cg6 := kg.cell 6 rfl
    obtain ⟨co0, co1, co2, co3, co4, co5, co6⟩ := ko.c7
    have cr0 := kr.cell 0 rfl
    have fr0 := kr.frozen 0
    have cr1 := kr.cell 1 rfl
    have fr1 := kr.frozen 1
    have cr2 := kr.cell 2 rfl
    have fr2 := kr.frozen 2
    have cr3 := kr.cell 3 rfl
    have fr3 := kr.frozen 3
    have cr4 := kr.cell 4 rfl
    have fr4 := kr.frozen 4
    have cr5 := kr.cell 5 rfl
    have fr5 := kr.frozen 5
    have cr6 := kr.cell 6 rfl
    have fr6 := kr.frozen 6
    have kr2 := kr.put7 (.int .i64 a) (.int .i64 b) (.int .i64 c) (.int .i64 d) (.int .i64 e) (.int .i64 f) (.slice (some ⟨g1, 0, none⟩) k cap)
    have hB2 := Bx.mk (blw7 hB (show w.heap.size ≤ w.heap.size + 1 + 1 by omega) (.int .i64 a) (.int .i64 b) (.int .i64 c) (.int .i64 d) (.int .i64 e) (.int .i64 f) (.slice (some ⟨g1, 0, none⟩) k cap))
    have hO2 := Bx.mk (((((((hO.setBelow (a := ⟨w.heap.size + 1 + 1, 0, none⟩) (by simp only; omega) (.int .i64 a)).setBelow (a := ⟨w.heap.size + 1 + 1, 1, none⟩) (by simp only; omega) (.int .i64 b)).setBelow (a := ⟨w.heap.size + 1 + 1, 2, none⟩) (by simp only; omega) (.int .i64 c)).setBelow (a := ⟨w.heap.size + 1 + 1, 3, none⟩) (by simp only; omega) (.int .i64 d)).setBelow (a := ⟨w.heap.size + 1 + 1, 4, none⟩) (by simp only; omega) (.int .i64 e)).setBelow (a := ⟨w.heap.size + 1 + 1, 5, none⟩) (by simp only; omega) (.int .i64 f)).setBelow (a := ⟨w.heap.size + 1 + 1, 6, none⟩) (by simp only; omega) (.slice (some ⟨g1, 0, none⟩) k cap))
    clear hB hO
    go_wp2_with fail
    exact bodyPost_ret (v := .agg #[.int .i64 a, .int .i64 b, .int .i64 c, .int .i64 d, .int .i64 e, .int .i64 f, .slice (some ⟨g1, 0, none⟩) k cap]) (results_cell_row rfl _ _ _ 28 #[.int .i64 a, .int .i64 b, .int .i64 c, .int .i64 d, .int .i64 e, .int .i64 f, .slice (some ⟨g1, 0, none⟩) k cap] (0, 0) _ rfl kr2 Tryz.underlying28 rfl (by kernel_rfl)) rfl ⟨g1, cap, rfl, hO2.out.base (by omega), hB2.out⟩
end Go.Proofs.YtabclecmehdeoaaGreatDoor
end
section
namespace Go.Proofs.YtabclecmehdeoaaGreatDoor
open Go.RowKit Go.Sort Go.Maps
open Oct
set_option maxRecDepth 100000 in
set_option maxHeartbeats 2000000 in
theorem ref_crop (a b c d e f a2 b2 c2 d2 e2 f2 : Int) (n : Nat) (hb : Option Addr) (hcp2 : Nat) (ys : List Int) (hok : okB ⟨⟨a, b, c⟩, ⟨d, e, f⟩⟩ = true) (he : emptyB ⟨⟨a, b, c⟩, ⟨d, e, f⟩⟩ = false) (hV : volB ⟨⟨a, b, c⟩, ⟨d, e, f⟩⟩ = n) (hle : n ≤ 300) (HX : GoodG ⟨⟨a2, b2, c2⟩, ⟨d2, e2, f2⟩⟩ ys hcp2) (w : World) (hsm : Sl w .i64 hb ys) :
 Calls Tryz.prog 78 #[.agg #[.int .i64 a2, .int .i64 b2, .int .i64 c2, .int .i64 d2, .int .i64 e2, .int .i64 f2, .slice hb ys.length hcp2], .agg #[.int .i64 a, .int .i64 b, .int .i64 c, .int .i64 d, .int .i64 e, .int .i64 f]] w fun e' w' => ∃ g cap, e' = .returned (.tuple #[.agg #[.int .i64 a, .int .i64 b, .int .i64 c, .int .i64 d, .int .i64 e, .int .i64 f, .slice (some ⟨g, 0, none⟩) n cap], .int .i64 0]) ∧ Sl w' .i64 (some ⟨g, 0, none⟩) (cellsOf ⟨⟨a, b, c⟩, ⟨d, e, f⟩⟩ (cellG ⟨⟨a2, b2, c2⟩, ⟨d2, e2, f2⟩⟩ ys)) ∧ Below w.heap.size w w' := by
 have hnew := Bx.mk fun W => ref_new a b c d e f hok he n hV hle W
 have hpos : 0 < n := by have := atB_pos he; omega
 have hpas := Bx.mk fun (pb po cap : Nat) W (h : Sl W .i64 (some ⟨pb, po, none⟩) (List.replicate n 0)) (h' : Sl W .i64 hb ys) => ref_paste a b c d e f a2 b2 c2 d2 e2 f2 pb po n cap hb hcp2 ys (okB_small hok) hV hpos hle HX W h h'
 have Hsm := Bx.mk hsm
 clear hok he hV HX hsm
 generalize cellsOf ⟨⟨a, b, c⟩, ⟨d, e, f⟩⟩ (cellG ⟨⟨a2, b2, c2⟩, ⟨d2, e2, f2⟩⟩ ys) = zs at *
 go_enter Tryz.func78, Tryz.ntmps78
 go_wp2_with fail
 generalize hW : World.alloc (World.alloc (World.alloc w _) _) _ = W
 have hSz : w.heap.size + 1 + 1 + 1 ≤ W.heap.size := by rw [← hW]; simp
 have hB : Below w.heap.size w W := by rw [← hW]; exact (((Below.refl _ _).alloc (Nat.le_refl _) _).alloc (by simp) _).alloc (by simp; omega) _
 have kg : Bk W (w.heap.size) #[.int .i64 a2, .int .i64 b2, .int .i64 c2, .int .i64 d2, .int .i64 e2, .int .i64 f2, .slice hb ys.length hcp2] 28 := by rw [← hW]; exact blk_old (blk_old (blk_new _ _ _ (by simp)))
 have kc : Bk W (w.heap.size + 1) #[.int .i64 a, .int .i64 b, .int .i64 c, .int .i64 d, .int .i64 e, .int .i64 f] 25 := by rw [← hW]; exact blk_old (blk_new _ _ _ (by simp))
 have kr : Bk W (w.heap.size + 1 + 1) #[.int .i64 0, .int .i64 0, .int .i64 0, .int .i64 0, .int .i64 0, .int .i64 0, .slice none 0 0] 28 := by rw [← hW]; exact blk_new _ _ _ (by simp)
 clear hW
 obtain ⟨cc0, cc1, cc2, cc3, cc4, cc5⟩ := kc.c6
 go_wp2_with fail
 refine (hnew.out _).mono ?_
 rintro _ w1 ⟨g1, cap, rfl, hown, hb1⟩
 have Hz := Bx.mk hown.sl
 replace hB := hB.trans (hb1.mono hB.size)
 replace kg := kg.later hb1
 replace kc := kc.later hb1
 replace kr := kr.later hb1
 replace hSz := Nat.le_trans hSz hb1.size
 clear hb1
 clear cc0 cc1 cc2 cc3 cc4 cc5
 clear hown
 have cg0 : ∀ o, (w1.alloc o).cell? ⟨w.heap.size, 0, none⟩ = some (.int .i64 a2) := fun o => Bk.cell (blk_old kg) 0 rfl
 have cg1 : ∀ o, (w1.alloc o).cell? ⟨w.heap.size, 1, none⟩ = some (.int .i64 b2) := fun o => Bk.cell (blk_old kg) 1 rfl
 have cg2 : ∀ o, (w1.alloc o).cell? ⟨w.heap.size, 2, none⟩ = some (.int .i64 c2) := fun o => Bk.cell (blk_old kg) 2 rfl
 have cg3 : ∀ o, (w1.alloc o).cell? ⟨w.heap.size, 3, none⟩ = some (.int .i64 d2) := fun o => Bk.cell (blk_old kg) 3 rfl
 have cg4 : ∀ o, (w1.alloc o).cell? ⟨w.heap.size, 4, none⟩ = some (.int .i64 e2) := fun o => Bk.cell (blk_old kg) 4 rfl
 have cg5 : ∀ o, (w1.alloc o).cell? ⟨w.heap.size, 5, none⟩ = some (.int .i64 f2) := fun o => Bk.cell (blk_old kg) 5 rfl
 have cg6 : ∀ o, (w1.alloc o).cell? ⟨w.heap.size, 6, none⟩ = some (.slice hb ys.length hcp2) := fun o => Bk.cell (blk_old kg) 6 rfl
 go_wp2_with fail
 generalize hW3 : World.alloc w1 _ = V3
 have hb3 : Below w1.heap.size w1 V3 := by rw [← hW3]; exact (Below.refl _ _).alloc (Nat.le_refl _) _
 have Hz3 := Bx.mk (Hz.out.below hb3)
 replace hB := hB.trans (hb3.mono hB.size)
 replace kg := kg.later hb3
 replace kc := kc.later hb3
 replace kr := kr.later hb3
 replace hSz := Nat.le_trans hSz hb3.size
 clear hb3
 clear hW3 cg0 cg1 cg2 cg3 cg4 cg5 cg6 Hz
 refine (hpas.out _ _ _ _ Hz3.out (Hsm.out.below hB)).mono ?_
 rintro _ w4 ⟨g2, cap2, rfl, hown, hb4⟩
 have hg2 := hown.lt g2 rfl
 have Hz4 := Bx.mk hown.sl
 have hSz4 := hSz
 replace hB := hB.trans (hb4.mono hB.size)
 replace kg := kg.later hb4
 replace kc := kc.later hb4
 replace kr := kr.later hb4
 replace hSz := Nat.le_trans hSz hb4.size
 clear hb4
 obtain ⟨cr0, cr1, cr2, cr3, cr4, cr5, cr6⟩ := kr.c7
 obtain ⟨fr0, fr1, fr2, fr3, fr4, fr5, fr6⟩ := kr.f7
 clear hown Hz3
 go_wp2_with fail
 have kr2 := kr.put7 (.int .i64 a) (.int .i64 b) (.int .i64 c) (.int .i64 d) (.int .i64 e) (.int .i64 f) (.slice (some ⟨g2, 0, none⟩) n cap2)
 have hB2 := Bx.mk (blw7 hB (show w.heap.size ≤ w.heap.size + 1 + 1 by omega) (.int .i64 a) (.int .i64 b) (.int .i64 c) (.int .i64 d) (.int .i64 e) (.int .i64 f) (.slice (some ⟨g2, 0, none⟩) n cap2))
 have hS2 := Bx.mk (sl_put7 Hz4.out (show g2 ≠ w.heap.size + 1 + 1 by omega) (.int .i64 a) (.int .i64 b) (.int .i64 c) (.int .i64 d) (.int .i64 e) (.int .i64 f) (.slice (some ⟨g2, 0, none⟩) n cap2))
 obtain ⟨z0, z1, z2, z3, z4, z5, z6⟩ := kr2.c7
 exact bodyPost_ret (v := .tuple #[.agg #[.int .i64 a, .int .i64 b, .int .i64 c, .int .i64 d, .int .i64 e, .int .i64 f, .slice (some ⟨g2, 0, none⟩) n cap2], .int .i64 0]) (by simp [results, Tryz.results78, go_sem, z0, z1, z2, z3, z4, z5, z6]) rfl ⟨g2, cap2, rfl, hS2.out, hB2.out⟩
end Go.Proofs.YtabclecmehdeoaaGreatDoor
end
