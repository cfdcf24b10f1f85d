/- Dir, Sha, Rcp: joined by program, for one claim. -/
import Derived.Test.YtabclecmehdeoaaGreatDoorM43
import Derived.Test.YtabclecmehdeoaaGreatDoorM25
import Derived.Test.YtabclecmehdeoaaGreatDoorM23
import Derived.Test.YtabclecmehdeoaaGreatDoorM29
import Derived.Deep.RegionHeld3
import Derived.Deep.AppendLies
section
namespace Go.Proofs.YtabclecmehdeoaaGreatDoor
open Go.RowKit Go.Sort Go.Maps
open Oct
structure TxI (w : World) (xs : List Int) (k : Nat) (v : Value) (wr : World) : Prop where
 bel : Below w.heap.size w wr
 kb : Bl wr w.heap.size .u8 xs 49
 own : Own wr (w.heap.size + 1) 5 .u8 v (xs.take k)
set_option maxRecDepth 100000 in
set_option maxHeartbeats 1000000 in
theorem text_any (xs : List Int) (hl : xs.length = 16) (w : World) : Calls Tryz.prog 54 #[arrV .u8 xs] w fun e w' => e = .returned (.string (strOfNums xs)) ∧ Below w.heap.size w w' := by
 have hsz : Bx ((xs.map (Value.int .u8)).toArray.size = 16) := ⟨by rw [List.size_toArray, List.length_map, hl]⟩
 replace hl := Bx.mk hl
 unfold arrV
 go_enter Tryz.func54, Tryz.ntmps54
 go_wp2_with fail
 generalize hW : World.alloc w _ = W
 have HI : Bx (TxI w xs 0 (.slice none 0 0) W) := by
  rw [← hW]
  exact ⟨⟨(Below.refl _ _).alloc (Nat.le_refl _) _, (blk_new _ _ _ rfl : Bk _ _ _ _), by rw [List.take_zero]; exact Own.nil _ _ _ _⟩⟩
 clear hW hsz
 go_loopw [3, 4] (fun v3 v4 wr => ∃ k : Nat, k ≤ 16 ∧ v4 = .int .i64 k ∧ Bx (TxI w xs k v3 wr)) (fun _ v4 _ => 16 - (intOf v4).toNat)
 case atStart => exact ⟨0, Nat.zero_le _, rfl, HI⟩
 case round =>
  clear HI
  obtain ⟨k, hk, rfl, HI⟩ := hrel
  by_cases hlt : k < 16
  · have t0 : decide ((k : Int) < 16) = true := by simp; omega
    have q0 : (0 : Int) ≤ (k : Int) := by omega
    have q1 : (k : Int) < 16 := by omega
    obtain ⟨x, hx⟩ := at_lt hl hlt
    have hc := HI.out.kb.cell hx
    have hnext := Bx.mk (take_snoc_at hx)
    have hle : Bx (w.heap.size + 1 ≤ wr.heap.size) := ⟨HI.out.kb.lt⟩
    have hlk : Bx ((xs.take k).length ≤ 1000000000) := ⟨by rw [List.length_take, hl.out]; omega⟩
    clear hx
    go_wp2_with (first
     | (at_builtin
        refine wpList_append_int rfl _ _ 88 rfl 5 .u8 (.int .u8 0) 1 (by omega) Tryz.underlying88 (by kernel_rfl) rfl (w.heap.size + 1) _ (xs.take k) rfl (HI.out.own.alloc _) x ⟨wr.heap.size, 0, none⟩ 1 rfl (cell_new _ _ _) hlk.out (le_alloc hle.out _) ?_
        intro v1 w1 hown1 hg1 _))
    have HI2 : Bx (TxI w xs (k + 1) v1 w1) := by
     have hb7 : Below (w.heap.size + 1) (wr.alloc (.cells #[.int .u8 x] 5)) w1 := (Below.refl _ _).grown hg1 (le_alloc hle.out _) (fun g hg => (HI.out.own.lt g hg).1)
     have hb8 : Below (w.heap.size + 1) wr w1 := ((Below.refl _ _).alloc hle.out _).trans hb7
     refine ⟨HI.out.bel.trans (hb8.mono (Nat.le_succ _)), (hb8.block _ (Nat.lt_succ_self _)).trans HI.out.kb, ?_⟩
     rw [hnext.out]; exact hown1
    clear hown1 hg1 HI hc
    go_wp2_with fail
    go_roundw
    case rel => exact ⟨k + 1, by omega, by go_num, HI2⟩
    case measure => simp [intOf]; omega
  · have t0 : decide ((k : Int) < 16) = false := by simp; omega
    obtain rfl : k = 16 := by omega
    have how := HI.out.own
    rw [List.take_of_length_le (by rw [hl.out]; exact Nat.le_refl _)] at how
    obtain ⟨a, c, rfl, hs⟩ := how.form
    have hcv := conv_str (P := Tryz.prog) (w := wr) 88 5 9 Tryz.underlying88 Tryz.underlying5 Tryz.underlying9 hs _ c rfl
    clear how hs
    go_wp2_with fail
    go_ret
    exact ⟨rfl, HI.out.bel⟩
set_option maxRecDepth 100000 in
set_option maxHeartbeats 1000000 in
theorem rdig_uni (kc : List Int) (hk : kc.length = 64) (x : Nat) (hx : x ≤ 255) (w : World) (hK : Krow w 1 kc) :
 Calls Tryz.prog 18 #[.string (strOfNums (Tr.enc (.uni (x : Int))))] w (DigPost w (dig kc 1 [vi (2 * x)])) := by
 have hI := Bx.mk (refint_any x (by omega))
 have hP : Parts [vi (2 * x)] := parts_one (byt_vi _) (by have := vi_le (2 * x) (by omega); omega)
 have hof := Bx.mk fun (a : Option Addr) (cap : Nat) (W : World) (h : Slv W a (strs [vi (2 * x)])) (hK : Krow W 1 kc) => (show Calls Tryz.prog 50 #[.int .i64 1, .slice a 1 cap] W (fun e w' => e = .returned (arrV .u8 (dig kc 1 [vi (2 * x)])) ∧ Below W.heap.size W w') from refof_any kc hk 1 a cap [vi (2 * x)] hP W h hK)
 have hl16 := dig_len kc 1 [vi (2 * x)]
 have hK := Bx.mk hK
 clear hP
 generalize dig kc 1 [vi (2 * x)] = os at *
 have hsz : Bx (((os).map (Value.int .u8)).toArray.size = 16) := ⟨by rw [List.size_toArray, List.length_map, hl16]⟩
 have hs2 : Bx (((z16.map (Value.int .u8)).toArray).size = (os.map (Value.int .u8)).toArray.size) := ⟨by rw [hsz.out]; rfl⟩
 have hone := Bx.mk (one_ints .u8 os)
 have H2 := Bx.mk (show ∀ cs : Array Value, cs.size = 16 → (Tryz.prog.info? 49).map (·.size) = some cs.size from fun cs h => by rw [h]; kernel_rfl)
 clear hl16
 have hby : Byt (Tr.enc (.uni (x : Int))) := Tr.enc_byt _ (show 0 ≤ (x : Int) ∧ (x : Int) ≤ 255 by omega)
 have hi0 := fun W : World => idx_str (P := Tryz.prog) 9 Tryz.underlying9 hby (k := 0) (x := 117) (by simp [Tr.enc]) W
 have hi1 := fun W : World => idx_str (P := Tryz.prog) 9 Tryz.underlying9 hby (k := 1) (x := (x : Int)) (by simp [Tr.enc]) W
 rw [show ((0 : Nat) : Int) = 0 from rfl] at hi0
 rw [show ((1 : Nat) : Int) = 1 from rfl] at hi1
 have hwrap : IntKind.i64.wrap (x : Int) = x := IntWalk.i64_in _ (by omega)
 generalize strOfNums (Tr.enc (.uni (x : Int))) = S at *
 clear hby
 go_enter Tryz.func18, Tryz.ntmps18
 go_upto_region 1 with fail
 generalize hW0 : World.alloc w _ = W
 have HJ : Bx (Below w.heap.size w W ∧ Bl W w.heap.size .u8 z16 49) := by
  rw [← hW0]
  exact ⟨⟨(Below.refl _ _).alloc (Nat.le_refl _) _, (blk_new _ _ _ rfl : Bk _ _ _ _)⟩⟩
 clear hW0
 go_wp2_with fail
 refine (hI.out W).mono ?_
 rintro _ w1 ⟨v1, rfl, hp1⟩
 obtain ⟨a1, c1, rfl, hs1⟩ := hp1.own.form
 have hcv := conv_str (P := Tryz.prog) 88 5 9 Tryz.underlying88 Tryz.underlying5 Tryz.underlying9 hs1 _ c1 rfl
 have HJ1 : Bx (Below w.heap.size w w1 ∧ Bl w1 w.heap.size .u8 z16 49) := ⟨HJ.out.1.trans (hp1.bel.mono HJ.out.1.size), HJ.out.2.later hp1.bel⟩
 clear hp1 hs1 HJ hI hi0 hi1
 generalize vi (2 * x) = xs at *
 go_wp2_with fail
 refine (hof.out _ 1 _ (slv_lit w1 xs _) (fun j v hv => cell_later (HJ1.out.1.alloc HJ1.out.1.size _) (hK.out j v hv))).mono ?_
 rintro _ w3 ⟨rfl, hb3⟩
 have HJ3 : Bx (Below w.heap.size w w3 ∧ Bl w3 w.heap.size .u8 z16 49) := ⟨(HJ1.out.1.alloc HJ1.out.1.size _).trans (hb3.mono (HJ1.out.1.alloc HJ1.out.1.size _).size), (HJ1.out.2.alloc _).later hb3⟩
 clear hb3 HJ1 hcv hof
 unfold arrV
 have hkr := Bx.mk HJ3.out.2
 go_wp2_with (refine wpList_store_whole rfl _ _ _ rfl w.heap.size rfl _ _ rfl _ hkr.out (H2.out _ hsz.out) hs2.out hone.out ?_)
 refine bodyPost_ret (v := arrV .u8 os) (results_cell_row rfl _ _ w.heap.size 49 _ (0, 0) _ rfl (hkr.out.whole _) Tryz.underlying49 rfl (H2.out _ hsz.out)) rfl ⟨rfl, below_setRow HJ3.out.1 (Nat.le_refl _) _⟩
set_option maxRecDepth 100000 in
set_option maxHeartbeats 1000000 in
theorem rdig_brick (kc : List Int) (hk : kc.length = 64) (l : List Int) (hl : l.length = 64) (hbl : Byt l) (w : World) (hK : Krow w 1 kc) :
 Calls Tryz.prog 18 #[.string (strOfNums (Tr.enc (.brick l)))] w (DigPost w (dig kc 2 [PalE.Pal.encB l])) := by
 have hC := Bx.mk fun (W : World) => (cells9_brick l hl hbl W).mono (R' := fun e w' => ∃ v, e = .returned v ∧ Own w' W.heap.size 3 .i64 v l ∧ Below W.heap.size W w') (fun _ _ h => h)
 have hE := Bx.mk fun (a : Option Addr) (cap : Nat) (W : World) (h : Sl W .i64 a l) => PalE.ref_encode a cap l W (by omega) h
 have hP : Parts [PalE.Pal.encB l] := parts_one (byt_encB hl hbl) (by have := encB_short hl; omega)
 have hof := Bx.mk fun (a : Option Addr) (cap : Nat) (W : World) (h : Slv W a (strs [PalE.Pal.encB l])) (hK : Krow W 1 kc) => (show Calls Tryz.prog 50 #[.int .i64 2, .slice a 1 cap] W (fun e w' => e = .returned (arrV .u8 (dig kc 2 [PalE.Pal.encB l])) ∧ Below W.heap.size W w') from refof_any kc hk 2 a cap [PalE.Pal.encB l] hP W h hK)
 have hl16 := dig_len kc 2 [PalE.Pal.encB l]
 have hK := Bx.mk hK
 clear hP
 generalize dig kc 2 [PalE.Pal.encB l] = os at *
 have hsz : Bx (((os).map (Value.int .u8)).toArray.size = 16) := ⟨by rw [List.size_toArray, List.length_map, hl16]⟩
 have hs2 : Bx (((z16.map (Value.int .u8)).toArray).size = (os.map (Value.int .u8)).toArray.size) := ⟨by rw [hsz.out]; rfl⟩
 have hone := Bx.mk (one_ints .u8 os)
 have H2 := Bx.mk (show ∀ cs : Array Value, cs.size = 16 → (Tryz.prog.info? 49).map (·.size) = some cs.size from fun cs h => by rw [h]; kernel_rfl)
 clear hl16
 have hby : Byt (98 :: l) := Tr.enc_byt (.brick l) ⟨hl, hbl⟩
 have hi0 := fun W : World => idx_str (P := Tryz.prog) 9 Tryz.underlying9 hby (k := 0) (x := 98) (by simp) W
 rw [show ((0 : Nat) : Int) = 0 from rfl] at hi0
 rw [show Tr.enc (.brick l) = 98 :: l by simp [Tr.enc]]
 generalize strOfNums (98 :: l) = S at *
 clear hby hl
 go_enter Tryz.func18, Tryz.ntmps18
 go_upto_region 1 with fail
 generalize hW0 : World.alloc w _ = W
 have HJ : Bx (Below w.heap.size w W ∧ Bl W w.heap.size .u8 z16 49) := by
  rw [← hW0]
  exact ⟨⟨(Below.refl _ _).alloc (Nat.le_refl _) _, (blk_new _ _ _ rfl : Bk _ _ _ _)⟩⟩
 clear hW0
 go_wp2_with fail
 refine (hC.out W).mono ?_
 rintro _ w1 ⟨v1, rfl, how, hb1⟩
 obtain ⟨a1, c1, rfl, hs1⟩ := how.form
 have HJ1 : Bx (Below w.heap.size w w1 ∧ Bl w1 w.heap.size .u8 z16 49) := ⟨HJ.out.1.trans (hb1.mono HJ.out.1.size), HJ.out.2.later hb1⟩
 replace hE := Bx.mk (hE.out a1 c1 w1 hs1)
 clear how hs1 HJ hC hb1 hi0
 generalize PalE.Pal.encB l = xs at *
 go_wp2_with fail
 refine hE.out.mono ?_
 rintro _ w2 ⟨rfl, hb2⟩
 have HJ2 : Bx (Below w.heap.size w w2 ∧ Bl w2 w.heap.size .u8 z16 49) := ⟨HJ1.out.1.trans (hb2.mono HJ1.out.1.size), HJ1.out.2.later hb2⟩
 clear hE HJ1 hb2
 go_wp2_with fail
 refine (hof.out _ 1 _ (slv_lit w2 xs _) (fun j v hv => cell_later (HJ2.out.1.alloc HJ2.out.1.size _) (hK.out j v hv))).mono ?_
 rintro _ w3 ⟨rfl, hb3⟩
 have HJ3 : Bx (Below w.heap.size w w3 ∧ Bl w3 w.heap.size .u8 z16 49) := ⟨(HJ2.out.1.alloc HJ2.out.1.size _).trans (hb3.mono (HJ2.out.1.alloc HJ2.out.1.size _).size), (HJ2.out.2.alloc _).later hb3⟩
 clear hb3 HJ2 hof
 unfold arrV
 have hkr := Bx.mk HJ3.out.2
 go_wp2_with (refine wpList_store_whole rfl _ _ _ rfl w.heap.size rfl _ _ rfl _ hkr.out (H2.out _ hsz.out) hs2.out hone.out ?_)
 refine bodyPost_ret (v := arrV .u8 os) (results_cell_row rfl _ _ w.heap.size 49 _ (0, 0) _ rfl (hkr.out.whole _) Tryz.underlying49 rfl (H2.out _ hsz.out)) rfl ⟨rfl, below_setRow HJ3.out.1 (Nat.le_refl _) _⟩
set_option maxRecDepth 100000 in
set_option maxHeartbeats 1000000 in
theorem depth9_node (d : Nat) (ch : Fin 8 → Tr) (h : Tr.WF (.node d ch)) (w : World) : Calls Tryz.prog 53 #[.string (strOfNums (Tr.enc (.node d ch)))] w fun e w' => e = .returned (.int .i64 (d : Int)) ∧ w = w' := by
 have hby := Tr.enc_byt _ h
 have hi0 := fun W : World => idx_str (P := Tryz.prog) 9 Tryz.underlying9 hby (k := 0) (x := 110) (by simp [Tr.enc]) W
 have hi1 := fun W : World => idx_str (P := Tryz.prog) 9 Tryz.underlying9 hby (k := 1) (x := (d : Int)) (by simp [Tr.enc]) W
 rw [show ((0 : Nat) : Int) = 0 from rfl] at hi0
 rw [show ((1 : Nat) : Int) = 1 from rfl] at hi1
 have hd : d ≤ 255 := h.1
 have hwrap : IntKind.i64.wrap (d : Int) = d := IntWalk.i64_in _ (by omega)
 generalize strOfNums (Tr.enc (.node d ch)) = S at *
 clear hby h
 go_enter Tryz.func53, Tryz.ntmps53
 go_wp2_with fail
 go_ret
 exact ⟨rfl, rfl⟩
structure RgI (w : World) (g : Nat) (kc : List Int) (d : Nat) (ch : Fin 8 → Tr) (k : Nat) (v : Value) (wr : World) : Prop where
 bel : Below w.heap.size w wr
 kr : Bl wr w.heap.size .u8 z16 49
 kids : Slv wr (some ⟨g, 0, none⟩) (strs (kidsE ch))
 own : Ownv wr (w.heap.size + 1) 9 v (strs (partsD kc d ch k))
 ap : v.ownBlock ≠ some g ∧ g < wr.heap.size
theorem RgI.later {w wr w' : World} {g : Nat} {kc : List Int} {d : Nat} {ch : Fin 8 → Tr} {k : Nat} {v : Value} (h : RgI w g kc d ch k v wr) (hb : Below wr.heap.size wr w') : RgI w g kc d ch k v w' :=
 ⟨h.bel.trans (hb.mono h.bel.size), h.kr.later hb, h.kids.below hb, h.own.below hb, h.ap.1, Nat.lt_of_lt_of_le h.ap.2 hb.size⟩
set_option maxRecDepth 100000 in
set_option maxHeartbeats 1000000 in
theorem rdig_node (kc : List Int) (hk : kc.length = 64) (d : Nat) (ch : Fin 8 → Tr) (h : Tr.WF (.node d ch)) (hl : (Tr.enc (.node d ch)).length ≤ 1000000000000000) (hIH : ∀ k (hk : k < 8) W, Krow W 1 kc → Calls Tryz.prog 18 #[.string (strOfNums (Tr.enc (ch ⟨k, hk⟩)))] W (DigPost W (digT kc (ch ⟨k, hk⟩)))) (w : World) (hK : Krow w 1 kc) :
 Calls Tryz.prog 18 #[.string (strOfNums (Tr.enc (.node d ch)))] w (DigPost w (dig kc 3 (partsD kc d ch 8))) := by
 have hd : d ≤ 255 := h.1
 have hI := Bx.mk (refint_any d (by omega))
 have hIH := Bx.mk fun k (hk : k < 8) W (h1 : Krow W 1 kc) => (hIH k hk W h1).mono (R' := fun e w' => e = .returned (arrV .u8 (digT kc (ch ⟨k, hk⟩))) ∧ Below W.heap.size W w') (fun _ _ h => h)
 have hP : Parts (partsD kc d ch 8) := partsD_ok kc ch (by omega)
 have hlp : (partsD kc d ch 8).length = 9 := partsD_len kc d ch (Nat.le_refl _)
 have hof := Bx.mk fun (a : Option Addr) (cap : Nat) (W : World) (h : Slv W a (strs (partsD kc d ch 8))) (hK : Krow W 1 kc) => (show Calls Tryz.prog 50 #[.int .i64 3, .slice a 9 cap] W (fun e w' => e = .returned (arrV .u8 (dig kc 3 (partsD kc d ch 8))) ∧ Below W.heap.size W w') from by have := refof_any kc hk 3 a cap (partsD kc d ch 8) hP W h hK; rw [hlp] at this; exact this)
 have hl16 := dig_len kc 3 (partsD kc d ch 8)
 have hK := Bx.mk hK
 clear hP
 clear hlp
 generalize dig kc 3 (partsD kc d ch 8) = os at *
 have hsz : Bx (((os).map (Value.int .u8)).toArray.size = 16) := ⟨by rw [List.size_toArray, List.length_map, hl16]⟩
 have hs2 : Bx (((z16.map (Value.int .u8)).toArray).size = (os.map (Value.int .u8)).toArray.size) := ⟨by rw [hsz.out]; rfl⟩
 have hone := Bx.mk (one_ints .u8 os)
 have H2 := Bx.mk (show ∀ cs : Array Value, cs.size = 16 → (Tryz.prog.info? 49).map (·.size) = some cs.size from fun cs h => by rw [h]; kernel_rfl)
 clear hl16
 have hps := Bx.mk fun k (hk : k < 8) => partsD_snoc kc d ch hk
 have hpl := Bx.mk fun k (hk : k ≤ 8) => partsD_len kc d ch hk
 have hp0 : Bx (partsD kc d ch 0 = [vi (2 * d)]) := ⟨rfl⟩
 have hD := Bx.mk (depth9_node d ch h)
 have hCh := Bx.mk (ref9_children d ch h hl)
 have HK8 := Bx.mk fun k (hk : k < 8) => strs_at (kidsE_at ch hk)
 have hby := Tr.enc_byt _ h
 have hi0 := fun W : World => idx_str (P := Tryz.prog) 9 Tryz.underlying9 hby (k := 0) (x := 110) (by simp [Tr.enc]) W
 rw [show ((0 : Nat) : Int) = 0 from rfl] at hi0
 generalize strOfNums (Tr.enc (.node d ch)) = S at *
 clear hby h hl
 go_enter Tryz.func18, Tryz.ntmps18
 go_upto_region 1 with fail
 generalize hW0 : World.alloc w _ = W
 have HJ : Bx (Below w.heap.size w W ∧ Bl W w.heap.size .u8 z16 49) := by
  rw [← hW0]
  exact ⟨⟨(Below.refl _ _).alloc (Nat.le_refl _) _, (blk_new _ _ _ rfl : Bk _ _ _ _)⟩⟩
 clear hW0
 go_wp2_with fail
 refine (hD.out W).mono ?_
 rintro _ _ ⟨rfl, rfl⟩
 go_wp2_with fail
 refine (hI.out W).mono ?_
 rintro _ w1 ⟨v1, rfl, hp1⟩
 obtain ⟨a1, c1, rfl, hs1⟩ := hp1.own.form
 have hcv := conv_str (P := Tryz.prog) 88 5 9 Tryz.underlying88 Tryz.underlying5 Tryz.underlying9 hs1 _ c1 rfl
 have HJ1 : Bx (Below w.heap.size w w1 ∧ Bl w1 w.heap.size .u8 z16 49) := ⟨HJ.out.1.trans (hp1.bel.mono HJ.out.1.size), HJ.out.2.later hp1.bel⟩
 have hsw : Bx (w.heap.size < w1.heap.size) := ⟨HJ1.out.2.lt⟩
 clear hp1 hs1 HJ hI hi0 hD
 generalize vi (2 * d) = xs at *
 go_wp2_with fail
 have hb4 : Below w.heap.size w (w1.alloc (.cells #[.string (strOfNums xs)] 9)) := HJ1.out.1.alloc HJ1.out.1.size _
 refine (hCh.out _).mono ?_
 rintro _ w4 ⟨g, pc, rfl, hkids, ⟨hg1, hg2⟩, hbc⟩
 have HI : Bx (RgI w g kc d ch 0 (.slice (some ⟨w1.heap.size, 0, none⟩) 1 1) w4) := by
  have hl := Ownv.lit1 w1 (w.heap.size + 1) 9 (.string (strOfNums xs)) (by have := hsw.out; omega)
  refine ⟨⟨hb4.trans (hbc.mono hb4.size), (HJ1.out.2.alloc _).later hbc, hkids, ?_, ?_, hg2⟩⟩
  · rw [hp0.out]
    exact hl.below hbc
  · intro e
    simp [Value.ownBlock] at e
    simp at hg1
    omega
 clear hkids hbc hb4 HJ1 hcv hp0 hsw hCh hg1 hg2
 go_wp2_with fail
 go_loopw [5, 7] (fun v5 v7 wr => ∃ k : Nat, k ≤ 8 ∧ v7 = .int .i64 k ∧ Bx (RgI w g kc d ch k v5 wr)) (fun _ v7 _ => 8 - (intOf v7).toNat)
 case atStart => exact ⟨0, Nat.zero_le _, rfl, HI⟩
 case round =>
  clear HI
  obtain ⟨k, hk8, rfl, HI⟩ := hrel
  by_cases hlt : k < 8
  · have t0 : decide ((k : Int) < 8) = true := by simp; omega
    have q0 : (0 : Int) ≤ (k : Int) := by omega
    have q1 : (k : Int) < 8 := by omega
    have hIk := Bx.mk (hIH.out k hlt wr (fun j v hv => cell_later HI.out.bel (hK.out j v hv)))
    have hsn := Bx.mk (hps.out k hlt)
    have hlk : Bx ((strs (partsD kc d ch k)).length ≤ 1000000000) := ⟨by rw [strs_length, hpl.out k (by omega)]; omega⟩
    have hl16 := digT_len kc (ch ⟨k, hlt⟩)
    obtain ⟨b', off, he, hck⟩ := HI.out.kids k _ (HK8.out k hlt)
    simp only [Option.some.injEq, Addr.mk.injEq, and_true] at he
    obtain ⟨rfl, rfl⟩ := he
    rw [Nat.zero_add] at hck
    generalize strOfNums (Tr.enc (ch ⟨k, hlt⟩)) = Sk at *
    generalize digT kc (ch ⟨k, hlt⟩) = xs at *
    have hsz9 : Bx (((xs).map (Value.int .u8)).toArray.size = 16) := ⟨by rw [List.size_toArray, List.length_map, hl16]⟩
    have hzz : Bx (16 = (xs.map (Value.int .u8)).toArray.size) := ⟨by rw [hsz9.out]⟩
    have hone9 := Bx.mk (one_ints .u8 xs)
    have hTx := Bx.mk (text_any xs hl16)
    go_wp2_with fail
    refine hIk.out.mono ?_
    rintro _ w5 ⟨rfl, hb5⟩
    have HI5 := Bx.mk (HI.out.later hb5)
    clear hIk hb5 HI hck
    unfold arrV
    go_upto_region 12 with (first
     | refine wpList_store_whole rfl _ _ _ rfl w5.heap.size rfl _ _ rfl _ (heap_alloc_new _ _) (H2.out _ hsz9.out) hzz.out hone9.out ?_
     | fail)
    generalize hW6 : World.setRow (World.alloc w5 _) _ _ = W6
    have hw5 : w.heap.size < w5.heap.size := HI5.out.kr.lt
    have HI6 : Bx (RgI w g kc d ch k u5 W6 ∧ Bl W6 w5.heap.size .u8 xs 49) := by
     have hb6 : Below w5.heap.size w5 W6 := by rw [← hW6]; exact below_setRow ((Below.refl _ _).alloc (Nat.le_refl _) _) (Nat.le_refl _) _
     refine ⟨HI5.out.later hb6, ?_⟩
     rw [← hW6]
     exact setRow_heap _ _ _ _ _ (0, 0) (heap_alloc_new _ _)
    clear hW6 HI5 hl16
    have hkx := Bx.mk HI6.out.2
    go_wp2_with (first
     | refine wpList_load_whole rfl _ _ rfl w5.heap.size rfl _ _ hkx.out _ Tryz.underlying49 rfl (H2.out _ hsz9.out) ?_
     | fail)
    refine (hTx.out _).mono ?_
    rintro _ w7 ⟨rfl, hb7⟩
    have HI7 := Bx.mk (HI6.out.1.later hb7)
    have hle : Bx (w.heap.size + 1 ≤ w7.heap.size) := ⟨HI7.out.kr.lt⟩
    clear HI6 hkx hb7 hTx hw5
    go_wp2_with (first
     | (at_builtin
        refine wpList_append_val rfl _ _ 83 rfl 9 (.string ByteArray.empty) 16 (by omega) Tryz.underlying83 (by kernel_rfl) rfl (w.heap.size + 1) _ (strs (partsD kc d ch k)) rfl (HI7.out.own.alloc _) (.string (strOfNums xs)) rfl ⟨w7.heap.size, 0, none⟩ 1 rfl (cell_new _ _ _) hlk.out (le_alloc hle.out _) ?_
        intro v1 w8 hown1 hg1 hob1))
    have HI8 : Bx (RgI w g kc d ch (k + 1) v1 w8) := by
     have hown2 := hown1
     rw [show (strs (partsD kc d ch k) ++ [.string (strOfNums xs)]) = strs (partsD kc d ch (k + 1)) by rw [hsn.out, strs_snoc]] at hown2
     have hb7 : Below (w.heap.size + 1) (w7.alloc (.cells #[.string (strOfNums xs)] 9)) w8 := (Below.refl _ _).grown hg1 (le_alloc hle.out _) (fun g hg => (HI7.out.own.lt g hg).1)
     have hb8 : Below (w.heap.size + 1) w7 w8 := ((Below.refl _ _).alloc hle.out _).trans hb7
     have hap := HI7.out.ap
     refine ⟨HI7.out.bel.trans (hb8.mono (Nat.le_succ _)), (hb8.block _ (Nat.lt_succ_self _)).trans HI7.out.kr, (HI7.out.kids.below ((Below.refl _ _).alloc (Nat.le_refl _) _)).grown hg1 hap.1, hown2, ?_, Nat.lt_of_lt_of_le hap.2 hb8.size⟩
     rcases hob1 with e | e
     · rw [e]; exact hap.1
     · rw [e]; intro e2; injection e2 with e2; simp at e2; omega
    clear hown1 hg1 hob1 HI7
    go_wp2_with fail
    go_roundw
    case rel => exact ⟨k + 1, by omega, by go_num, HI8⟩
    case measure => simp [intOf]; omega
  · have t0 : decide ((k : Int) < 8) = false := by simp; omega
    obtain rfl : k = 8 := by omega
    have hl9 := hpl.out 8 (Nat.le_refl _)
    obtain ⟨a8, c8, rfl, hs8⟩ := HI.out.own.form
    have hl9' : (strs (partsD kc d ch 8)).length = 9 := by rw [strs_length]; exact hl9
    rw [hl9'] at *
    have hof8 := Bx.mk (hof.out a8 c8 wr hs8 (fun j v hv => cell_later HI.out.bel (hK.out j v hv)))
    clear hl9 hl9' hs8 hof
    go_wp2_with fail
    refine hof8.out.mono ?_
    rintro _ w3 ⟨rfl, hb3⟩
    have HJ3 : Bx (Below w.heap.size w w3 ∧ Bl w3 w.heap.size .u8 z16 49) := ⟨HI.out.bel.trans (hb3.mono HI.out.bel.size), HI.out.kr.later hb3⟩
    clear hb3 HI hof8
    unfold arrV
    have hkr := Bx.mk HJ3.out.2
    go_wp2_with (refine wpList_store_whole rfl _ _ _ rfl w.heap.size rfl _ _ rfl _ hkr.out (H2.out _ hsz.out) hs2.out hone.out ?_)
    refine bodyPost_ret (v := arrV .u8 os) (results_cell_row rfl _ _ w.heap.size 49 _ (0, 0) _ rfl (hkr.out.whole _) Tryz.underlying49 rfl (H2.out _ hsz.out)) rfl ⟨rfl, below_setRow HJ3.out.1 (Nat.le_refl _) _⟩
theorem digest_any (kc : List Int) (hk : kc.length = 64) (Far : Nat → Prop) (sb : Nat) (most : Int) (ts : List Tr) (hG : Good ts) (hlen : ts.length ≤ 4194304) : ∀ (t : Tr), Tr.WF t → t ∈ ts → ∀ (w : World), Krow w 0 kc → StoreIs w Far sb most ts →
 Calls Tryz.prog 17 #[.pointer (some ⟨sb, 0, none⟩), .int .i64 (idT ts t : Int)] w (DigPost w (digT kc t)) := by
 intro t
 induction t with
 | uni c =>
   intro h ht w hK hS
   have h : 0 ≤ c ∧ c ≤ 255 := h
   obtain ⟨x, rfl⟩ : ∃ x : Nat, c = (x : Int) := ⟨c.toNat, by omega⟩
   have := digest_uni kc hk x (by omega) Far sb most ts ht hlen w hK hS
   unfold digT
   rwa [Int.toNat_natCast]
 | brick l =>
   intro h ht w hK hS
   have h : l.length = 64 ∧ ∀ x ∈ l, 0 ≤ x ∧ x ≤ 255 := h
   unfold digT
   exact digest_brick kc hk l h.1 h.2 Far sb most ts ht hG hlen w hK hS
 | node d ch ih =>
   intro h ht w hK hS
   have h : d ≤ 255 ∧ ∀ i, Tr.WF (ch i) := h
   rw [← partsD_all]
   exact digest_node kc hk d h.1 ch Far sb most ts ht (fun k hk8 W h1 h2 => by
    have := ih ⟨k, hk8⟩ (h.2 _) (hG.closed.2 d ch ht _) W h1 h2
    unfold kidX
    rw [dif_pos hk8]
    exact this) hlen w hK hS
theorem rdig_any (kc : List Int) (hk : kc.length = 64) : ∀ (t : Tr), Tr.WF t → (Tr.enc t).length ≤ 1000000000000000 → ∀ (w : World), Krow w 1 kc → Calls Tryz.prog 18 #[.string (strOfNums (Tr.enc t))] w (DigPost w (digT kc t)) := by
 intro t
 induction t with
 | uni c =>
   intro h _ w hK
   have h : 0 ≤ c ∧ c ≤ 255 := h
   obtain ⟨x, rfl⟩ : ∃ x : Nat, c = (x : Int) := ⟨c.toNat, by omega⟩
   have := rdig_uni kc hk x (by omega) w hK
   unfold digT
   rwa [Int.toNat_natCast]
 | brick l =>
   intro h _ w hK
   have h : l.length = 64 ∧ ∀ x ∈ l, 0 ≤ x ∧ x ≤ 255 := h
   unfold digT
   exact rdig_brick kc hk l h.1 h.2 w hK
 | node d ch ih =>
   intro h hl w hK
   have hw : d ≤ 255 ∧ ∀ i, Tr.WF (ch i) := h
   rw [← partsD_all]
   exact rdig_node kc hk d ch h hl (fun k hk8 W h1 => ih ⟨k, hk8⟩ (hw.2 _) (by
    have h1 := Tr.pos_succ ch hk8
    have h2 := Tr.pos_le d ch (show k + 1 ≤ 8 by omega)
    omega) W h1) w hK
end Go.Proofs.YtabclecmehdeoaaGreatDoor
end
section
namespace Go.Proofs.YtabclecmehdeoaaGreatDoor
open Go.RowKit Go.Sort Go.Maps
open Oct
theorem part_no (w : World) (sb n : Nat) (hn : n ≤ 12) (id px py pz lv : Int) (h : ¬ (inB ⟨px, py, pz⟩ (cubeB (2 ^ (n + 2))) = true ∧ 2 ≤ lv ∧ lv ≤ (n : Int) + 2 ∧ alB lv.toNat ⟨px, py, pz⟩ = true)) :
 Calls Tryz.prog 12 #[.pointer (some ⟨sb, 0, none⟩), .int .i64 id, .int .i64 ((n : Int) + 2), .agg #[.int .i64 px, .int .i64 py, .int .i64 pz], .int .i64 lv] w fun e w' => e = ret2 0 1 ∧ Below w.heap.size w w' := by
 cases hI : inB ⟨px, py, pz⟩ (cubeB (2 ^ (n + 2))) with
 | false => exact part_in w sb n hn id px py pz lv hI
 | true =>
   by_cases h1 : lv < 2
   · exact part_lo w sb n hn id px py pz lv hI h1
   · by_cases h2 : (n : Int) + 2 < lv
     · exact part_hi w sb n hn id px py pz lv hI h1 h2
     · cases hA : alB lv.toNat ⟨px, py, pz⟩ with
       | true => exact absurd ⟨hI, by omega, by omega, hA⟩ h
       | false =>
         have := part_al w sb n lv.toNat hn (by omega) (by omega) id px py pz hI hA
         rwa [Int.toNat_of_nonneg (by omega)] at this
end Go.Proofs.YtabclecmehdeoaaGreatDoor
end
section
namespace Go.Proofs.YtabclecmehdeoaaGreatDoor
open Go.RowKit Go.Sort Go.Maps
open Oct
attribute [local go_sem ↓] Go.wp_at_zero Go.wp_at_succ
set_option maxRecDepth 100000 in
set_option maxHeartbeats 2000000 in
theorem ref_copied (a b c d e f : Int) (pb po : Nat) (hcp n : Nat) (xs : List Int) (hn : xs.length = n) (h1 : 0 < n) (h2 : n ≤ 1000) (w : World) (hsl : Sl w .i64 (some ⟨pb, po, none⟩) xs) :
 Calls Tryz.prog 146 #[.agg #[.int .i64 a, .int .i64 b, .int .i64 c, .int .i64 d, .int .i64 e, .int .i64 f, .slice (some ⟨pb, po, none⟩) n hcp]] w fun e' w' => ∃ g cap, e' = .returned (.agg #[.int .i64 a, .int .i64 b, .int .i64 c, .int .i64 d, .int .i64 e, .int .i64 f, .slice (some ⟨g, 0, none⟩) n cap]) ∧ Own w' w.heap.size 3 .i64 (.slice (some ⟨g, 0, none⟩) n cap) xs ∧ Below w.heap.size w w' := by
 obtain ⟨i0, hi0, hz0, hz1, hz2⟩ := info_parts (show (Tryz.prog.info? 3).map (fun i => (i.zero, i.size, i.bytes)) = some (some (.int .i64 0), 1, 8) by kernel_rfl)
 have hlm := Bx.mk (show (xs.map (Value.int .i64)).length = n * 1 by rw [List.length_map, hn]; omega)
 have h1c := Bx.mk (show ∀ u ∈ xs.map (Value.int .i64), u.oneCell' = true from fun u hu => by
  obtain ⟨x, _, rfl⟩ := List.mem_map.1 hu
  rfl)
 have Hsl := Bx.mk hsl
 have Hn := Bx.mk hn
 clear hsl hn
 go_enter Tryz.func146, Tryz.ntmps146
 go_wp2_with fail
 generalize hW : World.alloc (World.alloc w _) _ = W
 have hSz : w.heap.size + 1 + 1 ≤ W.heap.size := by rw [← hW]; simp
 have hB : Below w.heap.size w W := by rw [← hW]; exact ((Below.refl _ _).alloc (Nat.le_refl _) _).alloc (by simp) _
 have kg : Bk W (w.heap.size) #[.int .i64 a, .int .i64 b, .int .i64 c, .int .i64 d, .int .i64 e, .int .i64 f, .slice (some ⟨pb, po, none⟩) n hcp] 28 := by rw [← hW]; exact blk_old (blk_new _ _ _ (by simp))
 have kr : Bk W (w.heap.size + 1) #[.int .i64 0, .int .i64 0, .int .i64 0, .int .i64 0, .int .i64 0, .int .i64 0, .slice none 0 0] 28 := by rw [← hW]; exact blk_new _ _ _ (by simp)
 clear hW
 obtain ⟨cg0, cg1, cg2, cg3, cg4, cg5, cg6⟩ := kg.c7
 obtain ⟨cr0, cr1, cr2, cr3, cr4, cr5, cr6⟩ := kr.c7
 obtain ⟨fr0, fr1, fr2, fr3, fr4, fr5, fr6⟩ := kr.f7
 have hnw := Bx.mk fun (V : World) (hV : Below W.heap.size W V) => (show ∀ j u, (xs.map (Value.int .i64))[j]? = some u → V.cell? ((⟨pb, po, none⟩ : Addr).add j) = some u from fun j u hu => by
  rw [List.getElem?_map] at hu
  cases hx : xs[j]? with
  | none => rw [hx] at hu; cases hu
  | some x =>
    rw [hx] at hu
    injection hu with hu
    subst hu
    obtain ⟨b', off', he, hc⟩ := (Hsl.out.below (hB.trans (hV.mono hB.size))) j x hx
    simp only [Option.some.injEq, Addr.mk.injEq, and_true] at he
    obtain ⟨rfl, rfl⟩ := he
    have : (⟨pb, po, none⟩ : Addr).add j = ⟨pb, po + j, none⟩ := by unfold Addr.add; split <;> simp_all
    rw [this]; exact hc)
 go_region_held3 (fun w' => w'.cell? ⟨w.heap.size, 0, none⟩ = some (.int .i64 a) ∧ w'.cell? ⟨w.heap.size, 1, none⟩ = some (.int .i64 b) ∧ w'.cell? ⟨w.heap.size, 2, none⟩ = some (.int .i64 c) ∧ w'.cell? ⟨w.heap.size, 3, none⟩ = some (.int .i64 d) ∧ w'.cell? ⟨w.heap.size, 4, none⟩ = some (.int .i64 e) ∧ w'.cell? ⟨w.heap.size, 5, none⟩ = some (.int .i64 f) ∧ w'.cell? ⟨w.heap.size, 6, none⟩ = some (.slice (some ⟨pb, po, none⟩) n hcp))
  (first | go_keep | (dsimp only; and_intros <;> assumption))
  ((refine step_append_lies _ (by rfl) (.tmp 6) (.tmp 8) 26 (by rfl) (w.heap.size + 1 + 1) 3 i0 (.int .i64 0) 1 8 Tryz.underlying26 hi0 hz0 hz1 hz2 rfl (by omega) (.slice none 0 0) 0 [] (by simp [Act.eval, Act.put]) (World.ownsRow_nil _ _ _ _) ⟨pb, po, none⟩ n hcp (xs.map (Value.int .i64)) (by simp [Act.eval, Act.put]) hlm.out (hnw.out _ (Below.refl _ _).drew) h1c.out h1 (by simp only [maxLen]; omega) (by omega) hSz W.heap.size rfl ?_; intro g cap w1 hown hg hat hlt; have hb9 := ((Below.refl W.heap.size W).drew).grown hg (Nat.le_refl _) (fun g h => by cases h); have kg9 := kg.later hb9; have kr9 := kr.later hb9; have d0 := kg9.cell 0 rfl; have d1 := kg9.cell 1 rfl; have d2 := kg9.cell 2 rfl; have d3 := kg9.cell 3 rfl; have d4 := kg9.cell 4 rfl; have d5 := kg9.cell 5 rfl; have d6 := kg9.cell 6 rfl; have e0 := kr9.cell 0 rfl; have h0 := kr9.frozen 0; have e1 := kr9.cell 1 rfl; have h1 := kr9.frozen 1; have e2 := kr9.cell 2 rfl; have h2 := kr9.frozen 2; have e3 := kr9.cell 3 rfl; have h3 := kr9.frozen 3; have e4 := kr9.cell 4 rfl; have h4 := kr9.frozen 4; have e5 := kr9.cell 5 rfl; have h5 := kr9.frozen 5; have e6 := kr9.cell 6 rfl; have h6 := kr9.frozen 6))
 have hO : Own w1 (w.heap.size + 1 + 1) 3 .i64 (.slice (some ⟨g, 0, none⟩) n cap) xs := by
  have hown2 := hown
  simp only [Nat.zero_add, List.nil_append] at hown2
  unfold Own
  rw [Hn.out]; exact hown2
 have kr2 := kr9.put7 (.int .i64 a) (.int .i64 b) (.int .i64 c) (.int .i64 d) (.int .i64 e) (.int .i64 f) (.slice (some ⟨g, 0, none⟩) n cap)
 have hB2 := blw7 (hB.trans (hb9.mono hB.size)) (show w.heap.size ≤ w.heap.size + 1 by omega) (.int .i64 a) (.int .i64 b) (.int .i64 c) (.int .i64 d) (.int .i64 e) (.int .i64 f) (.slice (some ⟨g, 0, none⟩) n cap)
 have hO2 : Own _ (w.heap.size + 1 + 1) 3 .i64 (.slice (some ⟨g, 0, none⟩) n cap) xs := ((((((hO.setBelow (a := ⟨w.heap.size + 1, 0, none⟩) (by simp only; omega) (.int .i64 a)).setBelow (a := ⟨w.heap.size + 1, 1, none⟩) (by simp only; omega) (.int .i64 b)).setBelow (a := ⟨w.heap.size + 1, 2, none⟩) (by simp only; omega) (.int .i64 c)).setBelow (a := ⟨w.heap.size + 1, 3, none⟩) (by simp only; omega) (.int .i64 d)).setBelow (a := ⟨w.heap.size + 1, 4, none⟩) (by simp only; omega) (.int .i64 e)).setBelow (a := ⟨w.heap.size + 1, 5, none⟩) (by simp only; omega) (.int .i64 f)).setBelow (a := ⟨w.heap.size + 1, 6, none⟩) (by simp only; omega) (.slice (some ⟨g, 0, none⟩) n cap)
 clear hg hat hown hO kr9 kg9 kr kg d0 d1 d2 d3 d4 d5 d6 e0 e1 e2 e3 e4 e5 e6 h0 h1 h2 h3 h4 h5 h6 cg0 cg1 cg2 cg3 cg4 cg5 cg6 cr0 cr1 cr2 cr3 cr4 cr5 cr6 fr0 fr1 fr2 fr3 fr4 fr5 fr6
 go_wp2_with fail
 exact bodyPost_ret (v := .agg #[.int .i64 a, .int .i64 b, .int .i64 c, .int .i64 d, .int .i64 e, .int .i64 f, .slice (some ⟨g, 0, none⟩) n cap]) (results_cell_row rfl _ _ _ 28 #[.int .i64 a, .int .i64 b, .int .i64 c, .int .i64 d, .int .i64 e, .int .i64 f, .slice (some ⟨g, 0, none⟩) n cap] (0, 0) _ rfl kr2 Tryz.underlying28 rfl (by kernel_rfl)) rfl ⟨g, cap, rfl, hO2.base (by omega), hB2⟩
end Go.Proofs.YtabclecmehdeoaaGreatDoor
end
