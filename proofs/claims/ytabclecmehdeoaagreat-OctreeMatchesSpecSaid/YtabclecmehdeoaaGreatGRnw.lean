import Derived.Test.YtabclecmehdeoaaGreatGRva
import Derived.Deep.RegionHeld3
import Derived.Deep.AppendLies
section
/- voxelref07.New of a box that is not empty, copied, by the program. -/
namespace Go.Proofs.YtabclecmehdeoaaGreat
open Go.RowKit Go.Sort Go.Maps
open Oct

/-- what lies in memory while a grid of zeros is made -/
structure RnI (w : World) (a b c d e f : Int) (gr gk : Nat) (k : Nat) (v : Value) (wr : World) : Prop where
  kk : Bk wr gk #[.int .i64 a, .int .i64 b, .int .i64 c, .int .i64 d, .int .i64 e, .int .i64 f, v] 28
  own : Own wr (gk + 1) 3 .i64 v (List.replicate k 0)
  kr : Bk wr gr #[.int .i64 0, .int .i64 0, .int .i64 0, .int .i64 0, .int .i64 0, .int .i64 0, .slice none 0 0] 28
  bel : Below w.heap.size w wr
  lt : w.heap.size ≤ gr ∧ gr < gk
set_option maxRecDepth 100000 in
set_option maxHeartbeats 2000000 in
theorem ref_new (a b c d e f : Int) (hok : okB ⟨⟨a, b, c⟩, ⟨d, e, f⟩⟩ = true) (he : emptyB ⟨⟨a, b, c⟩, ⟨d, e, f⟩⟩ = false) (n : Nat) (hn : volB ⟨⟨a, b, c⟩, ⟨d, e, f⟩⟩ = n) (hle : n ≤ 300) (w : World) :
    Calls Tryz.prog 100 #[.agg #[.int .i64 a, .int .i64 b, .int .i64 c, .int .i64 d, .int .i64 e, .int .i64 f], .int .i64 0] w fun e' w' => ∃ g cap, e' = .returned (.tuple #[.agg #[.int .i64 a, .int .i64 b, .int .i64 c, .int .i64 d, .int .i64 e, .int .i64 f, .slice (some ⟨g, 0, none⟩) n cap], .int .i64 0]) ∧ Own w' w.heap.size 3 .i64 (.slice (some ⟨g, 0, none⟩) n cap) (List.replicate n 0) ∧ Below w.heap.size w w' := by
  have hok2 : okP ⟨a, b, c⟩ = true ∧ okP ⟨d, e, f⟩ = true := by simpa [okB] using hok
  have hr0 := Bx.mk fun W => ref_ranged a b c W
  have hr1 := Bx.mk fun W => ref_ranged d e f W
  have hm := Bx.mk fun W => ref_mat 0 W
  have hv := Bx.mk fun W => ref_vol a b c d e f (okB_small hok) W
  have hpos : 1 ≤ n := by have := atB_pos he; omega
  rw [hok2.1] at hr0
  rw [hok2.2] at hr1
  rw [hn] at hv
  rw [show Pal.cell 0 = true from rfl] at hm
  clear hok he hok2 hn
  have t1 : ((n : Int) == 0) = false := beq_eq_false_iff_ne.2 (by omega)
  have t2 : decide (2097152 < (n : Int)) = false := by simp; omega
  go_enter Tryz.func100, Tryz.ntmps100
  go_wp2_with fail
  generalize hW : World.alloc (World.alloc w _) _ = W
  have hSz : w.heap.size + 1 + 1 ≤ W.heap.size := by rw [← hW]; simp
  have hB : Below w.heap.size w W := by rw [← hW]; exact ((Below.refl _ _).alloc (Nat.le_refl _) _).alloc (by simp) _
  have kb : Bk W (w.heap.size) #[.int .i64 a, .int .i64 b, .int .i64 c, .int .i64 d, .int .i64 e, .int .i64 f] 25 := by rw [← hW]; exact blk_old (blk_new _ _ _ (by simp))
  have kr : Bk W (w.heap.size + 1) #[.int .i64 0, .int .i64 0, .int .i64 0, .int .i64 0, .int .i64 0, .int .i64 0, .slice none 0 0] 28 := by rw [← hW]; exact blk_new _ _ _ (by simp)
  clear hW
  refine (hr0.out _).mono ?_
  rintro _ w1 ⟨rfl, hb⟩
  replace hB := hB.trans (hb.mono hB.size)
  replace kb := kb.later hb
  replace kr := kr.later hb
  replace hSz := Nat.le_trans hSz hb.size
  clear hb
  have cb0 := kb.cell 0 rfl
  have cb1 := kb.cell 1 rfl
  have cb2 := kb.cell 2 rfl
  have cb3 := kb.cell 3 rfl
  have cb4 := kb.cell 4 rfl
  have cb5 := kb.cell 5 rfl
  go_wp2_with fail
  clear cb0 cb1 cb2 cb3 cb4 cb5
  refine (hr1.out _).mono ?_
  rintro _ w2 ⟨rfl, hb⟩
  replace hB := hB.trans (hb.mono hB.size)
  replace kb := kb.later hb
  replace kr := kr.later hb
  replace hSz := Nat.le_trans hSz hb.size
  clear hb
  go_wp2_with fail
  refine (hm.out _).mono ?_
  rintro _ _ ⟨rfl, rfl⟩
  have cb0 := kb.cell 0 rfl
  have cb1 := kb.cell 1 rfl
  have cb2 := kb.cell 2 rfl
  have cb3 := kb.cell 3 rfl
  have cb4 := kb.cell 4 rfl
  have cb5 := kb.cell 5 rfl
  go_wp2_with fail
  refine (hv.out _).mono ?_
  rintro _ w3 ⟨rfl, hb⟩
  clear cb0 cb1 cb2 cb3 cb4 cb5
  replace hB := hB.trans (hb.mono hB.size)
  replace kb := kb.later hb
  replace kr := kr.later hb
  replace hSz := Nat.le_trans hSz hb.size
  clear hb
  have cb0 := kb.cell 0 rfl
  have cb1 := kb.cell 1 rfl
  have cb2 := kb.cell 2 rfl
  have cb3 := kb.cell 3 rfl
  have cb4 := kb.cell 4 rfl
  have cb5 := kb.cell 5 rfl
  go_wp2_with fail
  generalize hW3 : World.alloc w3 _ = V3
  have HI : Bx (RnI w a b c d e f (w.heap.size + 1) w3.heap.size 0 (.slice none 0 0) V3) := ⟨by
    have kk : Bk V3 w3.heap.size #[.int .i64 a, .int .i64 b, .int .i64 c, .int .i64 d, .int .i64 e, .int .i64 f, .slice none 0 0] 28 := by rw [← hW3]; exact blk_new _ _ _ rfl
    have hb3 : Below w3.heap.size w3 V3 := by rw [← hW3]; exact (Below.refl _ _).alloc (Nat.le_refl _) _
    exact ⟨kk, Own.nil _ _ _ _, kr.later hb3, hB.trans (hb3.mono hB.size), by omega, kr.lt⟩⟩
  clear cb0 cb1 cb2 cb3 cb4 cb5
  clear hW3 kb kr hB hr0 hr1 hm hv hSz
  generalize w3.heap.size = gk at *
  obtain ⟨gr, hgr⟩ : ∃ gr, gr = w.heap.size + 1 := ⟨_, rfl⟩
  rw [← hgr] at HI ⊢
  clear hgr
  go_loopw [11] (fun v11 wr => ∃ (k : Nat) (v : Value), k ≤ n ∧ v11 = .int .i64 k ∧ Bx (RnI w a b c d e f gr gk k v wr)) (fun i _ => n - (intOf i).toNat)
  case atStart => exact ⟨0, _, Nat.zero_le _, rfl, HI⟩
  case round =>
    clear HI
    obtain ⟨k, v, hk, rfl, HI⟩ := hrel
    by_cases hlt : k < n
    · have t0 : decide ((k : Int) < (n : Int)) = true := by simp; omega
      obtain ⟨pa0, pc0, rfl, -⟩ := HI.out.own.form
      have hlr : (List.replicate k (0 : Int)).length = k := List.length_replicate
      rw [hlr] at HI
      have cg6 := HI.out.kk.cell 6 rfl
      have hgl : gk + 1 ≤ wr.heap.size := HI.out.kk.lt
      have hl9 : (List.replicate k (0 : Int) ++ [0]).length = k + 1 := by simp
      have hne := Bx.mk (show ∀ x, x < gk + 1 → (Value.slice pa0 k pc0).ownBlock ≠ some x from fun x hx e => by have := (HI.out.own.lt x e).1; omega)
      have Htl := Bx.mk (show (List.replicate k (0 : Int)).length ≤ 1000000000 by rw [List.length_replicate]; omega)
      go_wp2_with (first
        | (at_builtin
           refine wpList_append_int rfl _ _ 26 rfl 3 .i64 (.int .i64 0) 8 (by omega) Tryz.underlying26 (by kernel_rfl) rfl (gk + 1) _ (List.replicate k 0) rfl (HI.out.own.alloc _) 0 ⟨wr.heap.size, 0, none⟩ 1 rfl (cell_new _ _ _) Htl.out (le_alloc hgl _) ?_
           intro v1 w1 hown1 hg1 hv1
           obtain ⟨pa, pc, rfl, -⟩ := hown1.form
           rw [hl9] at hown1 ⊢
           have kk1 : Bk w1 gk #[.int .i64 a, .int .i64 b, .int .i64 c, .int .i64 d, .int .i64 e, .int .i64 f, .slice pa0 k pc0] 28 := Bk.grownO (blk_old HI.out.kk) hg1 (hne.out _ (by omega))
           have cg6' := kk1.cell 6 rfl
           have fg6 := kk1.frozen 6))
      have kr1 : Bk w1 gr #[.int .i64 0, .int .i64 0, .int .i64 0, .int .i64 0, .int .i64 0, .int .i64 0, .slice none 0 0] 28 := Bk.grownO (blk_old HI.out.kr) hg1 (hne.out _ (by have := HI.out.lt.2; omega))
      have hb1 : Below w.heap.size w w1 := (HI.out.bel.alloc HI.out.bel.size (.cells #[.int .i64 0] 3)).grown hg1 (le_alloc HI.out.bel.size _) (fun g hg => by have := (HI.out.own.lt g hg).1; have := HI.out.lt; omega)
      have Hown1 := Bx.mk hown1
      have HK := Bx.mk kk1
      have HR := Bx.mk kr1
      have HB := Bx.mk hb1
      clear hl9 hlr hown1 hg1 hne kk1 kr1 hb1 cg6
      generalize hW2 : World.setCell w1 _ _ = w2
      have HI2 : Bx (RnI w a b c d e f gr gk (k + 1) (.slice pa (k + 1) pc) w2) := ⟨by
        have hge := HI.out.lt
        rw [← hW2]
        refine ⟨by simpa using HK.out.set 6 (.slice pa (k + 1) pc), ?_, HR.out.other _ _ (by simp only; omega), HB.out.setCell (by simp only; omega) _, HI.out.lt⟩
        rw [List.replicate_succ']
        exact Hown1.out.setBelow (by simp only; omega) _⟩
      clear hW2 Hown1 HK HR HB HI cg6' fg6
      go_roundw
      case rel => exact ⟨k + 1, _, by omega, by go_num, HI2⟩
      case measure => simp [intOf]; omega
    · obtain rfl : k = n := by omega
      have t0 : decide ((k : Int) < (k : Int)) = false := by simp
      obtain ⟨g, cap, rfl, -, -, -, -, -⟩ := HI.out.own.at (by rw [List.length_replicate]; omega)
      have hlr : (List.replicate k (0 : Int)).length = k := List.length_replicate
      rw [hlr] at HI
      have kk := HI.out.kk
      have kr := HI.out.kr
      have hB := HI.out.bel
      have hlo := HI.out.lt
      have Hown := Bx.mk HI.out.own
      clear HI hlr
      have ck0 := kk.cell 0 rfl
      have ck1 := kk.cell 1 rfl
      have ck2 := kk.cell 2 rfl
      have ck3 := kk.cell 3 rfl
      have ck4 := kk.cell 4 rfl
      have ck5 := kk.cell 5 rfl
      have ck6 := kk.cell 6 rfl
      have cr0 := kr.cell 0 rfl
      have fr0 := kr.frozen 0
      have cr1 := kr.cell 1 rfl
      have fr1 := kr.frozen 1
      have cr2 := kr.cell 2 rfl
      have fr2 := kr.frozen 2
      have cr3 := kr.cell 3 rfl
      have fr3 := kr.frozen 3
      have cr4 := kr.cell 4 rfl
      have fr4 := kr.frozen 4
      have cr5 := kr.cell 5 rfl
      have fr5 := kr.frozen 5
      have cr6 := kr.cell 6 rfl
      have fr6 := kr.frozen 6
      go_wp2_with fail
      replace kr := kr.put7 (.int .i64 a) (.int .i64 b) (.int .i64 c) (.int .i64 d) (.int .i64 e) (.int .i64 f) (.slice (some ⟨g, 0, none⟩) k cap)
      have z0 := kr.cell 0 rfl
      have z1 := kr.cell 1 rfl
      have z2 := kr.cell 2 rfl
      have z3 := kr.cell 3 rfl
      have z4 := kr.cell 4 rfl
      have z5 := kr.cell 5 rfl
      have z6 := kr.cell 6 rfl
      have hB7 := blw7 hB hlo.1 (.int .i64 a) (.int .i64 b) (.int .i64 c) (.int .i64 d) (.int .i64 e) (.int .i64 f) (.slice (some ⟨g, 0, none⟩) k cap)
      have hO : Own _ (gk + 1) 3 .i64 (.slice (some ⟨g, 0, none⟩) k cap) (List.replicate k 0) := ((((((Hown.out.setBelow (a := ⟨gr, 0, none⟩) (by simp only; omega) (.int .i64 a)).setBelow (a := ⟨gr, 1, none⟩) (by simp only; omega) (.int .i64 b)).setBelow (a := ⟨gr, 2, none⟩) (by simp only; omega) (.int .i64 c)).setBelow (a := ⟨gr, 3, none⟩) (by simp only; omega) (.int .i64 d)).setBelow (a := ⟨gr, 4, none⟩) (by simp only; omega) (.int .i64 e)).setBelow (a := ⟨gr, 5, none⟩) (by simp only; omega) (.int .i64 f)).setBelow (a := ⟨gr, 6, none⟩) (by simp only; omega) (.slice (some ⟨g, 0, none⟩) k cap)
      clear ck0 ck1 ck2 ck3 ck4 ck5 ck6 cr0 cr1 cr2 cr3 cr4 cr5 cr6 fr0 fr1 fr2 fr3 fr4 fr5 fr6
      exact bodyPost_ret (v := .tuple #[.agg #[.int .i64 a, .int .i64 b, .int .i64 c, .int .i64 d, .int .i64 e, .int .i64 f, .slice (some ⟨g, 0, none⟩) k cap], .int .i64 0]) (by simp [results, Tryz.results100, go_sem, z0, z1, z2, z3, z4, z5, z6]) rfl ⟨g, cap, rfl, hO.base (by omega), hB7⟩
end Go.Proofs.YtabclecmehdeoaaGreat
end
section
/- voxelref07.copied, by the program. -/
namespace Go.Proofs.YtabclecmehdeoaaGreat
open Go.RowKit Go.Sort Go.Maps
open Oct

attribute [local go_sem ↓] Go.wp_at_zero Go.wp_at_succ
set_option maxRecDepth 100000 in
set_option maxHeartbeats 2000000 in
theorem ref_copied (a b c d e f : Int) (pb po : Nat) (hcp n : Nat) (xs : List Int) (hn : xs.length = n) (h1 : 0 < n) (h2 : n ≤ 1000) (w : World) (hsl : Sl w .i64 (some ⟨pb, po, none⟩) xs) :
    Calls Tryz.prog 108 #[.agg #[.int .i64 a, .int .i64 b, .int .i64 c, .int .i64 d, .int .i64 e, .int .i64 f, .slice (some ⟨pb, po, none⟩) n hcp]] w fun e' w' => ∃ g cap, e' = .returned (.agg #[.int .i64 a, .int .i64 b, .int .i64 c, .int .i64 d, .int .i64 e, .int .i64 f, .slice (some ⟨g, 0, none⟩) n cap]) ∧ Own w' w.heap.size 3 .i64 (.slice (some ⟨g, 0, none⟩) n cap) xs ∧ Below w.heap.size w w' := by
  obtain ⟨i0, hi0, hz0, hz1, hz2⟩ := info_parts (show (Tryz.prog.info? 3).map (fun i => (i.zero, i.size, i.bytes)) = some (some (.int .i64 0), 1, 8) by kernel_rfl)
  have hlm := Bx.mk (show (xs.map (Value.int .i64)).length = n * 1 by rw [List.length_map, hn]; omega)
  have h1c := Bx.mk (show ∀ u ∈ xs.map (Value.int .i64), u.oneCell' = true from fun u hu => by
    obtain ⟨x, _, rfl⟩ := List.mem_map.1 hu
    rfl)
  have Hsl := Bx.mk hsl
  have Hn := Bx.mk hn
  clear hsl hn
  go_enter Tryz.func108, Tryz.ntmps108
  go_wp2_with fail
  generalize hW : World.alloc (World.alloc w _) _ = W
  have hSz : w.heap.size + 1 + 1 ≤ W.heap.size := by rw [← hW]; simp
  have hB : Below w.heap.size w W := by rw [← hW]; exact ((Below.refl _ _).alloc (Nat.le_refl _) _).alloc (by simp) _
  have kg : Bk W (w.heap.size) #[.int .i64 a, .int .i64 b, .int .i64 c, .int .i64 d, .int .i64 e, .int .i64 f, .slice (some ⟨pb, po, none⟩) n hcp] 28 := by rw [← hW]; exact blk_old (blk_new _ _ _ (by simp))
  have kr : Bk W (w.heap.size + 1) #[.int .i64 0, .int .i64 0, .int .i64 0, .int .i64 0, .int .i64 0, .int .i64 0, .slice none 0 0] 28 := by rw [← hW]; exact blk_new _ _ _ (by simp)
  clear hW
  have cg0 := kg.cell 0 rfl
  have cg1 := kg.cell 1 rfl
  have cg2 := kg.cell 2 rfl
  have cg3 := kg.cell 3 rfl
  have cg4 := kg.cell 4 rfl
  have cg5 := kg.cell 5 rfl
  have cg6 := kg.cell 6 rfl
  have cr0 := kr.cell 0 rfl
  have cr1 := kr.cell 1 rfl
  have cr2 := kr.cell 2 rfl
  have cr3 := kr.cell 3 rfl
  have cr4 := kr.cell 4 rfl
  have cr5 := kr.cell 5 rfl
  have cr6 := kr.cell 6 rfl
  have fr0 := kr.frozen 0
  have fr1 := kr.frozen 1
  have fr2 := kr.frozen 2
  have fr3 := kr.frozen 3
  have fr4 := kr.frozen 4
  have fr5 := kr.frozen 5
  have fr6 := kr.frozen 6
  have hnw := Bx.mk fun (V : World) (hV : Below W.heap.size W V) => (show ∀ j u, (xs.map (Value.int .i64))[j]? = some u → V.cell? ((⟨pb, po, none⟩ : Addr).add j) = some u from fun j u hu => by
    rw [List.getElem?_map] at hu
    cases hx : xs[j]? with
    | none => rw [hx] at hu; cases hu
    | some x =>
      rw [hx] at hu
      injection hu with hu
      subst hu
      obtain ⟨b', off', he, hc⟩ := (Hsl.out.below (hB.trans (hV.mono hB.size))) j x hx
      simp only [Option.some.injEq, Addr.mk.injEq, and_true] at he
      obtain ⟨rfl, rfl⟩ := he
      have : (⟨pb, po, none⟩ : Addr).add j = ⟨pb, po + j, none⟩ := by unfold Addr.add; split <;> simp_all
      rw [this]; exact hc)
  go_region_held3 (fun w' => w'.cell? ⟨w.heap.size, 0, none⟩ = some (.int .i64 a) ∧ w'.cell? ⟨w.heap.size, 1, none⟩ = some (.int .i64 b) ∧ w'.cell? ⟨w.heap.size, 2, none⟩ = some (.int .i64 c) ∧ w'.cell? ⟨w.heap.size, 3, none⟩ = some (.int .i64 d) ∧ w'.cell? ⟨w.heap.size, 4, none⟩ = some (.int .i64 e) ∧ w'.cell? ⟨w.heap.size, 5, none⟩ = some (.int .i64 f) ∧ w'.cell? ⟨w.heap.size, 6, none⟩ = some (.slice (some ⟨pb, po, none⟩) n hcp))
    (first | go_keep | (dsimp only; and_intros <;> assumption))
    ((refine step_append_lies _ (by rfl) (.tmp 6) (.tmp 8) 26 (by rfl) (w.heap.size + 1 + 1) 3 i0 (.int .i64 0) 1 8 Tryz.underlying26 hi0 hz0 hz1 hz2 rfl (by omega) (.slice none 0 0) 0 [] (by simp [Act.eval, Act.put]) (World.ownsRow_nil _ _ _ _) ⟨pb, po, none⟩ n hcp (xs.map (Value.int .i64)) (by simp [Act.eval, Act.put]) hlm.out (hnw.out _ (Below.refl _ _).drew) h1c.out h1 (by simp only [maxLen]; omega) (by omega) hSz W.heap.size rfl ?_; intro g cap w1 hown hg hat hlt; have hb9 := ((Below.refl W.heap.size W).drew).grown hg (Nat.le_refl _) (fun g h => by cases h); have kg9 := kg.later hb9; have kr9 := kr.later hb9; have d0 := kg9.cell 0 rfl; have d1 := kg9.cell 1 rfl; have d2 := kg9.cell 2 rfl; have d3 := kg9.cell 3 rfl; have d4 := kg9.cell 4 rfl; have d5 := kg9.cell 5 rfl; have d6 := kg9.cell 6 rfl; have e0 := kr9.cell 0 rfl; have h0 := kr9.frozen 0; have e1 := kr9.cell 1 rfl; have h1 := kr9.frozen 1; have e2 := kr9.cell 2 rfl; have h2 := kr9.frozen 2; have e3 := kr9.cell 3 rfl; have h3 := kr9.frozen 3; have e4 := kr9.cell 4 rfl; have h4 := kr9.frozen 4; have e5 := kr9.cell 5 rfl; have h5 := kr9.frozen 5; have e6 := kr9.cell 6 rfl; have h6 := kr9.frozen 6))
  have hO : Own w1 (w.heap.size + 1 + 1) 3 .i64 (.slice (some ⟨g, 0, none⟩) n cap) xs := by
    have hown2 := hown
    simp only [Nat.zero_add, List.nil_append] at hown2
    unfold Own
    rw [Hn.out]; exact hown2
  have kr2 := kr9.put7 (.int .i64 a) (.int .i64 b) (.int .i64 c) (.int .i64 d) (.int .i64 e) (.int .i64 f) (.slice (some ⟨g, 0, none⟩) n cap)
  have hB2 := blw7 (hB.trans (hb9.mono hB.size)) (show w.heap.size ≤ w.heap.size + 1 by omega) (.int .i64 a) (.int .i64 b) (.int .i64 c) (.int .i64 d) (.int .i64 e) (.int .i64 f) (.slice (some ⟨g, 0, none⟩) n cap)
  have hO2 : Own _ (w.heap.size + 1 + 1) 3 .i64 (.slice (some ⟨g, 0, none⟩) n cap) xs := ((((((hO.setBelow (a := ⟨w.heap.size + 1, 0, none⟩) (by simp only; omega) (.int .i64 a)).setBelow (a := ⟨w.heap.size + 1, 1, none⟩) (by simp only; omega) (.int .i64 b)).setBelow (a := ⟨w.heap.size + 1, 2, none⟩) (by simp only; omega) (.int .i64 c)).setBelow (a := ⟨w.heap.size + 1, 3, none⟩) (by simp only; omega) (.int .i64 d)).setBelow (a := ⟨w.heap.size + 1, 4, none⟩) (by simp only; omega) (.int .i64 e)).setBelow (a := ⟨w.heap.size + 1, 5, none⟩) (by simp only; omega) (.int .i64 f)).setBelow (a := ⟨w.heap.size + 1, 6, none⟩) (by simp only; omega) (.slice (some ⟨g, 0, none⟩) n cap)
  clear hg hat hown hO kr9 kg9 kr kg d0 d1 d2 d3 d4 d5 d6 e0 e1 e2 e3 e4 e5 e6 h0 h1 h2 h3 h4 h5 h6 cg0 cg1 cg2 cg3 cg4 cg5 cg6 cr0 cr1 cr2 cr3 cr4 cr5 cr6 fr0 fr1 fr2 fr3 fr4 fr5 fr6
  go_wp2_with fail
  exact bodyPost_ret (v := .agg #[.int .i64 a, .int .i64 b, .int .i64 c, .int .i64 d, .int .i64 e, .int .i64 f, .slice (some ⟨g, 0, none⟩) n cap]) (results_cell_row rfl _ _ _ 28 #[.int .i64 a, .int .i64 b, .int .i64 c, .int .i64 d, .int .i64 e, .int .i64 f, .slice (some ⟨g, 0, none⟩) n cap] (0, 0) _ rfl kr2 Tryz.underlying28 rfl (by kernel_rfl)) rfl ⟨g, cap, rfl, hO2.base (by omega), hB2⟩
end Go.Proofs.YtabclecmehdeoaaGreat
end
