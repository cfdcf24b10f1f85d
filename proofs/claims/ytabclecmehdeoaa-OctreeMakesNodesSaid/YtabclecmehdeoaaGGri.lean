import Derived.Test.YtabclecmehdeoaaGGen
section
/- Store.Grid, by the program. -/
namespace Go.Proofs.Ytabclecmehdeoaa
open Go.RowKit Go.Sort Go.Maps
open Oct

/-- the first k cells are filled -/
def fillL (b : Box) (F : Pt → Int) (m k : Nat) : List Int := (List.range m).map fun j : Nat => if j < k then F (atB b (j : Int)) else 0
theorem fillL_length (b : Box) (F : Pt → Int) (m k : Nat) : (fillL b F m k).length = m := by simp [fillL]
theorem fillL_zero (b : Box) (F : Pt → Int) (m : Nat) : fillL b F m 0 = List.replicate m 0 := by
  unfold fillL
  apply List.ext_getElem?
  intro i
  simp only [List.getElem?_map, List.getElem?_replicate]
  by_cases hi : i < m
  · simp [hi]
  · simp [hi]
theorem fillL_all (b : Box) (F : Pt → Int) : fillL b F (volB b).toNat (volB b).toNat = cellsOf b F := by
  unfold fillL cellsOf
  apply List.map_congr_left
  intro i hi
  rw [if_pos (List.mem_range.1 hi)]
theorem fillL_set (b : Box) (F : Pt → Int) {m k : Nat} (hk : k < m) : (fillL b F m k).set k (F (atB b (k : Int))) = fillL b F m (k + 1) := by
  unfold fillL
  apply List.ext_getElem?
  intro i
  rw [List.getElem?_set]
  simp only [List.getElem?_map, List.length_map, List.length_range]
  by_cases hi : i < m
  · by_cases e : k = i
    · subst e; simp [hk]
    · rw [if_neg e]
      simp only [List.getElem?_range hi, Option.map_some, Option.some.injEq]
      by_cases h1 : i < k
      · rw [if_pos h1, if_pos (by omega)]
      · rw [if_neg h1, if_neg (by omega)]
  · rw [if_neg (by omega)]
    simp [hi]
theorem fillL_at (b : Box) (F : Pt → Int) {m k : Nat} (hk : k < m) : (fillL b F m k)[k]? = some 0 := by
  unfold fillL
  simp [hk]
theorem sl_put7 {w : World} {k : IntKind} {g r off : Nat} {xs : List Int} (h : Sl w k (some ⟨g, off, none⟩) xs) (hne : g ≠ r) (x0 x1 x2 x3 x4 x5 x6 : Value) :
    Sl (((((((w.setCell ⟨r, 0, none⟩ x0).setCell ⟨r, 1, none⟩ x1).setCell ⟨r, 2, none⟩ x2).setCell ⟨r, 3, none⟩ x3).setCell ⟨r, 4, none⟩ x4).setCell ⟨r, 5, none⟩ x5).setCell ⟨r, 6, none⟩ x6) k (some ⟨g, off, none⟩) xs := by
  have one : ∀ (w : World) (j : Nat) (x : Value), Sl w k (some ⟨g, off, none⟩) xs → Sl (w.setCell ⟨r, j, none⟩ x) k (some ⟨g, off, none⟩) xs := fun w j x h => h.grown (grown_setCell w ⟨r, j, none⟩ x) hne
  exact one _ _ _ (one _ _ _ (one _ _ _ (one _ _ _ (one _ _ _ (one _ _ _ (one _ _ _ h))))))
structure GrI (w : World) (bv rv gv : Array Value) (g gg m cap : Nat) (xs : List Int) (wr : World) : Prop where
  own : Own wr w.heap.size 3 .i64 (.slice (some ⟨g, 0, none⟩) m cap) xs
  bel : Below w.heap.size w wr
  kb : Bk wr w.heap.size bv 25
  kr : Bk wr (w.heap.size + 1) rv 28
  kg : Bk wr gg gv 28
set_option maxRecDepth 100000 in
set_option maxHeartbeats 4000000 in
theorem grid_full (w : World) (Far : Nat → Prop) (sb : Nat) (most : Int) (ts : List Tr) (n : Nat) (F : Pt → Int) (hn : n ≤ 12) (hF : FnC n F) (hG : Good ts) (hlen : ts.length ≤ 1000000000000) (ht : trF n F ∈ ts) (hS : StoreIs w Far sb most ts)
    (a b c d e f : Int) (h0 : newE ⟨⟨a, b, c⟩, ⟨d, e, f⟩⟩ 0 = 0) (hem : emptyB ⟨⟨a, b, c⟩, ⟨d, e, f⟩⟩ = false) (m : Nat) (hm : volB ⟨⟨a, b, c⟩, ⟨d, e, f⟩⟩ = (m : Int)) (hs : Small ⟨⟨a, b, c⟩, ⟨d, e, f⟩⟩ 1048575) (hmm : m ≤ 2097152) :
    Calls Try.prog 29 #[.pointer (some ⟨sb, 0, none⟩), .int .i64 (idT ts (trF n F) : Int), .int .i64 ((n : Int) + 2), .agg #[.int .i64 a, .int .i64 b, .int .i64 c, .int .i64 d, .int .i64 e, .int .i64 f]] w fun e' w' => ∃ pa pc, e' = .returned (.tuple #[.agg #[.int .i64 a, .int .i64 b, .int .i64 c, .int .i64 d, .int .i64 e, .int .i64 f, .slice pa m pc], .int .i64 0]) ∧ Sl w' .i64 pa (cellsOf ⟨⟨a, b, c⟩, ⟨d, e, f⟩⟩ F) ∧ Below w.heap.size w w' := by
  have hNew := Bx.mk fun W => new_full a b c d e f 0 h0 hem m hm W
  have hAt := Bx.mk fun W (k : Nat) (hk : k < m) => at_yes a b c d e f (k : Int) hs (by omega) W
  have hGet := Bx.mk fun W (h : Below w.heap.size w W) (p : Pt) => get_fn W Far sb most ts n F hn hF hG hlen ht p.x p.y p.z (hS.later h)
  have hfin := Bx.mk (fillL_all ⟨⟨a, b, c⟩, ⟨d, e, f⟩⟩ F)
  rw [hm, Int.toNat_natCast] at hfin
  have hpos : 0 < m := by
    have := emptyB_iff.1 hem
    have h1 : volB ⟨⟨a, b, c⟩, ⟨d, e, f⟩⟩ = (d - a) * (e - b) * (f - c) := by unfold volB; rw [sizeB_full hem]; rfl
    simp only at this
    have h2 : 0 < (d - a) * (e - b) := Int.mul_pos (by omega) (by omega)
    have h3 : 0 < (d - a) * (e - b) * (f - c) := Int.mul_pos h2 (by omega)
    omega
  generalize (idT ts (trF n F) : Int) = id at *
  generalize ((n : Int) + 2) = dd at *
  clear hF hG hlen ht hS h0 hem hm hs hn
  go_enter Try.func29, Try.ntmps29
  go_wp2_with fail
  generalize hW : World.alloc (World.alloc w _) _ = W
  have hSz : w.heap.size + 1 + 1 ≤ W.heap.size := by rw [← hW]; simp
  have hB : Below w.heap.size w W := by rw [← hW]; exact ((Below.refl _ _).alloc (Nat.le_refl _) _).alloc (by simp) _
  have kb : Bk W (w.heap.size) #[.int .i64 a, .int .i64 b, .int .i64 c, .int .i64 d, .int .i64 e, .int .i64 f] 25 := by rw [← hW]; exact blk_old (blk_new _ _ _ (by simp))
  have kr : Bk W (w.heap.size + 1) #[.int .i64 0, .int .i64 0, .int .i64 0, .int .i64 0, .int .i64 0, .int .i64 0, .slice none 0 0] 28 := by rw [← hW]; exact blk_new _ _ _ (by simp)
  clear hW
  have hWs : w.heap.size + 1 + 1 ≤ W.heap.size := by omega
  have cb0 := kb.cell 0 rfl
  have cb1 := kb.cell 1 rfl
  have cb2 := kb.cell 2 rfl
  have cb3 := kb.cell 3 rfl
  have cb4 := kb.cell 4 rfl
  have cb5 := kb.cell 5 rfl
  go_wp2_with fail
  refine (hNew.out _).mono ?_
  rintro _ w1 ⟨pa, pc, rfl, how, hb0⟩
  replace hB := hB.trans (hb0.mono hB.size)
  replace kb := kb.later hb0
  replace kr := kr.later hb0
  replace hSz := Nat.le_trans hSz hb0.size
  clear hb0
  clear cb0 cb1 cb2 cb3 cb4 cb5
  obtain ⟨g, cap, hpa, hg1, hg2, -, -, -⟩ := how.at (by simp; omega)
  simp only [List.length_replicate] at hpa how ⊢
  injection hpa with e1 _ e3
  subst e1 e3
  have hgw : w.heap.size + 1 + 1 ≤ g := Nat.le_trans hWs hg1
  have how2 : Own w1 w.heap.size 3 .i64 (.slice (some ⟨g, 0, none⟩) m pc) (fillL ⟨⟨a, b, c⟩, ⟨d, e, f⟩⟩ F m 0) := by rw [fillL_zero]; exact how.base (by omega)
  clear how
  go_wp2_with fail
  obtain ⟨gg, hgg⟩ : ∃ gg, gg = w1.heap.size := ⟨_, rfl⟩
  generalize hW2 : World.alloc w1 _ = W2
  have HI : Bx (GrI w #[.int .i64 a, .int .i64 b, .int .i64 c, .int .i64 d, .int .i64 e, .int .i64 f] #[.int .i64 0, .int .i64 0, .int .i64 0, .int .i64 0, .int .i64 0, .int .i64 0, .slice none 0 0] #[.int .i64 a, .int .i64 b, .int .i64 c, .int .i64 d, .int .i64 e, .int .i64 f, .slice (some ⟨g, 0, none⟩) m pc] g gg m pc (fillL ⟨⟨a, b, c⟩, ⟨d, e, f⟩⟩ F m 0) W2) := ⟨by
    rw [← hW2]
    exact ⟨how2.alloc _, hB.alloc hB.size _, kb.alloc _, kr.alloc _, by rw [hgg]; exact Bk.new _ _ _⟩⟩
  have hgl : g < gg := by rw [hgg]; exact hg2
  rw [← hgg]
  clear hW2 how2 hB kb kr hg2 hSz hWs hNew hg1 hgg
  go_loopw [23] (fun v23 wr => ∃ k : Nat, k ≤ m ∧ v23 = .int .i64 k ∧ Bx (GrI w #[.int .i64 a, .int .i64 b, .int .i64 c, .int .i64 d, .int .i64 e, .int .i64 f] #[.int .i64 0, .int .i64 0, .int .i64 0, .int .i64 0, .int .i64 0, .int .i64 0, .slice none 0 0] #[.int .i64 a, .int .i64 b, .int .i64 c, .int .i64 d, .int .i64 e, .int .i64 f, .slice (some ⟨g, 0, none⟩) m pc] g gg m pc (fillL ⟨⟨a, b, c⟩, ⟨d, e, f⟩⟩ F m k) wr)) (fun i _ => m - (intOf i).toNat)
  case atStart => exact ⟨0, Nat.zero_le _, rfl, HI⟩
  case round =>
    clear HI
    obtain ⟨k, hk, rfl, HI⟩ := hrel
    obtain ⟨ho, hB, kb, kr, kg⟩ := HI.out
    have HO := Bx.mk ho
    clear ho HI
    by_cases hlt : k < m
    · have t0 : decide ((k : Int) < (m : Int)) = true := by simp; omega
      have t0' : (k : Int) < (m : Int) := by omega
      have t1 : (0 : Int) ≤ (k : Int) := by omega
      have cb0 := kb.cell 0 rfl
      have cb1 := kb.cell 1 rfl
      have cb2 := kb.cell 2 rfl
      have cb3 := kb.cell 3 rfl
      have cb4 := kb.cell 4 rfl
      have cb5 := kb.cell 5 rfl
      have hat := hAt.out (k := k)
      have hpv : Bx (F (atB ⟨⟨a, b, c⟩, ⟨d, e, f⟩⟩ (k : Int)) = F (atB ⟨⟨a, b, c⟩, ⟨d, e, f⟩⟩ (k : Int))) := ⟨rfl⟩
      rcases hpt : atB ⟨⟨a, b, c⟩, ⟨d, e, f⟩⟩ (k : Int) with ⟨px, py, pz⟩
      simp only [hpt] at hat
      replace hat := Bx.mk hat
      replace hpt := Bx.mk hpt
      clear hpv
      go_wp2_with fail
      refine (hat.out _ hlt).mono ?_
      rintro _ w5 ⟨rfl, hb0⟩
      replace HO := Bx.mk (HO.out.below hb0)
      replace hB := hB.trans (hb0.mono hB.size)
      replace kb := kb.later hb0
      replace kr := kr.later hb0
      replace kg := kg.later hb0
      clear hb0 cb0 cb1 cb2 cb3 cb4 cb5
      go_wp2_with fail
      obtain ⟨gp, hgp⟩ : ∃ gp, gp = w5.heap.size := ⟨_, rfl⟩
      generalize hW6 : World.alloc w5 _ = W6
      have hb0 : Below w5.heap.size w5 W6 := by rw [← hW6]; exact (Below.refl _ _).alloc (Nat.le_refl _) _
      have kp : Bk W6 gp #[.int .i64 px, .int .i64 py, .int .i64 pz] 23 := by rw [← hW6, hgp]; exact Bk.new _ _ _
      rw [← hgp]
      replace HO := Bx.mk (HO.out.below hb0)
      replace hB := hB.trans (hb0.mono hB.size)
      replace kb := kb.later hb0
      replace kr := kr.later hb0
      replace kg := kg.later hb0
      clear hb0 hW6 hgp
      have hSz := hB.size
      have cg0 : ∀ dk osk, (grow (redrawn W6 dk) osk).cell? ⟨gg, 0, none⟩ = some (.int .i64 a) := cell_regrown (kg.cell 0 rfl)
      have cg1 : ∀ dk osk, (grow (redrawn W6 dk) osk).cell? ⟨gg, 1, none⟩ = some (.int .i64 b) := cell_regrown (kg.cell 1 rfl)
      have cg2 : ∀ dk osk, (grow (redrawn W6 dk) osk).cell? ⟨gg, 2, none⟩ = some (.int .i64 c) := cell_regrown (kg.cell 2 rfl)
      have cg3 : ∀ dk osk, (grow (redrawn W6 dk) osk).cell? ⟨gg, 3, none⟩ = some (.int .i64 d) := cell_regrown (kg.cell 3 rfl)
      have cg4 : ∀ dk osk, (grow (redrawn W6 dk) osk).cell? ⟨gg, 4, none⟩ = some (.int .i64 e) := cell_regrown (kg.cell 4 rfl)
      have cg5 : ∀ dk osk, (grow (redrawn W6 dk) osk).cell? ⟨gg, 5, none⟩ = some (.int .i64 f) := cell_regrown (kg.cell 5 rfl)
      have cg6 : ∀ dk osk, (grow (redrawn W6 dk) osk).cell? ⟨gg, 6, none⟩ = some (.slice (some ⟨g, 0, none⟩) m pc) := cell_regrown (kg.cell 6 rfl)
      have cp0 : ∀ dk osk, (grow (redrawn W6 dk) osk).cell? ⟨gp, 0, none⟩ = some (.int .i64 px) := cell_regrown (kp.cell 0 rfl)
      have cp1 : ∀ dk osk, (grow (redrawn W6 dk) osk).cell? ⟨gp, 1, none⟩ = some (.int .i64 py) := cell_regrown (kp.cell 1 rfl)
      have cp2 : ∀ dk osk, (grow (redrawn W6 dk) osk).cell? ⟨gp, 2, none⟩ = some (.int .i64 pz) := cell_regrown (kp.cell 2 rfl)
      have q0 := Bx.mk fun dk osk => Calls.regrown_of (hGet.out (grow (redrawn W6 dk) osk) (hB.trans ((below_regrown W6 dk osk).mono hB.size)) ⟨px, py, pz⟩)
      refine wp_region_head_below 8 (by kernel_rfl) (by kernel_rfl) ?_
      simp only [List.take_succ_cons, List.take_zero, List.drop_succ_cons, List.drop_zero]
      repeat (first | go_big_quiet_step ((first | with_reducible exact q0.out _ _)) | quiet_step (first | with_reducible exact q0.out _ _))
      refine wpQuiet_nil ?_
      rintro _ ⟨⟨dq, osq⟩, rfl⟩
      have hb := below_regrown W6 dq osq
      replace hB := hB.trans (hb.mono hB.size)
      clear cg0 cg1 cg2 cg3 cg4 cg5 cg6
      clear cp0 cp1 cp2
      clear q0
      replace HO := Bx.mk (HO.out.below hb)
      replace kb := kb.later hb
      replace kr := kr.later hb
      replace kg := kg.later hb
      replace kp := kp.later hb
      replace hSz := Nat.le_trans hSz hb.size
      clear hb
      generalize grow (redrawn W6 dq) osq = W7 at *
      clear kp
      have hx := fillL_at ⟨⟨a, b, c⟩, ⟨d, e, f⟩⟩ F hlt
      obtain ⟨g', cap', he, -, hgl2, hcs, hfr, hst⟩ := HO.out.at (by rw [fillL_length]; exact hpos)
      simp only [Value.slice.injEq, Option.some.injEq, Addr.mk.injEq, and_true] at he
      obtain ⟨rfl, hl2, rfl⟩ := he
      have hcell := hcs k _ hx
      have hfr0 := hfr k
      have hst0 := hst k (F ⟨px, py, pz⟩)
      have hset := fillL_set ⟨⟨a, b, c⟩, ⟨d, e, f⟩⟩ F hlt
      rw [hpt.out] at hset
      rw [hset, ← hl2] at hst0
      replace hst0 := Bx.mk hst0
      clear hcs hfr hst hset hl2 hx
      go_wp2_with fail
      have HI2 : Bx (GrI w #[.int .i64 a, .int .i64 b, .int .i64 c, .int .i64 d, .int .i64 e, .int .i64 f] #[.int .i64 0, .int .i64 0, .int .i64 0, .int .i64 0, .int .i64 0, .int .i64 0, .slice none 0 0] #[.int .i64 a, .int .i64 b, .int .i64 c, .int .i64 d, .int .i64 e, .int .i64 f, .slice (some ⟨g, 0, none⟩) m pc] g gg m pc (fillL ⟨⟨a, b, c⟩, ⟨d, e, f⟩⟩ F m (k + 1)) (W7.setCell ⟨g, k, none⟩ (.int .i64 (F ⟨px, py, pz⟩)))) := ⟨⟨hst0.out, hB.setCell (show w.heap.size ≤ g by omega) _, kb.other _ _ (show w.heap.size ≠ g by omega), kr.other _ _ (show w.heap.size + 1 ≠ g by omega), kg.other _ _ (show gg ≠ g by omega)⟩⟩
      clear hst0 hB kb kr kg hcell hfr0
      go_roundw
      case rel => exact ⟨k + 1, by omega, by go_num, HI2⟩
      case measure => simp [intOf]; omega
    · obtain rfl : k = m := by omega
      have t0 : decide ((k : Int) < (k : Int)) = false := by simp
      have hsl := Bx.mk HO.out.sl
      rw [hfin.out] at hsl
      have cg0 := kg.cell 0 rfl
      have cg1 := kg.cell 1 rfl
      have cg2 := kg.cell 2 rfl
      have cg3 := kg.cell 3 rfl
      have cg4 := kg.cell 4 rfl
      have cg5 := kg.cell 5 rfl
      have cg6 := kg.cell 6 rfl
      have cr0 := kr.cell 0 rfl
      have cr1 := kr.cell 1 rfl
      have cr2 := kr.cell 2 rfl
      have cr3 := kr.cell 3 rfl
      have cr4 := kr.cell 4 rfl
      have cr5 := kr.cell 5 rfl
      have cr6 := kr.cell 6 rfl
      have fr0 := kr.frozen 0
      have fr1 := kr.frozen 1
      have fr2 := kr.frozen 2
      have fr3 := kr.frozen 3
      have fr4 := kr.frozen 4
      have fr5 := kr.frozen 5
      have fr6 := kr.frozen 6
      go_wp2_with fail
      replace kr := kr.put7 (.int .i64 a) (.int .i64 b) (.int .i64 c) (.int .i64 d) (.int .i64 e) (.int .i64 f) (.slice (some ⟨g, 0, none⟩) k pc)
      clear cr0 cr1 cr2 cr3 cr4 cr5 cr6
      have cz0 := kr.cell 0 rfl
      have cz1 := kr.cell 1 rfl
      have cz2 := kr.cell 2 rfl
      have cz3 := kr.cell 3 rfl
      have cz4 := kr.cell 4 rfl
      have cz5 := kr.cell 5 rfl
      have cz6 := kr.cell 6 rfl
      exact bodyPost_ret (v := .tuple #[.agg #[.int .i64 a, .int .i64 b, .int .i64 c, .int .i64 d, .int .i64 e, .int .i64 f, .slice (some ⟨g, 0, none⟩) k pc], .int .i64 0]) (by simp [results, Try.results29, go_sem, cz0, cz1, cz2, cz3, cz4, cz5, cz6]) rfl ⟨_, _, rfl, sl_put7 hsl.out (by omega) _ _ _ _ _ _ _, blw7 hB (by omega) _ _ _ _ _ _ _⟩
end Go.Proofs.Ytabclecmehdeoaa
end
section
/- voxelref09.Uniform, Brick; voxelref08.Brick, by the program. -/
namespace Go.Proofs.Ytabclecmehdeoaa
open Go.RowKit Go.Sort Go.Maps
open Oct

set_option maxRecDepth 20000 in
theorem ref9_uniform (c : Int) (hc : 0 ≤ c ∧ c ≤ 255) (w : World) :
    Calls Try.prog 63 #[.int .i64 c] w fun e w' => e = .returned (.string (strOfNums (Tr.enc (.uni c)))) ∧ Below w.heap.size w w' := by
  have hw : IntKind.u8.wrap c = c := by unfold IntKind.wrap; simp [IntKind.bits, IntKind.signed]; omega
  have hsl : Sl (w.alloc (.cells #[.int .u8 c] 5)) .u8 (some ⟨w.heap.size, 0, none⟩) [c] := fun i x hx => by
    match i with
    | 0 => simp at hx; subst hx; exact ⟨_, _, rfl, cell_new _ _ _⟩
    | i + 1 => simp at hx
  have hcv := conv_str (P := Try.prog) 99 5 9 Try.underlying99 Try.underlying5 Try.underlying9 hsl 1 1 rfl
  have hst := Bx.mk (show (strOfNums [117]) ++ strOfNums [c] = strOfNums (Tr.enc (.uni c)) from str_append [117] [c])
  clear hsl
  go_enter Try.func63, Try.ntmps63
  go_wp2_with fail
  go_ret
  exact ⟨by first | (rw [← hst.out]; rfl) | trace_state, (Below.refl _ _).alloc (Nat.le_refl _) _⟩
def sameL (xs : List Int) (k : Nat) : Bool := (xs.take k).all fun x => x == xs.headD 0
theorem sameL_succ {xs : List Int} {k : Nat} {x : Int} (h : xs[k]? = some x) : sameL xs (k + 1) = (sameL xs k && (x == xs.headD 0)) := by
  unfold sameL
  rw [take_snoc_at h, List.all_append]
  simp
theorem sameL_all {xs : List Int} {n : Nat} (hn : xs.length = n) : sameL xs n = true ↔ ∀ x ∈ xs, x = xs.headD 0 := by
  unfold sameL
  rw [List.take_of_length_le (by omega), List.all_eq_true]
  simp
set_option maxRecDepth 100000 in
set_option maxHeartbeats 2000000 in
theorem ref9_brick (a : Option Addr) (cap : Nat) (xs : List Int) (w : World) (hn : xs.length = 64) (hb : xs.all Pal.cell = true) (h : Sl w .i64 a xs) :
    Calls Try.prog 22 #[.slice a 64 cap] w fun e w' => e = .returned (.string (strOfNums (Tr.enc (Tr.mkBrick xs)))) ∧ Below w.heap.size w w' := by
  have hcells := all_cell hb
  obtain ⟨x0, hx0⟩ : ∃ x, xs[0]? = some x := ⟨_, List.getElem?_eq_getElem (by omega)⟩
  obtain ⟨b, off, rfl, hc0⟩ := h 0 x0 hx0
  have hd : xs.headD 0 = x0 := by cases xs with
    | nil => simp at hx0
    | cons y r => simpa using hx0
  rw [Nat.add_zero] at hc0
  have Hs := Bx.mk h
  have Hn := Bx.mk hn
  have Hc := Bx.mk hcells
  have Hd := Bx.mk hd
  have Hx0 := Bx.mk hx0
  have Hc0 := Bx.mk hc0
  have hu := Bx.mk fun W => ref9_uniform x0 (hcells x0 (List.mem_of_getElem? hx0)) W
  clear h hn hb hcells hd hx0 hc0
  go_enter Try.func22, Try.ntmps22
  go_wp2_with fail
  go_loopw [3, 4, 5] (fun v s i wr => ∃ k : Nat, k ≤ 64 ∧ i = .int .i64 k ∧ s = .bool (sameL xs k) ∧ Bx (Own wr w.heap.size 5 .u8 v (xs.take k)) ∧ Bx (Below w.heap.size w wr)) (fun _ _ i _ => 64 - (intOf i).toNat)
  case atStart => exact ⟨0, Nat.zero_le _, rfl, rfl, ⟨Own.nil _ _ _ _⟩, ⟨Below.refl _ _⟩⟩
  case round =>
    obtain ⟨k, hk, rfl, rfl, hown, hbw⟩ := hrel
    have hc0 := (Hs.out.below hbw.out) 0 x0 Hx0.out
    obtain ⟨b0, off0, hbo0, hc0⟩ := hc0
    simp only [Option.some.injEq, Addr.mk.injEq, and_true] at hbo0
    obtain ⟨rfl, rfl⟩ := hbo0
    rw [Nat.add_zero] at hc0
    by_cases hlt : k < 64
    · obtain ⟨x, hx⟩ := at_lt Hn hlt
      obtain ⟨b', off', hbo, hc⟩ := (Hs.out.below hbw.out) k x hx
      simp only [Option.some.injEq, Addr.mk.injEq, and_true] at hbo
      obtain ⟨rfl, rfl⟩ := hbo
      have hr := Hc.out x (List.mem_of_getElem? hx)
      have hnext := Bx.mk (take_snoc_at hx)
      have hsn := Bx.mk (sameL_succ hx)
      have b3 : (0 : Int) ≤ (k : Int) := by omega
      have b4 : (k : Int) < 64 := by omega
      have hwrap : IntKind.u8.wrap x = x := by unfold IntKind.wrap; simp [IntKind.bits, IntKind.signed]; omega
      have hle := hbw.out.size
      have Htl := Bx.mk (show (xs.take k).length ≤ 1000000000 by rw [List.length_take]; omega)
      have Hcw := Bx.mk hc
      have Hcw0 := Bx.mk hc0
      have HX := Bx.mk hx
      clear hx
      go_wp2_with (first
        | (at_builtin
           refine wpList_append_int rfl _ _ 99 rfl 5 .u8 (.int .u8 0) 1 (by omega) Try.underlying99 (by kernel_rfl) rfl w.heap.size _ (xs.take k) rfl (hown.out.alloc _) x ⟨wr.heap.size, 0, none⟩ 1 rfl (cell_new _ _ _) Htl.out (le_alloc hle _) ?_
           intro v1 w1 hown1 hg1 _))
      have hown2 := Bx.mk hown1
      rw [← hnext.out] at hown2
      have hbw2 := Bx.mk ((hbw.out.alloc hle (.cells #[.int .u8 x] 5)).grown hg1 (le_alloc hle _) (fun g hg => (hown.out.lt g hg).1))
      have hc1 := (Hs.out.below hbw2.out) k x HX.out
      have hc2 := (Hs.out.below hbw2.out) 0 x0 Hx0.out
      obtain ⟨b3', off3, hbo3, hc1⟩ := hc1
      simp only [Option.some.injEq, Addr.mk.injEq, and_true] at hbo3
      obtain ⟨rfl, rfl⟩ := hbo3
      obtain ⟨b4', off4, hbo4, hc2⟩ := hc2
      simp only [Option.some.injEq, Addr.mk.injEq, and_true] at hbo4
      obtain ⟨rfl, rfl⟩ := hbo4
      rw [Nat.add_zero] at hc2
      have Hc1 := Bx.mk hc1
      have Hc2 := Bx.mk hc2
      clear hown1 hg1 hc hc0 hc1 hc2 hown hbw hle Hcw Hcw0
      cases hq : sameL xs k with
      | false =>
        refine wp_region_quiet_below (by kernel_rfl) (by kernel_rfl) ?_
        repeat (first | go_big_quiet_step ((fail)) | quiet_step (fail))
        refine wpQuiet_nil ?_
        rintro _ ⟨⟨dq, osq⟩, rfl⟩
        have hb0 := below_regrown w1 dq osq
        replace hown2 := Bx.mk (hown2.out.below hb0)
        replace hbw2 := Bx.mk (hbw2.out.trans (hb0.mono hbw2.out.size))
        generalize grow (redrawn w1 dq) osq = w7 at *
        go_wp2_with fail
        go_roundw
        case rel => exact ⟨k + 1, by omega, by go_num, by rw [hsn.out, hq]; rfl, hown2, hbw2⟩
        case measure => simp [intOf]; omega
      | true =>
        have qc1 : ∀ dk osk, (grow (redrawn w1 dk) osk).cell? ⟨b, off + k, none⟩ = some (.int .i64 x) := cell_regrown Hc1.out
        have qc2 : ∀ dk osk, (grow (redrawn w1 dk) osk).cell? ⟨b, off, none⟩ = some (.int .i64 x0) := cell_regrown Hc2.out
        refine wp_region_quiet_below (by kernel_rfl) (by kernel_rfl) ?_
        repeat (first | go_big_quiet_step ((fail)) | quiet_step (fail))
        refine wpQuiet_nil ?_
        rintro _ ⟨⟨dq, osq⟩, rfl⟩
        have hb0 := below_regrown w1 dq osq
        replace hown2 := Bx.mk (hown2.out.below hb0)
        replace hbw2 := Bx.mk (hbw2.out.trans (hb0.mono hbw2.out.size))
        generalize grow (redrawn w1 dq) osq = w7 at *
        go_wp2_with fail
        go_roundw
        case rel => exact ⟨k + 1, by omega, by go_num, by rw [hsn.out, hq, Hd.out]; rfl, hown2, hbw2⟩
        case measure => simp [intOf]; omega
    · obtain rfl : k = 64 := by omega
      have hfull := Bx.mk (show xs.take 64 = xs from List.take_of_length_le (by rw [Hn.out]; omega))
      cases hq : sameL xs 64 with
      | true =>
        have hm : Tr.mkBrick xs = .uni x0 := by unfold Tr.mkBrick; rw [if_pos ((sameL_all Hn.out).1 hq), Hd.out]
        have Hm := Bx.mk hm
        clear hm hq
        go_wp2_with fail
        refine (hu.out _).mono ?_
        rintro _ w2 ⟨rfl, hb2⟩
        go_wp2_with fail
        go_ret
        exact ⟨by rw [Hm.out]; rfl, hbw.out.trans (hb2.mono hbw.out.size)⟩
      | false =>
        have hm : Tr.mkBrick xs = .brick xs := by unfold Tr.mkBrick; rw [if_neg (fun e => by rw [(sameL_all Hn.out).2 e] at hq; cases hq)]
        have Hm := Bx.mk hm
        have hown2 := hown.out
        rw [hfull.out] at hown2
        obtain ⟨pa, pc, rfl, hsl⟩ := hown2.form
        have hcv := conv_str (P := Try.prog) 99 5 9 Try.underlying99 Try.underlying5 Try.underlying9 hsl xs.length pc rfl
        have hsz : (strOfNums xs).size = 64 := by rw [strOfNums_size, Hn.out]
        have hst := Bx.mk (show (strOfNums [98]) ++ strOfNums xs = strOfNums (Tr.enc (.brick xs)) from str_append [98] xs)
        clear hm hq hsl hown2 hown
        go_wp2_with fail
        go_ret
        exact ⟨by rw [Hm.out, ← hst.out]; rfl, hbw.out⟩
set_option maxRecDepth 100000 in
set_option maxHeartbeats 2000000 in
theorem ref9_cells (l : List Int) (hl : l.length = 64) (hb : ∀ x ∈ l, 0 ≤ x ∧ x ≤ 255) (w : World) :
    Calls Try.prog 61 #[.string (strOfNums (98 :: l))] w fun e w' => ∃ pa pc, e = .returned (.slice pa 64 pc) ∧ Sl w' .i64 pa l ∧ Below w.heap.size w w' := by
  have hby : Byt (98 :: l) := fun x hx => by
    rcases List.mem_cons.1 hx with rfl | hx
    · omega
    · exact hb x hx
  have Hby := Bx.mk hby
  have Hl := Bx.mk hl
  have Hb := Bx.mk hb
  have hi0 := fun W : World => idx_str (P := Try.prog) 9 Try.underlying9 hby (k := 0) (x := 98) rfl W
  obtain ⟨S, hS⟩ : ∃ S, S = strOfNums (98 :: l) := ⟨_, rfl⟩
  have HS := Bx.mk hS
  rw [← hS] at hi0 ⊢
  rw [show ((0 : Nat) : Int) = 0 from rfl] at hi0
  clear hl hb hby hS
  go_enter Try.func61, Try.ntmps61
  go_wp2_with fail
  go_loopw [3, 4] (fun v i wr => ∃ k : Nat, k ≤ 64 ∧ i = .int .i64 k ∧ Bx (Own wr w.heap.size 3 .i64 v (l.take k)) ∧ Bx (Below w.heap.size w wr)) (fun _ i _ => 64 - (intOf i).toNat)
  case atStart => exact ⟨0, Nat.zero_le _, rfl, ⟨Own.nil _ _ _ _⟩, ⟨Below.refl _ _⟩⟩
  case round =>
    obtain ⟨k, hk, rfl, hown, hbw⟩ := hrel
    by_cases hlt : k < 64
    · obtain ⟨x, hx⟩ := at_lt Hl hlt
      have hr := Hb.out x (List.mem_of_getElem? hx)
      have hnext := Bx.mk (take_snoc_at hx)
      have hik := fun W : World => idx_str (P := Try.prog) 9 Try.underlying9 Hby.out (k := k + 1) (x := x) (by simpa using hx) W
      rw [← HS.out, show ((k + 1 : Nat) : Int) = 1 + (k : Int) by omega] at hik
      have b3 : (0 : Int) ≤ (k : Int) := by omega
      have b4 : (k : Int) < 64 := by omega
      have hw1 : IntKind.i64.wrap (1 + (k : Int)) = 1 + (k : Int) := IntWalk.i64_in _ (by omega)
      have hwrap : IntKind.i64.wrap x = x := IntWalk.i64_in _ (by omega)
      have hle := hbw.out.size
      have Htl := Bx.mk (show (l.take k).length ≤ 1000000000 by rw [List.length_take]; omega)
      clear hx
      go_wp2_with (first
        | (at_builtin
           refine wpList_append_int rfl _ _ 26 rfl 3 .i64 (.int .i64 0) 8 (by omega) Try.underlying26 (by kernel_rfl) rfl w.heap.size _ (l.take k) rfl (hown.out.alloc _) x ⟨wr.heap.size, 0, none⟩ 1 rfl (cell_new _ _ _) Htl.out (le_alloc hle _) ?_
           intro v1 w1 hown1 hg1 _))
      have hown2 := Bx.mk hown1
      rw [← hnext.out] at hown2
      have hbw2 := Bx.mk ((hbw.out.alloc hle (.cells #[.int .i64 x] 3)).grown hg1 (le_alloc hle _) (fun g hg => (hown.out.lt g hg).1))
      clear hown1 hg1
      go_roundw
      case rel => exact ⟨k + 1, by omega, by go_num, hown2, hbw2⟩
      case measure => simp [intOf]; omega
    · obtain rfl : k = 64 := by omega
      have hown2 := hown.out
      rw [List.take_of_length_le (by rw [Hl.out]; omega)] at hown2
      obtain ⟨pa, pc, rfl, hsl⟩ := hown2.form
      have Hsl := Bx.mk hsl
      have hll : l.length = 64 := Hl.out
      clear hown2 hown hsl
      go_wp2_with fail
      go_ret
      exact ⟨pa, pc, congrArg (fun n => Ending.returned (Value.slice pa n pc)) Hl.out, Hsl.out, hbw.out⟩
end Go.Proofs.Ytabclecmehdeoaa
end
section
/- voxellaw09.describes, of a uniform node and of a brick, by the program. -/
namespace Go.Proofs.Ytabclecmehdeoaa
open Go.RowKit Go.Sort Go.Maps
open Oct

theorem kind_b (Far : Nat → Prop) (sb : Nat) (most : Int) (ts : List Tr) (t : Tr) (ht : t ∈ ts) (v : Int) (hv : (nodeV ts t).cells.toList[0]? = some (.int .i64 v)) (hlen : ts.length ≤ 4194304) (w : World) (hS : StoreIs w Far sb most ts) :
    Calls Try.prog 23 #[.pointer (some ⟨sb, 0, none⟩), .int .i64 (idT ts t : Int)] w fun e' w' => e' = .returned (.int .i64 v) ∧ Below w.heap.size w w' :=
  (kind_any Far sb most ts _ t (idT_get ht) v hv hlen w hS).mono fun _e _w' ⟨h1, h2⟩ => ⟨h1, h2 ▸ Below.refl _ _⟩
theorem depth_b (Far : Nat → Prop) (sb : Nat) (most : Int) (ts : List Tr) (t : Tr) (ht : t ∈ ts) (v : Int) (hv : (nodeV ts t).cells.toList[3]? = some (.int .i64 v)) (hlen : ts.length ≤ 4194304) (w : World) (hS : StoreIs w Far sb most ts) :
    Calls Try.prog 25 #[.pointer (some ⟨sb, 0, none⟩), .int .i64 (idT ts t : Int)] w fun e' w' => e' = .returned (.int .i64 v) ∧ Below w.heap.size w w' :=
  (depth_any Far sb most ts _ t (idT_get ht) v hv hlen w hS).mono fun _e _w' ⟨h1, h2⟩ => ⟨h1, h2 ▸ Below.refl _ _⟩
set_option maxRecDepth 100000 in
set_option maxHeartbeats 2000000 in
theorem describes_uni (w : World) (Far : Nat → Prop) (sb : Nat) (most : Int) (ts : List Tr) (c : Int) (hc : 0 ≤ c ∧ c ≤ 255) (ht : Tr.uni c ∈ ts) (hG : Good ts) (hlen : ts.length ≤ 4194304) (hS : StoreIs w Far sb most ts) :
    Calls Try.prog 21 #[.pointer (some ⟨sb, 0, none⟩), .int .i64 (idT ts (.uni c) : Int), .string (strOfNums (Tr.enc (.uni c)))] w fun e w' => e = .returned (.bool true) ∧ Below w.heap.size w w' := by
  have hcel := Bx.mk (cells_any w Far sb most ts (.uni c) ht hG (by omega) hS)
  have hK := Bx.mk fun W (h : Below w.heap.size w W) => kind_b Far sb most ts (.uni c) ht 1 rfl hlen W (hS.later h)
  have hD := Bx.mk fun W (h : Below w.heap.size w W) => depth_b Far sb most ts (.uni c) ht 0 rfl hlen W (hS.later h)
  have hby : Byt [117, c] := fun x hx => by
    simp only [List.mem_cons, List.not_mem_nil, or_false] at hx
    omega
  have hi0 := fun W : World => idx_str (P := Try.prog) 9 Try.underlying9 hby (k := 0) (x := 117) rfl W
  have hi1 := fun W : World => idx_str (P := Try.prog) 9 Try.underlying9 hby (k := 1) (x := c) rfl W
  rw [show ((0 : Nat) : Int) = 0 from rfl] at hi0
  rw [show ((1 : Nat) : Int) = 1 from rfl] at hi1
  have hwrap : IntKind.i64.wrap c = c := IntWalk.i64_in _ (by omega)
  rw [show Tr.enc (.uni c) = [117, c] by simp [Tr.enc]]
  generalize strOfNums [117, c] = S at *
  generalize (idT ts (.uni c) : Int) = id at *
  clear hby hc ht hG hlen hS
  go_enter Try.func21, Try.ntmps21
  go_wp2_with fail
  refine hcel.out.mono ?_
  rintro _ w1 ⟨v, rfl, how, hB⟩
  obtain ⟨pa, pc, rfl, hsl⟩ := how.form
  obtain ⟨b, off, rfl, hcell⟩ := hsl 0 c rfl
  rw [Nat.add_zero] at hcell
  have Hcell := Bx.mk hcell
  have hlen1 : (outT (.uni c)).length = 1 := rfl
  rw [hlen1]
  clear how hsl hcel hcell hlen1
  go_wp2_with fail
  have qc : ∀ dk osk, (grow (redrawn w1 dk) osk).cell? ⟨b, off, none⟩ = some (.int .i64 c) := cell_regrown Hcell.out
  have q0 := Bx.mk fun dk osk => Calls.regrown_of (hK.out _ (hB.trans ((below_regrown w1 dk osk).mono hB.size)))
  have q1 := Bx.mk fun dk osk => Calls.regrown_of (hD.out _ (hB.trans ((below_regrown w1 dk osk).mono hB.size)))
  refine wp_region_quiet_below (by kernel_rfl) (by kernel_rfl) ?_
  repeat (first | go_big_quiet_step ((first | with_reducible exact q0.out _ _ | with_reducible exact q1.out _ _)) | quiet_step (first | with_reducible exact q0.out _ _ | with_reducible exact q1.out _ _))
  refine wpQuiet_nil ?_
  rintro _ ⟨⟨dq, osq⟩, rfl⟩
  have hb0 := below_regrown w1 dq osq
  replace hB := hB.trans (hb0.mono hB.size)
  generalize grow (redrawn w1 dq) osq = w2 at *
  clear q0 q1 qc
  go_wp2_with fail
  go_ret
  exact ⟨rfl, hB⟩
set_option maxRecDepth 100000 in
set_option maxHeartbeats 2000000 in
theorem describes_brick (w : World) (Far : Nat → Prop) (sb : Nat) (most : Int) (ts : List Tr) (l : List Int) (hl : l.length = 64) (hb : ∀ x ∈ l, 0 ≤ x ∧ x ≤ 255) (ht : Tr.brick l ∈ ts) (hG : Good ts) (hlen : ts.length ≤ 4194304) (hS : StoreIs w Far sb most ts) :
    Calls Try.prog 21 #[.pointer (some ⟨sb, 0, none⟩), .int .i64 (idT ts (.brick l) : Int), .string (strOfNums (Tr.enc (.brick l)))] w fun e w' => e = .returned (.bool true) ∧ Below w.heap.size w w' := by
  have hcel := Bx.mk (cells_any w Far sb most ts (.brick l) ht hG (by omega) hS)
  have hK := Bx.mk fun W (h : Below w.heap.size w W) => kind_any Far sb most ts _ (.brick l) (idT_get ht) 2 rfl hlen W (hS.later h)
  have hD := Bx.mk fun W (h : Below w.heap.size w W) => depth_any Far sb most ts _ (.brick l) (idT_get ht) 2 rfl hlen W (hS.later h)
  have hby : Byt (98 :: l) := fun x hx => by
    rcases List.mem_cons.1 hx with rfl | hx
    · omega
    · exact hb x hx
  have hi0 := fun W : World => idx_str (P := Try.prog) 9 Try.underlying9 hby (k := 0) (x := 98) rfl W
  rw [show ((0 : Nat) : Int) = 0 from rfl] at hi0
  have hRc := Bx.mk fun W => ref9_cells l hl hb W
  rw [show Tr.enc (.brick l) = 98 :: l by simp [Tr.enc]]
  generalize strOfNums (98 :: l) = S at *
  generalize (idT ts (.brick l) : Int) = id at *
  have Hl := Bx.mk hl
  clear hby hb ht hG hlen hS hl
  go_enter Try.func21, Try.ntmps21
  go_wp2_with fail
  refine hcel.out.mono ?_
  rintro _ w1 ⟨v, rfl, how, hB⟩
  obtain ⟨pa, pc, rfl, hsl⟩ := how.form
  replace hsl := Bx.mk hsl
  have hlen1 : (outT (.brick l)).length = 64 := Hl.out
  have hout : outT (.brick l) = l := rfl
  rw [hout] at hsl
  rw [hlen1]
  clear how hcel hlen1 hout
  go_wp2_with fail
  refine (hRc.out _).mono ?_
  rintro _ w2 ⟨qa, qc, rfl, hsq, hb0⟩
  replace hsl := Bx.mk (hsl.out.below hb0)
  replace hB := hB.trans (hb0.mono hB.size)
  have hsame := (ref_same pa qa pc qc l l w2 (by rw [Hl.out]; decide) (by rw [Hl.out]; decide) hsl.out hsq).mono (R' := fun e w' => e = .returned (.bool true) ∧ Below w2.heap.size w2 w') (fun e w' ⟨h1, h2⟩ => ⟨h1.trans (by simp), h2⟩)
  rw [Hl.out] at hsame
  have hsame := Bx.mk hsame
  clear hb0 hsq hsl
  go_wp2_with fail
  refine hsame.out.mono ?_
  rintro _ w3 ⟨rfl, hb0⟩
  replace hB := hB.trans (hb0.mono hB.size)
  clear hb0 hsame
  go_wp2_with fail
  refine (hK.out _ hB).mono ?_
  rintro _ _ ⟨rfl, rfl⟩
  go_wp2_with fail
  refine (hD.out _ hB).mono ?_
  rintro _ _ ⟨rfl, rfl⟩
  go_wp2_with fail
  go_ret
  exact ⟨rfl, hB⟩
theorem describes_leaf (w : World) (Far : Nat → Prop) (sb : Nat) (most : Int) (ts : List Tr) (xs : List Int) (hn : xs.length = 64) (hb : xs.all Pal.cell = true) (ht : Tr.mkBrick xs ∈ ts) (hG : Good ts) (hlen : ts.length ≤ 4194304) (hS : StoreIs w Far sb most ts) :
    Calls Try.prog 21 #[.pointer (some ⟨sb, 0, none⟩), .int .i64 (idT ts (Tr.mkBrick xs) : Int), .string (strOfNums (Tr.enc (Tr.mkBrick xs)))] w fun e w' => e = .returned (.bool true) ∧ Below w.heap.size w w' := by
  have hc := all_cell hb
  unfold Tr.mkBrick at ht ⊢
  split at ht
  · rename_i h
    rw [if_pos h]
    exact describes_uni w Far sb most ts _ (hc _ (by cases xs with
      | nil => simp at hn
      | cons x r => simp)) ht hG hlen hS
  · rename_i h
    rw [if_neg h]
    exact describes_brick w Far sb most ts xs hn hc ht hG hlen hS
end Go.Proofs.Ytabclecmehdeoaa
end
