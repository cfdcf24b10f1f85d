import Derived.Test.YtabclecmehdeoaaGGen
import Derived.Test.YtabclecmehdeoaaGCan
section
/- Store.Grid, by the program. -/
namespace Go.Proofs.Ytabclecmehdeoaa
open Go.RowKit Go.Sort Go.Maps
open Oct

/-- the first k cells are filled -/
def fillL (b : Box) (F : Pt → Int) (m k : Nat) : List Int := (List.range m).map fun j : Nat => if j < k then F (atB b (j : Int)) else 0
theorem fillL_length (b : Box) (F : Pt → Int) (m k : Nat) : (fillL b F m k).length = m := by simp [fillL]
theorem fillL_zero (b : Box) (F : Pt → Int) (m : Nat) : fillL b F m 0 = List.replicate m 0 := by
  unfold fillL
  apply List.ext_getElem?
  intro i
  simp only [List.getElem?_map, List.getElem?_replicate]
  by_cases hi : i < m
  · simp [hi]
  · simp [hi]
theorem fillL_all (b : Box) (F : Pt → Int) : fillL b F (volB b).toNat (volB b).toNat = cellsOf b F := by
  unfold fillL cellsOf
  apply List.map_congr_left
  intro i hi
  rw [if_pos (List.mem_range.1 hi)]
theorem fillL_set (b : Box) (F : Pt → Int) {m k : Nat} (hk : k < m) : (fillL b F m k).set k (F (atB b (k : Int))) = fillL b F m (k + 1) := by
  unfold fillL
  apply List.ext_getElem?
  intro i
  rw [List.getElem?_set]
  simp only [List.getElem?_map, List.length_map, List.length_range]
  by_cases hi : i < m
  · by_cases e : k = i
    · subst e; simp [hk]
    · rw [if_neg e]
      simp only [List.getElem?_range hi, Option.map_some, Option.some.injEq]
      by_cases h1 : i < k
      · rw [if_pos h1, if_pos (by omega)]
      · rw [if_neg h1, if_neg (by omega)]
  · rw [if_neg (by omega)]
    simp [hi]
theorem fillL_at (b : Box) (F : Pt → Int) {m k : Nat} (hk : k < m) : (fillL b F m k)[k]? = some 0 := by
  unfold fillL
  simp [hk]
theorem sl_put7 {w : World} {k : IntKind} {g r off : Nat} {xs : List Int} (h : Sl w k (some ⟨g, off, none⟩) xs) (hne : g ≠ r) (x0 x1 x2 x3 x4 x5 x6 : Value) :
    Sl (((((((w.setCell ⟨r, 0, none⟩ x0).setCell ⟨r, 1, none⟩ x1).setCell ⟨r, 2, none⟩ x2).setCell ⟨r, 3, none⟩ x3).setCell ⟨r, 4, none⟩ x4).setCell ⟨r, 5, none⟩ x5).setCell ⟨r, 6, none⟩ x6) k (some ⟨g, off, none⟩) xs := by
  have one : ∀ (w : World) (j : Nat) (x : Value), Sl w k (some ⟨g, off, none⟩) xs → Sl (w.setCell ⟨r, j, none⟩ x) k (some ⟨g, off, none⟩) xs := fun w j x h => h.grown (grown_setCell w ⟨r, j, none⟩ x) hne
  exact one _ _ _ (one _ _ _ (one _ _ _ (one _ _ _ (one _ _ _ (one _ _ _ (one _ _ _ h))))))
structure GrI (w : World) (bv rv gv : Array Value) (g gg m cap : Nat) (xs : List Int) (wr : World) : Prop where
  own : Own wr w.heap.size 3 .i64 (.slice (some ⟨g, 0, none⟩) m cap) xs
  bel : Below w.heap.size w wr
  kb : Bk wr w.heap.size bv 25
  kr : Bk wr (w.heap.size + 1) rv 28
  kg : Bk wr gg gv 28
set_option maxRecDepth 100000 in
set_option maxHeartbeats 4000000 in
theorem grid_full (w : World) (Far : Nat → Prop) (sb : Nat) (most : Int) (ts : List Tr) (n : Nat) (F : Pt → Int) (hn : n ≤ 12) (hF : FnC n F) (hG : Good ts) (hlen : ts.length ≤ 1000000000000) (ht : trF n F ∈ ts) (hS : StoreIs w Far sb most ts)
    (a b c d e f : Int) (h0 : newE ⟨⟨a, b, c⟩, ⟨d, e, f⟩⟩ 0 = 0) (hem : emptyB ⟨⟨a, b, c⟩, ⟨d, e, f⟩⟩ = false) (m : Nat) (hm : volB ⟨⟨a, b, c⟩, ⟨d, e, f⟩⟩ = (m : Int)) (hs : Small ⟨⟨a, b, c⟩, ⟨d, e, f⟩⟩ 1048575) (hmm : m ≤ 2097152) :
    Calls Try.prog 29 #[.pointer (some ⟨sb, 0, none⟩), .int .i64 (idT ts (trF n F) : Int), .int .i64 ((n : Int) + 2), .agg #[.int .i64 a, .int .i64 b, .int .i64 c, .int .i64 d, .int .i64 e, .int .i64 f]] w fun e' w' => ∃ pa pc, e' = .returned (.tuple #[.agg #[.int .i64 a, .int .i64 b, .int .i64 c, .int .i64 d, .int .i64 e, .int .i64 f, .slice pa m pc], .int .i64 0]) ∧ Sl w' .i64 pa (cellsOf ⟨⟨a, b, c⟩, ⟨d, e, f⟩⟩ F) ∧ Below w.heap.size w w' := by
  have hNew := Bx.mk fun W => new_full a b c d e f 0 h0 hem m hm W
  have hAt := Bx.mk fun W (k : Nat) (hk : k < m) => at_yes a b c d e f (k : Int) hs (by omega) W
  have hGet := Bx.mk fun W (h : Below w.heap.size w W) (p : Pt) => get_fn W Far sb most ts n F hn hF hG hlen ht p.x p.y p.z (hS.later h)
  have hfin := Bx.mk (fillL_all ⟨⟨a, b, c⟩, ⟨d, e, f⟩⟩ F)
  rw [hm, Int.toNat_natCast] at hfin
  have hpos : 0 < m := by
    have := emptyB_iff.1 hem
    have h1 : volB ⟨⟨a, b, c⟩, ⟨d, e, f⟩⟩ = (d - a) * (e - b) * (f - c) := by unfold volB; rw [sizeB_full hem]; rfl
    simp only at this
    have h2 : 0 < (d - a) * (e - b) := Int.mul_pos (by omega) (by omega)
    have h3 : 0 < (d - a) * (e - b) * (f - c) := Int.mul_pos h2 (by omega)
    omega
  generalize (idT ts (trF n F) : Int) = id at *
  generalize ((n : Int) + 2) = dd at *
  clear hF hG hlen ht hS h0 hem hm hs hn
  go_enter Try.func29, Try.ntmps29
  go_wp2_with fail
  generalize hW : World.alloc (World.alloc w _) _ = W
  have hSz : w.heap.size + 1 + 1 ≤ W.heap.size := by rw [← hW]; simp
  have hB : Below w.heap.size w W := by rw [← hW]; exact ((Below.refl _ _).alloc (Nat.le_refl _) _).alloc (by simp) _
  have kb : Bk W (w.heap.size) #[.int .i64 a, .int .i64 b, .int .i64 c, .int .i64 d, .int .i64 e, .int .i64 f] 25 := by rw [← hW]; exact blk_old (blk_new _ _ _ (by simp))
  have kr : Bk W (w.heap.size + 1) #[.int .i64 0, .int .i64 0, .int .i64 0, .int .i64 0, .int .i64 0, .int .i64 0, .slice none 0 0] 28 := by rw [← hW]; exact blk_new _ _ _ (by simp)
  clear hW
  have hWs : w.heap.size + 1 + 1 ≤ W.heap.size := by omega
  have cb0 := kb.cell 0 rfl
  have cb1 := kb.cell 1 rfl
  have cb2 := kb.cell 2 rfl
  have cb3 := kb.cell 3 rfl
  have cb4 := kb.cell 4 rfl
  have cb5 := kb.cell 5 rfl
  go_wp2_with fail
  refine (hNew.out _).mono ?_
  rintro _ w1 ⟨pa, pc, rfl, how, hb0⟩
  replace hB := hB.trans (hb0.mono hB.size)
  replace kb := kb.later hb0
  replace kr := kr.later hb0
  replace hSz := Nat.le_trans hSz hb0.size
  clear hb0
  clear cb0 cb1 cb2 cb3 cb4 cb5
  obtain ⟨g, cap, hpa, hg1, hg2, -, -, -⟩ := how.at (by simp; omega)
  simp only [List.length_replicate] at hpa how ⊢
  injection hpa with e1 _ e3
  subst e1 e3
  have hgw : w.heap.size + 1 + 1 ≤ g := Nat.le_trans hWs hg1
  have how2 : Own w1 w.heap.size 3 .i64 (.slice (some ⟨g, 0, none⟩) m pc) (fillL ⟨⟨a, b, c⟩, ⟨d, e, f⟩⟩ F m 0) := by rw [fillL_zero]; exact how.base (by omega)
  clear how
  go_wp2_with fail
  obtain ⟨gg, hgg⟩ : ∃ gg, gg = w1.heap.size := ⟨_, rfl⟩
  generalize hW2 : World.alloc w1 _ = W2
  have HI : Bx (GrI w #[.int .i64 a, .int .i64 b, .int .i64 c, .int .i64 d, .int .i64 e, .int .i64 f] #[.int .i64 0, .int .i64 0, .int .i64 0, .int .i64 0, .int .i64 0, .int .i64 0, .slice none 0 0] #[.int .i64 a, .int .i64 b, .int .i64 c, .int .i64 d, .int .i64 e, .int .i64 f, .slice (some ⟨g, 0, none⟩) m pc] g gg m pc (fillL ⟨⟨a, b, c⟩, ⟨d, e, f⟩⟩ F m 0) W2) := ⟨by
    rw [← hW2]
    exact ⟨how2.alloc _, hB.alloc hB.size _, kb.alloc _, kr.alloc _, by rw [hgg]; exact Bk.new _ _ _⟩⟩
  have hgl : g < gg := by rw [hgg]; exact hg2
  rw [← hgg]
  clear hW2 how2 hB kb kr hg2 hSz hWs hNew hg1 hgg
  go_loopw [23] (fun v23 wr => ∃ k : Nat, k ≤ m ∧ v23 = .int .i64 k ∧ Bx (GrI w #[.int .i64 a, .int .i64 b, .int .i64 c, .int .i64 d, .int .i64 e, .int .i64 f] #[.int .i64 0, .int .i64 0, .int .i64 0, .int .i64 0, .int .i64 0, .int .i64 0, .slice none 0 0] #[.int .i64 a, .int .i64 b, .int .i64 c, .int .i64 d, .int .i64 e, .int .i64 f, .slice (some ⟨g, 0, none⟩) m pc] g gg m pc (fillL ⟨⟨a, b, c⟩, ⟨d, e, f⟩⟩ F m k) wr)) (fun i _ => m - (intOf i).toNat)
  case atStart => exact ⟨0, Nat.zero_le _, rfl, HI⟩
  case round =>
    clear HI
    obtain ⟨k, hk, rfl, HI⟩ := hrel
    obtain ⟨ho, hB, kb, kr, kg⟩ := HI.out
    have HO := Bx.mk ho
    clear ho HI
    by_cases hlt : k < m
    · have t0 : decide ((k : Int) < (m : Int)) = true := by simp; omega
      have t0' : (k : Int) < (m : Int) := by omega
      have t1 : (0 : Int) ≤ (k : Int) := by omega
      have cb0 := kb.cell 0 rfl
      have cb1 := kb.cell 1 rfl
      have cb2 := kb.cell 2 rfl
      have cb3 := kb.cell 3 rfl
      have cb4 := kb.cell 4 rfl
      have cb5 := kb.cell 5 rfl
      have hat := hAt.out (k := k)
      have hpv : Bx (F (atB ⟨⟨a, b, c⟩, ⟨d, e, f⟩⟩ (k : Int)) = F (atB ⟨⟨a, b, c⟩, ⟨d, e, f⟩⟩ (k : Int))) := ⟨rfl⟩
      rcases hpt : atB ⟨⟨a, b, c⟩, ⟨d, e, f⟩⟩ (k : Int) with ⟨px, py, pz⟩
      simp only [hpt] at hat
      replace hat := Bx.mk hat
      replace hpt := Bx.mk hpt
      clear hpv
      go_wp2_with fail
      refine (hat.out _ hlt).mono ?_
      rintro _ w5 ⟨rfl, hb0⟩
      replace HO := Bx.mk (HO.out.below hb0)
      replace hB := hB.trans (hb0.mono hB.size)
      replace kb := kb.later hb0
      replace kr := kr.later hb0
      replace kg := kg.later hb0
      clear hb0 cb0 cb1 cb2 cb3 cb4 cb5
      go_wp2_with fail
      obtain ⟨gp, hgp⟩ : ∃ gp, gp = w5.heap.size := ⟨_, rfl⟩
      generalize hW6 : World.alloc w5 _ = W6
      have hb0 : Below w5.heap.size w5 W6 := by rw [← hW6]; exact (Below.refl _ _).alloc (Nat.le_refl _) _
      have kp : Bk W6 gp #[.int .i64 px, .int .i64 py, .int .i64 pz] 23 := by rw [← hW6, hgp]; exact Bk.new _ _ _
      rw [← hgp]
      replace HO := Bx.mk (HO.out.below hb0)
      replace hB := hB.trans (hb0.mono hB.size)
      replace kb := kb.later hb0
      replace kr := kr.later hb0
      replace kg := kg.later hb0
      clear hb0 hW6 hgp
      have hSz := hB.size
      have cg0 : ∀ dk osk, (grow (redrawn W6 dk) osk).cell? ⟨gg, 0, none⟩ = some (.int .i64 a) := cell_regrown (kg.cell 0 rfl)
      have cg1 : ∀ dk osk, (grow (redrawn W6 dk) osk).cell? ⟨gg, 1, none⟩ = some (.int .i64 b) := cell_regrown (kg.cell 1 rfl)
      have cg2 : ∀ dk osk, (grow (redrawn W6 dk) osk).cell? ⟨gg, 2, none⟩ = some (.int .i64 c) := cell_regrown (kg.cell 2 rfl)
      have cg3 : ∀ dk osk, (grow (redrawn W6 dk) osk).cell? ⟨gg, 3, none⟩ = some (.int .i64 d) := cell_regrown (kg.cell 3 rfl)
      have cg4 : ∀ dk osk, (grow (redrawn W6 dk) osk).cell? ⟨gg, 4, none⟩ = some (.int .i64 e) := cell_regrown (kg.cell 4 rfl)
      have cg5 : ∀ dk osk, (grow (redrawn W6 dk) osk).cell? ⟨gg, 5, none⟩ = some (.int .i64 f) := cell_regrown (kg.cell 5 rfl)
      have cg6 : ∀ dk osk, (grow (redrawn W6 dk) osk).cell? ⟨gg, 6, none⟩ = some (.slice (some ⟨g, 0, none⟩) m pc) := cell_regrown (kg.cell 6 rfl)
      have cp0 : ∀ dk osk, (grow (redrawn W6 dk) osk).cell? ⟨gp, 0, none⟩ = some (.int .i64 px) := cell_regrown (kp.cell 0 rfl)
      have cp1 : ∀ dk osk, (grow (redrawn W6 dk) osk).cell? ⟨gp, 1, none⟩ = some (.int .i64 py) := cell_regrown (kp.cell 1 rfl)
      have cp2 : ∀ dk osk, (grow (redrawn W6 dk) osk).cell? ⟨gp, 2, none⟩ = some (.int .i64 pz) := cell_regrown (kp.cell 2 rfl)
      have q0 := Bx.mk fun dk osk => Calls.regrown_of (hGet.out (grow (redrawn W6 dk) osk) (hB.trans ((below_regrown W6 dk osk).mono hB.size)) ⟨px, py, pz⟩)
      refine wp_region_head_below 8 (by kernel_rfl) (by kernel_rfl) ?_
      simp only [List.take_succ_cons, List.take_zero, List.drop_succ_cons, List.drop_zero]
      repeat (first | go_big_quiet_step ((first | with_reducible exact q0.out _ _)) | quiet_step (first | with_reducible exact q0.out _ _))
      refine wpQuiet_nil ?_
      rintro _ ⟨⟨dq, osq⟩, rfl⟩
      have hb := below_regrown W6 dq osq
      replace hB := hB.trans (hb.mono hB.size)
      clear cg0 cg1 cg2 cg3 cg4 cg5 cg6
      clear cp0 cp1 cp2
      clear q0
      replace HO := Bx.mk (HO.out.below hb)
      replace kb := kb.later hb
      replace kr := kr.later hb
      replace kg := kg.later hb
      replace kp := kp.later hb
      replace hSz := Nat.le_trans hSz hb.size
      clear hb
      generalize grow (redrawn W6 dq) osq = W7 at *
      clear kp
      have hx := fillL_at ⟨⟨a, b, c⟩, ⟨d, e, f⟩⟩ F hlt
      obtain ⟨g', cap', he, -, hgl2, hcs, hfr, hst⟩ := HO.out.at (by rw [fillL_length]; exact hpos)
      simp only [Value.slice.injEq, Option.some.injEq, Addr.mk.injEq, and_true] at he
      obtain ⟨rfl, hl2, rfl⟩ := he
      have hcell := hcs k _ hx
      have hfr0 := hfr k
      have hst0 := hst k (F ⟨px, py, pz⟩)
      have hset := fillL_set ⟨⟨a, b, c⟩, ⟨d, e, f⟩⟩ F hlt
      rw [hpt.out] at hset
      rw [hset, ← hl2] at hst0
      replace hst0 := Bx.mk hst0
      clear hcs hfr hst hset hl2 hx
      go_wp2_with fail
      have HI2 : Bx (GrI w #[.int .i64 a, .int .i64 b, .int .i64 c, .int .i64 d, .int .i64 e, .int .i64 f] #[.int .i64 0, .int .i64 0, .int .i64 0, .int .i64 0, .int .i64 0, .int .i64 0, .slice none 0 0] #[.int .i64 a, .int .i64 b, .int .i64 c, .int .i64 d, .int .i64 e, .int .i64 f, .slice (some ⟨g, 0, none⟩) m pc] g gg m pc (fillL ⟨⟨a, b, c⟩, ⟨d, e, f⟩⟩ F m (k + 1)) (W7.setCell ⟨g, k, none⟩ (.int .i64 (F ⟨px, py, pz⟩)))) := ⟨⟨hst0.out, hB.setCell (show w.heap.size ≤ g by omega) _, kb.other _ _ (show w.heap.size ≠ g by omega), kr.other _ _ (show w.heap.size + 1 ≠ g by omega), kg.other _ _ (show gg ≠ g by omega)⟩⟩
      clear hst0 hB kb kr kg hcell hfr0
      go_roundw
      case rel => exact ⟨k + 1, by omega, by go_num, HI2⟩
      case measure => simp [intOf]; omega
    · obtain rfl : k = m := by omega
      have t0 : decide ((k : Int) < (k : Int)) = false := by simp
      have hsl := Bx.mk HO.out.sl
      rw [hfin.out] at hsl
      have cg0 := kg.cell 0 rfl
      have cg1 := kg.cell 1 rfl
      have cg2 := kg.cell 2 rfl
      have cg3 := kg.cell 3 rfl
      have cg4 := kg.cell 4 rfl
      have cg5 := kg.cell 5 rfl
      have cg6 := kg.cell 6 rfl
      have cr0 := kr.cell 0 rfl
      have cr1 := kr.cell 1 rfl
      have cr2 := kr.cell 2 rfl
      have cr3 := kr.cell 3 rfl
      have cr4 := kr.cell 4 rfl
      have cr5 := kr.cell 5 rfl
      have cr6 := kr.cell 6 rfl
      have fr0 := kr.frozen 0
      have fr1 := kr.frozen 1
      have fr2 := kr.frozen 2
      have fr3 := kr.frozen 3
      have fr4 := kr.frozen 4
      have fr5 := kr.frozen 5
      have fr6 := kr.frozen 6
      go_wp2_with fail
      replace kr := kr.put7 (.int .i64 a) (.int .i64 b) (.int .i64 c) (.int .i64 d) (.int .i64 e) (.int .i64 f) (.slice (some ⟨g, 0, none⟩) k pc)
      clear cr0 cr1 cr2 cr3 cr4 cr5 cr6
      have cz0 := kr.cell 0 rfl
      have cz1 := kr.cell 1 rfl
      have cz2 := kr.cell 2 rfl
      have cz3 := kr.cell 3 rfl
      have cz4 := kr.cell 4 rfl
      have cz5 := kr.cell 5 rfl
      have cz6 := kr.cell 6 rfl
      exact bodyPost_ret (v := .tuple #[.agg #[.int .i64 a, .int .i64 b, .int .i64 c, .int .i64 d, .int .i64 e, .int .i64 f, .slice (some ⟨g, 0, none⟩) k pc], .int .i64 0]) (by simp [results, Try.results29, go_sem, cz0, cz1, cz2, cz3, cz4, cz5, cz6]) rfl ⟨_, _, rfl, sl_put7 hsl.out (by omega) _ _ _ _ _ _ _, blw7 hB (by omega) _ _ _ _ _ _ _⟩
end Go.Proofs.Ytabclecmehdeoaa
end
section
/- Parts of a tree, and the cells of their cubes. No program. -/
namespace Go.Proofs.Ytabclecmehdeoaa
open Oct

/-- f, seen from d -/
def shf (d : Pt) (f : Pt → Int) : Pt → Int := fun o => f ⟨d.x + o.x, d.y + o.y, d.z + o.z⟩
theorem can_shift (d : Pt) (f : Pt → Int) : ∀ (n : Nat) (b : Pt), Tr.can (shf d f) n b = Tr.can f n ⟨d.x + b.x, d.y + b.y, d.z + b.z⟩
  | 0, b => by
    unfold Tr.can
    congr 1
    apply List.map_congr_left
    intro k _
    unfold shf Tr.cellAt
    simp only [Int.add_assoc]
  | n + 1, b => by
    unfold Tr.can
    congr 1
    funext i
    rw [can_shift d f n]
    unfold Tr.cor
    simp only [Int.add_assoc]
theorem can_at (f : Pt → Int) (n : Nat) (p : Pt) : Tr.can f n p = Tr.can (shf p f) n ⟨0, 0, 0⟩ := by
  rw [can_shift]
  simp
/-- a corner at a level -/
def AlP (L : Nat) (p : Pt) : Prop := p.x % 2 ^ L = 0 ∧ p.y % 2 ^ L = 0 ∧ p.z % 2 ^ L = 0
theorem mod_pow {a : Int} {i j : Nat} (h : a % 2 ^ j = 0) (hij : i ≤ j) : a % 2 ^ i = 0 := by
  obtain ⟨k, rfl⟩ := Nat.exists_eq_add_of_le hij
  rw [Int.pow_add] at h
  have h1 : (2 : Int) ^ i ∣ a := Int.dvd_trans (Int.dvd_mul_right _ _) (Int.dvd_of_emod_eq_zero h)
  exact Int.emod_eq_zero_of_dvd h1
theorem corner_eq {m : Nat} {a p : Pt} (ha : Tr.Al m a) (hI : Tr.InC m a p) (hp : AlP (m + 2) p) : p = a := by
  obtain ⟨a1, a2, a3⟩ := ha
  obtain ⟨i1, i2, i3⟩ := hI
  obtain ⟨p1, p2, p3⟩ := hp
  have e1 := Int.mul_ediv_add_emod p.x (2 ^ (m + 2))
  have e2 := Int.mul_ediv_add_emod p.y (2 ^ (m + 2))
  have e3 := Int.mul_ediv_add_emod p.z (2 ^ (m + 2))
  have f1 := Int.mul_ediv_add_emod a.x (2 ^ (m + 2))
  have f2 := Int.mul_ediv_add_emod a.y (2 ^ (m + 2))
  have f3 := Int.mul_ediv_add_emod a.z (2 ^ (m + 2))
  rw [i1, p1] at e1
  rw [i2, p2] at e2
  rw [i3, p3] at e3
  rw [a1] at f1
  rw [a2] at f2
  rw [a3] at f3
  cases p; cases a
  simp only [Pt.mk.injEq] at *
  omega
theorem partT_kid {t : Tr} {m L : Nat} {p : Pt} (hD : Dep (m + 1) t) (hL : L < m + 3) : partT t (m + 1) L p = partT (t.kid (Tr.oct m p)) m L p := by
  cases hD with
  | uni _ c => rw [partT_uni]; exact partT_uni.symm
  | node _ ch hch => rw [partT_node hL]; rfl
theorem partT_can (f : Pt → Int) : ∀ (m L : Nat) (a p : Pt), Tr.Al m a → Tr.InC m a p → 2 ≤ L → L ≤ m + 2 → AlP L p → partT (Tr.can f m a) m L p = Tr.can f (L - 2) p
  | 0, L, a, p, ha, hI, h2, hL, hp => by
    obtain rfl : L = 2 := by omega
    rw [partT_stop (by omega), corner_eq ha hI hp]
  | m + 1, L, a, p, ha, hI, h2, hL, hp => by
    by_cases h : L < m + 3
    · rw [partT_kid (dep_can f (m + 1) a) h]
      have e : (Tr.can f (m + 1) a).kid (Tr.oct m p) = Tr.can f m (Tr.cor a m (Tr.oct m p).val) := Tr.mkInner_kid _ _ _
      rw [e]
      exact partT_can f m L _ p (Tr.al_cor ha _) (Tr.inC_step ha hI) h2 (by omega) hp
    · obtain rfl : L = m + 1 + 2 := by omega
      rw [partT_stop (by omega), corner_eq ha hI hp]
      rfl
/-- the cube at p -/
def cb (p : Pt) (L : Nat) : Box := ⟨p, ⟨p.x + 2 ^ L, p.y + 2 ^ L, p.z + 2 ^ L⟩⟩
theorem pow_posI (L : Nat) : (0 : Int) < 2 ^ L := Int.pow_pos (by decide)
theorem cb_full (p : Pt) (L : Nat) : emptyB (cb p L) = false := by
  have := pow_posI L
  exact emptyB_iff.2 ⟨by simp [cb]; omega, by simp [cb]; omega, by simp [cb]; omega⟩
theorem cb_size (p : Pt) (L : Nat) : sizeB (cb p L) = ⟨2 ^ L, 2 ^ L, 2 ^ L⟩ := by
  rw [sizeB_full (cb_full p L)]
  simp only [cb, Pt.sub, Pt.mk.injEq]
  omega
theorem cb_vol (p : Pt) (L : Nat) : volB (cb p L) = 2 ^ L * 2 ^ L * 2 ^ L := by unfold volB; rw [cb_size]
theorem cb_cells (p : Pt) (L : Nat) (f : Pt → Int) : cellsOf (cb p L) f = cellsOf (cb ⟨0, 0, 0⟩ L) (shf p f) := by
  unfold cellsOf
  rw [cb_vol, cb_vol]
  apply List.map_congr_left
  intro i hi
  have hi := List.mem_range.1 hi
  unfold atB shf
  rw [cb_vol, cb_vol, if_pos (by omega), if_pos (by omega), cb_size, cb_size]
  simp [cb]
theorem inC_cb {m : Nat} {o : Pt} : Tr.InC m ⟨0, 0, 0⟩ o ↔ inB o (cb ⟨0, 0, 0⟩ (m + 2)) = true := by
  have e : cb ⟨0, 0, 0⟩ (m + 2) = cubeB (2 ^ (m + 2)) := by simp [cb, cubeB, Pt.zero]
  rw [e]
  exact ⟨in_of_inC, inC_of_in⟩
theorem parts_eq {f : Pt → Int} {n L : Nat} {p q : Pt} (h2 : 2 ≤ L) (hL : L ≤ n + 2) (hp : inB p (cubeB (2 ^ (n + 2))) = true) (hq : inB q (cubeB (2 ^ (n + 2))) = true) (ap : AlP L p) (aq : AlP L q) :
    partT (trF n f) n L p = partT (trF n f) n L q ↔ cellsOf (cb p L) f = cellsOf (cb q L) f := by
  rw [partT_can f n L _ p (al_zero n) (inC_of_in hp) h2 hL ap, partT_can f n L _ q (al_zero n) (inC_of_in hq) h2 hL aq, can_at f (L - 2) p, can_at f (L - 2) q, Tr.can_iff _ _ (al_zero _), cb_cells p, cb_cells q]
  obtain ⟨m, rfl⟩ := Nat.exists_eq_add_of_le h2
  rw [show 2 + m - 2 = m by omega]
  rw [show 2 + m = m + 2 by omega]
  exact ⟨fun h => cellsOf_congr fun o ho => h o (inC_cb.2 ho), fun h o ho => cellsOf_inj h (inC_cb.1 ho)⟩
theorem part_whole (f : Pt → Int) (n : Nat) : partT (trF n f) n (n + 2) ⟨0, 0, 0⟩ = trF n f := partT_stop (by omega)
theorem alB_iff {L : Nat} {p : Pt} : alB L p = true ↔ AlP L p := by unfold alB AlP; simp
theorem cb_new {p : Pt} {L n : Nat} (hn : n ≤ 12) (hL : L ≤ 3) (hp : inB p (cubeB (2 ^ (n + 2))) = true) : newE (cb p L) 0 = 0 ∧ Small (cb p L) 1048575 ∧ volB (cb p L) = ((2 ^ L * 2 ^ L * 2 ^ L : Nat) : Int) ∧ 2 ^ L * 2 ^ L * 2 ^ L ≤ 512 := by
  have hm := (pow_le (show n + 2 ≤ 14 by omega)).2
  have h := inB_iff.1 hp
  simp only [cubeB, Pt.zero] at h
  have hv := cb_vol p L
  have hl : L = 0 ∨ L = 1 ∨ L = 2 ∨ L = 3 := by omega
  have hS : Small (cb p L) 1048575 := by
    rcases hl with rfl | rfl | rfl | rfl <;> constructor <;> simp only [cb] <;> omega
  refine ⟨?_, hS, by rw [hv]; simp, by rcases hl with rfl | rfl | rfl | rfl <;> decide⟩
  unfold newE
  rw [if_neg, if_neg]
  · rw [hv]; rcases hl with rfl | rfl | rfl | rfl <;> decide
  · have h1 : okB (cb p L) = true := by
      unfold okB
      rw [Bool.and_eq_true, okP_iff, okP_iff]
      rcases hl with rfl | rfl | rfl | rfl <;> simp only [cb] <;> omega
    rw [h1]
    decide
end Go.Proofs.Ytabclecmehdeoaa
end
section
/- voxelref09.side, Cube, by the program. -/
namespace Go.Proofs.Ytabclecmehdeoaa
open Go.RowKit Go.Sort Go.Maps
open Oct

theorem side_any (L : Nat) (hL : L ≤ 14) (w : World) :
    Calls Try.prog 66 #[.int .i64 (L : Int)] w fun e w' => e = .returned (.int .i64 ((2 : Int) ^ L)) ∧ w = w' := by
  go_enter Try.func66, Try.ntmps66
  go_wp2_with fail
  go_loop [3, 4] (fun v3 v4 => ∃ k : Nat, k ≤ L ∧ v4 = .int .i64 k ∧ v3 = .int .i64 ((2 : Int) ^ k)) (fun _ i => L - (intOf i).toNat)
  case atStart => exact ⟨0, Nat.zero_le _, rfl, rfl⟩
  case round =>
    obtain ⟨k, hk, rfl, rfl⟩ := hrel
    by_cases hlt : k < L
    · have t0 : decide ((k : Int) < (L : Int)) = true := by simp; omega
      have hp := (pow_le (show k ≤ 14 by omega))
      have hp2 := (pow_le (show k + 1 ≤ 14 by omega))
      have hs : (2 : Int) * 2 ^ k = 2 ^ (k + 1) := by rw [Int.pow_succ]; omega
      have hw : IntKind.i64.wrap ((2 : Int) * 2 ^ k) = 2 ^ (k + 1) := by rw [hs]; exact IntWalk.i64_in _ (by omega)
      generalize hq : (2 : Int) ^ k = q at *
      generalize hr : (2 : Int) ^ (k + 1) = r at *
      go_wp2_with fail
      go_round
      case rel => exact ⟨k + 1, by omega, by go_num, by rw [hr]⟩
      case measure => simp [intOf]; omega
    · obtain rfl : k = L := by omega
      have t0 : decide ((k : Int) < (k : Int)) = false := by simp
      go_wp2_with fail
      go_ret
      exact ⟨rfl, rfl⟩
set_option maxRecDepth 100000 in
theorem cube9_any (px py pz : Int) (L : Nat) (hL : L ≤ 14) (hx : 0 ≤ px ∧ px ≤ 100000) (hy : 0 ≤ py ∧ py ≤ 100000) (hz : 0 ≤ pz ∧ pz ≤ 100000) (w : World) :
    Calls Try.prog 30 #[.agg #[.int .i64 px, .int .i64 py, .int .i64 pz], .int .i64 (L : Int)] w fun e w' => e = .returned (.agg #[.int .i64 px, .int .i64 py, .int .i64 pz, .int .i64 (px + 2 ^ L), .int .i64 (py + 2 ^ L), .int .i64 (pz + 2 ^ L)]) ∧ Below w.heap.size w w' := by
  have hsd := fun W => side_any L hL W
  have hp := (pow_le hL)
  generalize hm : (2 : Int) ^ L = m at *
  have hsd := Bx.mk hsd
  have t1 := IntWalk.i64_in (px + m) (by omega)
  have t2 := IntWalk.i64_in (py + m) (by omega)
  have t3 := IntWalk.i64_in (pz + m) (by omega)
  clear hp hx hy hz hm
  go_enter Try.func30, Try.ntmps30
  go_wp2_with fail
  generalize hW : World.alloc (World.alloc w _) _ = W
  have hSz : w.heap.size + 1 + 1 ≤ W.heap.size := by rw [← hW]; simp
  have hB : Below w.heap.size w W := by rw [← hW]; exact ((Below.refl _ _).alloc (Nat.le_refl _) _).alloc (by simp) _
  have kp : Bk W (w.heap.size) #[.int .i64 px, .int .i64 py, .int .i64 pz] 23 := by rw [← hW]; exact blk_old (blk_new _ _ _ (by simp))
  have kr : Bk W (w.heap.size + 1) #[.int .i64 0, .int .i64 0, .int .i64 0, .int .i64 0, .int .i64 0, .int .i64 0] 25 := by rw [← hW]; exact blk_new _ _ _ (by simp)
  clear hW
  refine (hsd.out _).mono ?_
  rintro _ _ ⟨rfl, rfl⟩
  have cp0 := kp.cell 0 rfl
  have cp1 := kp.cell 1 rfl
  have cp2 := kp.cell 2 rfl
  have cr0 := kr.cell 0 rfl
  have cr1 := kr.cell 1 rfl
  have cr2 := kr.cell 2 rfl
  have cr3 := kr.cell 3 rfl
  have cr4 := kr.cell 4 rfl
  have cr5 := kr.cell 5 rfl
  have fr0 := kr.frozen 0
  have fr1 := kr.frozen 1
  have fr2 := kr.frozen 2
  have fr3 := kr.frozen 3
  have fr4 := kr.frozen 4
  have fr5 := kr.frozen 5
  go_wp2_with fail
  replace kr := kr.put6 (.int .i64 px) (.int .i64 py) (.int .i64 pz) (.int .i64 (px + m)) (.int .i64 (py + m)) (.int .i64 (pz + m))
  clear cr0 cr1 cr2 cr3 cr4 cr5
  have z0 := kr.cell 0 rfl
  have z1 := kr.cell 1 rfl
  have z2 := kr.cell 2 rfl
  have z3 := kr.cell 3 rfl
  have z4 := kr.cell 4 rfl
  have z5 := kr.cell 5 rfl
  exact bodyPost_ret (v := .agg #[.int .i64 px, .int .i64 py, .int .i64 pz, .int .i64 (px + m), .int .i64 (py + m), .int .i64 (pz + m)]) (results_cell_row rfl _ _ (w.heap.size + 1) 25 #[.int .i64 px, .int .i64 py, .int .i64 pz, .int .i64 (px + m), .int .i64 (py + m), .int .i64 (pz + m)] (0, 0) _ rfl kr Try.underlying25 rfl (by kernel_rfl)) rfl ⟨rfl, blw6 hB (by omega) _ _ _ _ _ _⟩
end Go.Proofs.Ytabclecmehdeoaa
end
section
/- The walk of OctreeSharesParts. -/
namespace Go.Proofs.Ytabclecmehdeoaa
open Go.RowKit Go.Sort Go.Maps
open Oct

set_option maxRecDepth 100000 in
set_option maxHeartbeats 8000000 in
theorem shares_many (a b c d e f dd px py pz qx qy qz lv : Int) (ha : Option Addr) (hcp : Nat) (xs : List Int) (w : World) (hl : ¬ xs.length ≤ 300) :
    Calls Try.prog 6 #[.agg #[.int .i64 a, .int .i64 b, .int .i64 c, .int .i64 d, .int .i64 e, .int .i64 f, .slice ha xs.length hcp], .int .i64 dd, .agg #[.int .i64 px, .int .i64 py, .int .i64 pz], .agg #[.int .i64 qx, .int .i64 qy, .int .i64 qz], .int .i64 lv] w fun e' w' => e' = .returned (.bool true) ∧ Below w.heap.size w w' := by
  go_enter Try.func6, Try.ntmps6
  go_wp2_with fail
  generalize hW : World.alloc (World.alloc (World.alloc w _) _) _ = W
  have hSz : w.heap.size + 1 + 1 + 1 ≤ W.heap.size := by rw [← hW]; simp
  have hB : Below w.heap.size w W := by rw [← hW]; exact (((Below.refl _ _).alloc (Nat.le_refl _) _).alloc (by simp) _).alloc (by simp; omega) _
  have kg : Bk W (w.heap.size) #[.int .i64 a, .int .i64 b, .int .i64 c, .int .i64 d, .int .i64 e, .int .i64 f, .slice ha xs.length hcp] 28 := by rw [← hW]; exact blk_old (blk_old (blk_new _ _ _ (by simp)))
  have kp : Bk W (w.heap.size + 1) #[.int .i64 px, .int .i64 py, .int .i64 pz] 23 := by rw [← hW]; exact blk_old (blk_new _ _ _ (by simp))
  have kq : Bk W (w.heap.size + 1 + 1) #[.int .i64 qx, .int .i64 qy, .int .i64 qz] 23 := by rw [← hW]; exact blk_new _ _ _ (by simp)
  clear hW
  refine (sanity_true _).mono ?_
  rintro _ w1 ⟨rfl, hb0⟩
  replace hB := hB.trans (hb0.mono hB.size)
  replace kg := kg.later hb0
  replace kp := kp.later hb0
  replace kq := kq.later hb0
  replace hSz := Nat.le_trans hSz hb0.size
  clear hb0
  have cg0 := kg.cell 0 rfl
  have cg1 := kg.cell 1 rfl
  have cg2 := kg.cell 2 rfl
  have cg3 := kg.cell 3 rfl
  have cg4 := kg.cell 4 rfl
  have cg5 := kg.cell 5 rfl
  have cg6 := kg.cell 6 rfl
  go_wp2_with fail
  refine (few_no a b c d e f ha xs.length hcp hl _).mono ?_
  rintro _ w2 ⟨rfl, hb0⟩
  replace hB := hB.trans (hb0.mono hB.size)
  replace kg := kg.later hb0
  replace kp := kp.later hb0
  replace kq := kq.later hb0
  replace hSz := Nat.le_trans hSz hb0.size
  clear hb0
  clear cg0 cg1 cg2 cg3 cg4 cg5 cg6
  go_wp2_with fail
  go_ret
  exact ⟨rfl, hB⟩
set_option maxRecDepth 100000 in
set_option maxHeartbeats 8000000 in
theorem shares_level (a b c d e f dd px py pz qx qy qz lv : Int) (ha : Option Addr) (hcp : Nat) (xs : List Int) (w : World) (hl : xs.length ≤ 300) (hlv : 3 < lv) :
    Calls Try.prog 6 #[.agg #[.int .i64 a, .int .i64 b, .int .i64 c, .int .i64 d, .int .i64 e, .int .i64 f, .slice ha xs.length hcp], .int .i64 dd, .agg #[.int .i64 px, .int .i64 py, .int .i64 pz], .agg #[.int .i64 qx, .int .i64 qy, .int .i64 qz], .int .i64 lv] w fun e' w' => e' = .returned (.bool true) ∧ Below w.heap.size w w' := by
  have t0 : decide (3 < lv) = true := by simpa using hlv
  go_enter Try.func6, Try.ntmps6
  go_wp2_with fail
  generalize hW : World.alloc (World.alloc (World.alloc w _) _) _ = W
  have hSz : w.heap.size + 1 + 1 + 1 ≤ W.heap.size := by rw [← hW]; simp
  have hB : Below w.heap.size w W := by rw [← hW]; exact (((Below.refl _ _).alloc (Nat.le_refl _) _).alloc (by simp) _).alloc (by simp; omega) _
  have kg : Bk W (w.heap.size) #[.int .i64 a, .int .i64 b, .int .i64 c, .int .i64 d, .int .i64 e, .int .i64 f, .slice ha xs.length hcp] 28 := by rw [← hW]; exact blk_old (blk_old (blk_new _ _ _ (by simp)))
  have kp : Bk W (w.heap.size + 1) #[.int .i64 px, .int .i64 py, .int .i64 pz] 23 := by rw [← hW]; exact blk_old (blk_new _ _ _ (by simp))
  have kq : Bk W (w.heap.size + 1 + 1) #[.int .i64 qx, .int .i64 qy, .int .i64 qz] 23 := by rw [← hW]; exact blk_new _ _ _ (by simp)
  clear hW
  refine (sanity_true _).mono ?_
  rintro _ w1 ⟨rfl, hb0⟩
  replace hB := hB.trans (hb0.mono hB.size)
  replace kg := kg.later hb0
  replace kp := kp.later hb0
  replace kq := kq.later hb0
  replace hSz := Nat.le_trans hSz hb0.size
  clear hb0
  have cg0 := kg.cell 0 rfl
  have cg1 := kg.cell 1 rfl
  have cg2 := kg.cell 2 rfl
  have cg3 := kg.cell 3 rfl
  have cg4 := kg.cell 4 rfl
  have cg5 := kg.cell 5 rfl
  have cg6 := kg.cell 6 rfl
  go_wp2_with fail
  refine (few_yes a b c d e f ha xs.length hcp hl _).mono ?_
  rintro _ w2 ⟨rfl, hb0⟩
  replace hB := hB.trans (hb0.mono hB.size)
  replace kg := kg.later hb0
  replace kp := kp.later hb0
  replace kq := kq.later hb0
  replace hSz := Nat.le_trans hSz hb0.size
  clear hb0
  clear cg0 cg1 cg2 cg3 cg4 cg5 cg6
  go_wp2_with fail
  go_ret
  exact ⟨rfl, hB⟩
set_option maxRecDepth 100000 in
set_option maxHeartbeats 8000000 in
theorem shares_none (a b c d e f dd px py pz qx qy qz lv : Int) (ha : Option Addr) (hcp : Nat) (xs : List Int) (w : World) (hl : xs.length ≤ 300) (hlv : ¬ 3 < lv) (hsl : Sl w .i64 ha xs) (hE : fromE ⟨⟨a, b, c⟩, ⟨d, e, f⟩⟩ xs dd ≠ 0) :
    Calls Try.prog 6 #[.agg #[.int .i64 a, .int .i64 b, .int .i64 c, .int .i64 d, .int .i64 e, .int .i64 f, .slice ha xs.length hcp], .int .i64 dd, .agg #[.int .i64 px, .int .i64 py, .int .i64 pz], .agg #[.int .i64 qx, .int .i64 qy, .int .i64 qz], .int .i64 lv] w fun e' w' => e' = .returned (.bool true) ∧ Below w.heap.size w w' := by
  have hbu := Bx.mk (fun W h => built_no a b c d e f dd ha hcp xs hl hE W h)
  have hsl := Bx.mk hsl
  clear hE
  have t0 : decide (3 < lv) = false := by simpa using hlv
  go_enter Try.func6, Try.ntmps6
  go_wp2_with fail
  generalize hW : World.alloc (World.alloc (World.alloc w _) _) _ = W
  have hSz : w.heap.size + 1 + 1 + 1 ≤ W.heap.size := by rw [← hW]; simp
  have hB : Below w.heap.size w W := by rw [← hW]; exact (((Below.refl _ _).alloc (Nat.le_refl _) _).alloc (by simp) _).alloc (by simp; omega) _
  have kg : Bk W (w.heap.size) #[.int .i64 a, .int .i64 b, .int .i64 c, .int .i64 d, .int .i64 e, .int .i64 f, .slice ha xs.length hcp] 28 := by rw [← hW]; exact blk_old (blk_old (blk_new _ _ _ (by simp)))
  have kp : Bk W (w.heap.size + 1) #[.int .i64 px, .int .i64 py, .int .i64 pz] 23 := by rw [← hW]; exact blk_old (blk_new _ _ _ (by simp))
  have kq : Bk W (w.heap.size + 1 + 1) #[.int .i64 qx, .int .i64 qy, .int .i64 qz] 23 := by rw [← hW]; exact blk_new _ _ _ (by simp)
  clear hW
  refine (sanity_true _).mono ?_
  rintro _ w1 ⟨rfl, hb0⟩
  replace hB := hB.trans (hb0.mono hB.size)
  replace kg := kg.later hb0
  replace kp := kp.later hb0
  replace kq := kq.later hb0
  replace hSz := Nat.le_trans hSz hb0.size
  clear hb0
  have cg0 := kg.cell 0 rfl
  have cg1 := kg.cell 1 rfl
  have cg2 := kg.cell 2 rfl
  have cg3 := kg.cell 3 rfl
  have cg4 := kg.cell 4 rfl
  have cg5 := kg.cell 5 rfl
  have cg6 := kg.cell 6 rfl
  go_wp2_with fail
  refine (few_yes a b c d e f ha xs.length hcp hl _).mono ?_
  rintro _ w2 ⟨rfl, hb0⟩
  replace hB := hB.trans (hb0.mono hB.size)
  replace kg := kg.later hb0
  replace kp := kp.later hb0
  replace kq := kq.later hb0
  replace hSz := Nat.le_trans hSz hb0.size
  clear hb0
  clear cg0 cg1 cg2 cg3 cg4 cg5 cg6
  have cg0 := kg.cell 0 rfl
  have cg1 := kg.cell 1 rfl
  have cg2 := kg.cell 2 rfl
  have cg3 := kg.cell 3 rfl
  have cg4 := kg.cell 4 rfl
  have cg5 := kg.cell 5 rfl
  have cg6 := kg.cell 6 rfl
  go_wp2_with fail
  refine (hbu.out _ (hsl.out.below hB)).mono ?_
  rintro _ w3 ⟨p, rfl, hb0⟩
  replace hB := hB.trans (hb0.mono hB.size)
  replace kg := kg.later hb0
  replace kp := kp.later hb0
  replace kq := kq.later hb0
  replace hSz := Nat.le_trans hSz hb0.size
  clear hb0
  clear cg0 cg1 cg2 cg3 cg4 cg5 cg6
  go_wp2_with fail
  go_ret
  exact ⟨rfl, hB⟩
set_option maxRecDepth 100000 in
set_option maxHeartbeats 8000000 in
theorem shares_err1 (a b c d e f dd px py pz qx qy qz lv : Int) (ha : Option Addr) (hcp : Nat) (xs : List Int) (w : World) (hl : xs.length ≤ 300) (hlv : ¬ 3 < lv) (hsl : Sl w .i64 ha xs) (i0 ia ea ib eb : Int) (ts : List Tr)
    (hT : Bx (∀ W, Sl W .i64 ha xs → Calls Try.prog 9 #[.agg #[.int .i64 a, .int .i64 b, .int .i64 c, .int .i64 d, .int .i64 e, .int .i64 f, .slice ha xs.length hcp], .int .i64 dd] W fun e' w' => ∃ sb, e' = .returned (.tuple #[.pointer (some ⟨sb, 0, none⟩), .int .i64 i0, .bool true]) ∧ StoreIs w' (fun k => k < W.heap.size) sb 100000 ts ∧ Below W.heap.size W w'))
    (hP0 : Bx (∀ (W : World) (Far : Nat → Prop) (sb : Nat), StoreIs W Far sb 100000 ts → Calls Try.prog 27 #[.pointer (some ⟨sb, 0, none⟩), .int .i64 i0, .int .i64 dd, .agg #[.int .i64 0, .int .i64 0, .int .i64 0], .int .i64 dd] W fun e w' => e = ret2 i0 0 ∧ Below W.heap.size W w'))
    (hPp : Bx (∀ (W : World) (Far : Nat → Prop) (sb : Nat), StoreIs W Far sb 100000 ts → Calls Try.prog 27 #[.pointer (some ⟨sb, 0, none⟩), .int .i64 i0, .int .i64 dd, .agg #[.int .i64 px, .int .i64 py, .int .i64 pz], .int .i64 lv] W fun e w' => e = ret2 ia ea ∧ Below W.heap.size W w'))
    (hPq : Bx (∀ (W : World) (Far : Nat → Prop) (sb : Nat), StoreIs W Far sb 100000 ts → Calls Try.prog 27 #[.pointer (some ⟨sb, 0, none⟩), .int .i64 i0, .int .i64 dd, .agg #[.int .i64 qx, .int .i64 qy, .int .i64 qz], .int .i64 lv] W fun e w' => e = ret2 ib eb ∧ Below W.heap.size W w')) (hz : (ea == 0) = false) :
    Calls Try.prog 6 #[.agg #[.int .i64 a, .int .i64 b, .int .i64 c, .int .i64 d, .int .i64 e, .int .i64 f, .slice ha xs.length hcp], .int .i64 dd, .agg #[.int .i64 px, .int .i64 py, .int .i64 pz], .agg #[.int .i64 qx, .int .i64 qy, .int .i64 qz], .int .i64 lv] w fun e' w' => e' = .returned (.bool true) ∧ Below w.heap.size w w' := by
  have hsl := Bx.mk hsl
  have hat := Bx.mk (fun X Y Z W => at_any' X Y Z W)
  have t0 : decide (3 < lv) = false := by simpa using hlv
  go_enter Try.func6, Try.ntmps6
  go_wp2_with fail
  generalize hW : World.alloc (World.alloc (World.alloc w _) _) _ = W
  have hSz : w.heap.size + 1 + 1 + 1 ≤ W.heap.size := by rw [← hW]; simp
  have hB : Below w.heap.size w W := by rw [← hW]; exact (((Below.refl _ _).alloc (Nat.le_refl _) _).alloc (by simp) _).alloc (by simp; omega) _
  have kg : Bk W (w.heap.size) #[.int .i64 a, .int .i64 b, .int .i64 c, .int .i64 d, .int .i64 e, .int .i64 f, .slice ha xs.length hcp] 28 := by rw [← hW]; exact blk_old (blk_old (blk_new _ _ _ (by simp)))
  have kp : Bk W (w.heap.size + 1) #[.int .i64 px, .int .i64 py, .int .i64 pz] 23 := by rw [← hW]; exact blk_old (blk_new _ _ _ (by simp))
  have kq : Bk W (w.heap.size + 1 + 1) #[.int .i64 qx, .int .i64 qy, .int .i64 qz] 23 := by rw [← hW]; exact blk_new _ _ _ (by simp)
  clear hW
  refine (sanity_true _).mono ?_
  rintro _ w1 ⟨rfl, hb0⟩
  replace hB := hB.trans (hb0.mono hB.size)
  replace kg := kg.later hb0
  replace kp := kp.later hb0
  replace kq := kq.later hb0
  replace hSz := Nat.le_trans hSz hb0.size
  clear hb0
  have cg0 := kg.cell 0 rfl
  have cg1 := kg.cell 1 rfl
  have cg2 := kg.cell 2 rfl
  have cg3 := kg.cell 3 rfl
  have cg4 := kg.cell 4 rfl
  have cg5 := kg.cell 5 rfl
  have cg6 := kg.cell 6 rfl
  go_wp2_with fail
  refine (few_yes a b c d e f ha xs.length hcp hl _).mono ?_
  rintro _ w2 ⟨rfl, hb0⟩
  replace hB := hB.trans (hb0.mono hB.size)
  replace kg := kg.later hb0
  replace kp := kp.later hb0
  replace kq := kq.later hb0
  replace hSz := Nat.le_trans hSz hb0.size
  clear hb0
  clear cg0 cg1 cg2 cg3 cg4 cg5 cg6
  have cg0 := kg.cell 0 rfl
  have cg1 := kg.cell 1 rfl
  have cg2 := kg.cell 2 rfl
  have cg3 := kg.cell 3 rfl
  have cg4 := kg.cell 4 rfl
  have cg5 := kg.cell 5 rfl
  have cg6 := kg.cell 6 rfl
  go_wp2_with fail
  refine (hT.out _ (hsl.out.below hB)).mono ?_
  rintro _ w3 ⟨sb, rfl, hS, hb0⟩
  have hS := Bx.mk hS
  replace hB := hB.trans (hb0.mono hB.size)
  replace kg := kg.later hb0
  replace kp := kp.later hb0
  replace kq := kq.later hb0
  replace hSz := Nat.le_trans hSz hb0.size
  clear hb0
  clear cg0 cg1 cg2 cg3 cg4 cg5 cg6
  clear hT hsl
  go_wp2_with fail
  refine (hat.out _ _ _ _).mono ?_
  rintro _ w4 ⟨rfl, hb0⟩
  replace hS := Bx.mk (hS.out.later hb0)
  replace hB := hB.trans (hb0.mono hB.size)
  replace kg := kg.later hb0
  replace kp := kp.later hb0
  replace kq := kq.later hb0
  replace hSz := Nat.le_trans hSz hb0.size
  clear hb0
  go_wp2_with fail
  refine (hP0.out _ _ _ hS.out).mono ?_
  rintro _ w5 ⟨rfl, hb0⟩
  replace hS := Bx.mk (hS.out.later hb0)
  replace hB := hB.trans (hb0.mono hB.size)
  replace kg := kg.later hb0
  replace kp := kp.later hb0
  replace kq := kq.later hb0
  replace hSz := Nat.le_trans hSz hb0.size
  clear hb0
  have cp0 := kp.cell 0 rfl
  have cp1 := kp.cell 1 rfl
  have cp2 := kp.cell 2 rfl
  go_wp2_with fail
  refine (hPp.out _ _ _ hS.out).mono ?_
  rintro _ w6 ⟨rfl, hb0⟩
  replace hS := Bx.mk (hS.out.later hb0)
  replace hB := hB.trans (hb0.mono hB.size)
  replace kg := kg.later hb0
  replace kp := kp.later hb0
  replace kq := kq.later hb0
  replace hSz := Nat.le_trans hSz hb0.size
  clear hb0
  clear cp0 cp1 cp2
  have cq0 := kq.cell 0 rfl
  have cq1 := kq.cell 1 rfl
  have cq2 := kq.cell 2 rfl
  go_wp2_with fail
  refine (hPq.out _ _ _ hS.out).mono ?_
  rintro _ w7 ⟨rfl, hb0⟩
  replace hS := Bx.mk (hS.out.later hb0)
  replace hB := hB.trans (hb0.mono hB.size)
  replace kg := kg.later hb0
  replace kp := kp.later hb0
  replace kq := kq.later hb0
  replace hSz := Nat.le_trans hSz hb0.size
  clear hb0
  clear cq0 cq1 cq2
  go_wp2_with fail
  go_ret
  exact ⟨rfl, hB⟩
set_option maxRecDepth 100000 in
set_option maxHeartbeats 8000000 in
theorem shares_err2 (a b c d e f dd px py pz qx qy qz lv : Int) (ha : Option Addr) (hcp : Nat) (xs : List Int) (w : World) (hl : xs.length ≤ 300) (hlv : ¬ 3 < lv) (hsl : Sl w .i64 ha xs) (i0 ia ea ib eb : Int) (ts : List Tr)
    (hT : Bx (∀ W, Sl W .i64 ha xs → Calls Try.prog 9 #[.agg #[.int .i64 a, .int .i64 b, .int .i64 c, .int .i64 d, .int .i64 e, .int .i64 f, .slice ha xs.length hcp], .int .i64 dd] W fun e' w' => ∃ sb, e' = .returned (.tuple #[.pointer (some ⟨sb, 0, none⟩), .int .i64 i0, .bool true]) ∧ StoreIs w' (fun k => k < W.heap.size) sb 100000 ts ∧ Below W.heap.size W w'))
    (hP0 : Bx (∀ (W : World) (Far : Nat → Prop) (sb : Nat), StoreIs W Far sb 100000 ts → Calls Try.prog 27 #[.pointer (some ⟨sb, 0, none⟩), .int .i64 i0, .int .i64 dd, .agg #[.int .i64 0, .int .i64 0, .int .i64 0], .int .i64 dd] W fun e w' => e = ret2 i0 0 ∧ Below W.heap.size W w'))
    (hPp : Bx (∀ (W : World) (Far : Nat → Prop) (sb : Nat), StoreIs W Far sb 100000 ts → Calls Try.prog 27 #[.pointer (some ⟨sb, 0, none⟩), .int .i64 i0, .int .i64 dd, .agg #[.int .i64 px, .int .i64 py, .int .i64 pz], .int .i64 lv] W fun e w' => e = ret2 ia ea ∧ Below W.heap.size W w'))
    (hPq : Bx (∀ (W : World) (Far : Nat → Prop) (sb : Nat), StoreIs W Far sb 100000 ts → Calls Try.prog 27 #[.pointer (some ⟨sb, 0, none⟩), .int .i64 i0, .int .i64 dd, .agg #[.int .i64 qx, .int .i64 qy, .int .i64 qz], .int .i64 lv] W fun e w' => e = ret2 ib eb ∧ Below W.heap.size W w')) (hz0 : ea = 0) (hz : (eb == 0) = false) :
    Calls Try.prog 6 #[.agg #[.int .i64 a, .int .i64 b, .int .i64 c, .int .i64 d, .int .i64 e, .int .i64 f, .slice ha xs.length hcp], .int .i64 dd, .agg #[.int .i64 px, .int .i64 py, .int .i64 pz], .agg #[.int .i64 qx, .int .i64 qy, .int .i64 qz], .int .i64 lv] w fun e' w' => e' = .returned (.bool true) ∧ Below w.heap.size w w' := by
  subst hz0
  have hsl := Bx.mk hsl
  have hat := Bx.mk (fun X Y Z W => at_any' X Y Z W)
  have t0 : decide (3 < lv) = false := by simpa using hlv
  go_enter Try.func6, Try.ntmps6
  go_wp2_with fail
  generalize hW : World.alloc (World.alloc (World.alloc w _) _) _ = W
  have hSz : w.heap.size + 1 + 1 + 1 ≤ W.heap.size := by rw [← hW]; simp
  have hB : Below w.heap.size w W := by rw [← hW]; exact (((Below.refl _ _).alloc (Nat.le_refl _) _).alloc (by simp) _).alloc (by simp; omega) _
  have kg : Bk W (w.heap.size) #[.int .i64 a, .int .i64 b, .int .i64 c, .int .i64 d, .int .i64 e, .int .i64 f, .slice ha xs.length hcp] 28 := by rw [← hW]; exact blk_old (blk_old (blk_new _ _ _ (by simp)))
  have kp : Bk W (w.heap.size + 1) #[.int .i64 px, .int .i64 py, .int .i64 pz] 23 := by rw [← hW]; exact blk_old (blk_new _ _ _ (by simp))
  have kq : Bk W (w.heap.size + 1 + 1) #[.int .i64 qx, .int .i64 qy, .int .i64 qz] 23 := by rw [← hW]; exact blk_new _ _ _ (by simp)
  clear hW
  refine (sanity_true _).mono ?_
  rintro _ w1 ⟨rfl, hb0⟩
  replace hB := hB.trans (hb0.mono hB.size)
  replace kg := kg.later hb0
  replace kp := kp.later hb0
  replace kq := kq.later hb0
  replace hSz := Nat.le_trans hSz hb0.size
  clear hb0
  have cg0 := kg.cell 0 rfl
  have cg1 := kg.cell 1 rfl
  have cg2 := kg.cell 2 rfl
  have cg3 := kg.cell 3 rfl
  have cg4 := kg.cell 4 rfl
  have cg5 := kg.cell 5 rfl
  have cg6 := kg.cell 6 rfl
  go_wp2_with fail
  refine (few_yes a b c d e f ha xs.length hcp hl _).mono ?_
  rintro _ w2 ⟨rfl, hb0⟩
  replace hB := hB.trans (hb0.mono hB.size)
  replace kg := kg.later hb0
  replace kp := kp.later hb0
  replace kq := kq.later hb0
  replace hSz := Nat.le_trans hSz hb0.size
  clear hb0
  clear cg0 cg1 cg2 cg3 cg4 cg5 cg6
  have cg0 := kg.cell 0 rfl
  have cg1 := kg.cell 1 rfl
  have cg2 := kg.cell 2 rfl
  have cg3 := kg.cell 3 rfl
  have cg4 := kg.cell 4 rfl
  have cg5 := kg.cell 5 rfl
  have cg6 := kg.cell 6 rfl
  go_wp2_with fail
  refine (hT.out _ (hsl.out.below hB)).mono ?_
  rintro _ w3 ⟨sb, rfl, hS, hb0⟩
  have hS := Bx.mk hS
  replace hB := hB.trans (hb0.mono hB.size)
  replace kg := kg.later hb0
  replace kp := kp.later hb0
  replace kq := kq.later hb0
  replace hSz := Nat.le_trans hSz hb0.size
  clear hb0
  clear cg0 cg1 cg2 cg3 cg4 cg5 cg6
  clear hT hsl
  go_wp2_with fail
  refine (hat.out _ _ _ _).mono ?_
  rintro _ w4 ⟨rfl, hb0⟩
  replace hS := Bx.mk (hS.out.later hb0)
  replace hB := hB.trans (hb0.mono hB.size)
  replace kg := kg.later hb0
  replace kp := kp.later hb0
  replace kq := kq.later hb0
  replace hSz := Nat.le_trans hSz hb0.size
  clear hb0
  go_wp2_with fail
  refine (hP0.out _ _ _ hS.out).mono ?_
  rintro _ w5 ⟨rfl, hb0⟩
  replace hS := Bx.mk (hS.out.later hb0)
  replace hB := hB.trans (hb0.mono hB.size)
  replace kg := kg.later hb0
  replace kp := kp.later hb0
  replace kq := kq.later hb0
  replace hSz := Nat.le_trans hSz hb0.size
  clear hb0
  have cp0 := kp.cell 0 rfl
  have cp1 := kp.cell 1 rfl
  have cp2 := kp.cell 2 rfl
  go_wp2_with fail
  refine (hPp.out _ _ _ hS.out).mono ?_
  rintro _ w6 ⟨rfl, hb0⟩
  replace hS := Bx.mk (hS.out.later hb0)
  replace hB := hB.trans (hb0.mono hB.size)
  replace kg := kg.later hb0
  replace kp := kp.later hb0
  replace kq := kq.later hb0
  replace hSz := Nat.le_trans hSz hb0.size
  clear hb0
  clear cp0 cp1 cp2
  have cq0 := kq.cell 0 rfl
  have cq1 := kq.cell 1 rfl
  have cq2 := kq.cell 2 rfl
  go_wp2_with fail
  refine (hPq.out _ _ _ hS.out).mono ?_
  rintro _ w7 ⟨rfl, hb0⟩
  replace hS := Bx.mk (hS.out.later hb0)
  replace hB := hB.trans (hb0.mono hB.size)
  replace kg := kg.later hb0
  replace kp := kp.later hb0
  replace kq := kq.later hb0
  replace hSz := Nat.le_trans hSz hb0.size
  clear hb0
  clear cq0 cq1 cq2
  go_wp2_with fail
  go_ret
  exact ⟨rfl, hB⟩
set_option maxRecDepth 100000 in
set_option maxHeartbeats 8000000 in
theorem shares_ok (a b c d e f dd px py pz qx qy qz lv : Int) (ha : Option Addr) (hcp : Nat) (xs : List Int) (w : World) (hl : xs.length ≤ 300) (hlv : ¬ 3 < lv) (hsl : Sl w .i64 ha xs) (i0 ia ib : Int) (ts : List Tr) (x0 x1 x2 x3 x4 x5 y0 y1 y2 y3 y4 y5 : Int) (us vs : List Int)
    (hT : Bx (∀ W, Sl W .i64 ha xs → Calls Try.prog 9 #[.agg #[.int .i64 a, .int .i64 b, .int .i64 c, .int .i64 d, .int .i64 e, .int .i64 f, .slice ha xs.length hcp], .int .i64 dd] W fun e' w' => ∃ sb, e' = .returned (.tuple #[.pointer (some ⟨sb, 0, none⟩), .int .i64 i0, .bool true]) ∧ StoreIs w' (fun k => k < W.heap.size) sb 100000 ts ∧ Below W.heap.size W w'))
    (hP0 : Bx (∀ (W : World) (Far : Nat → Prop) (sb : Nat), StoreIs W Far sb 100000 ts → Calls Try.prog 27 #[.pointer (some ⟨sb, 0, none⟩), .int .i64 i0, .int .i64 dd, .agg #[.int .i64 0, .int .i64 0, .int .i64 0], .int .i64 dd] W fun e w' => e = ret2 i0 0 ∧ Below W.heap.size W w'))
    (hPp : Bx (∀ (W : World) (Far : Nat → Prop) (sb : Nat), StoreIs W Far sb 100000 ts → Calls Try.prog 27 #[.pointer (some ⟨sb, 0, none⟩), .int .i64 i0, .int .i64 dd, .agg #[.int .i64 px, .int .i64 py, .int .i64 pz], .int .i64 lv] W fun e w' => e = ret2 ia 0 ∧ Below W.heap.size W w'))
    (hPq : Bx (∀ (W : World) (Far : Nat → Prop) (sb : Nat), StoreIs W Far sb 100000 ts → Calls Try.prog 27 #[.pointer (some ⟨sb, 0, none⟩), .int .i64 i0, .int .i64 dd, .agg #[.int .i64 qx, .int .i64 qy, .int .i64 qz], .int .i64 lv] W fun e w' => e = ret2 ib 0 ∧ Below W.heap.size W w'))
    (hCp : Bx (∀ W, Calls Try.prog 30 #[.agg #[.int .i64 px, .int .i64 py, .int .i64 pz], .int .i64 lv] W fun e w' => e = .returned (.agg #[.int .i64 x0, .int .i64 x1, .int .i64 x2, .int .i64 x3, .int .i64 x4, .int .i64 x5]) ∧ Below W.heap.size W w'))
    (hCq : Bx (∀ W, Calls Try.prog 30 #[.agg #[.int .i64 qx, .int .i64 qy, .int .i64 qz], .int .i64 lv] W fun e w' => e = .returned (.agg #[.int .i64 y0, .int .i64 y1, .int .i64 y2, .int .i64 y3, .int .i64 y4, .int .i64 y5]) ∧ Below W.heap.size W w'))
    (hGp : Bx (∀ (W : World) (Far : Nat → Prop) (sb : Nat), StoreIs W Far sb 100000 ts → Calls Try.prog 29 #[.pointer (some ⟨sb, 0, none⟩), .int .i64 i0, .int .i64 dd, .agg #[.int .i64 x0, .int .i64 x1, .int .i64 x2, .int .i64 x3, .int .i64 x4, .int .i64 x5]] W fun e' w' => ∃ pa pc, e' = .returned (.tuple #[.agg #[.int .i64 x0, .int .i64 x1, .int .i64 x2, .int .i64 x3, .int .i64 x4, .int .i64 x5, .slice pa us.length pc], .int .i64 0]) ∧ Sl w' .i64 pa us ∧ Below W.heap.size W w'))
    (hGq : Bx (∀ (W : World) (Far : Nat → Prop) (sb : Nat), StoreIs W Far sb 100000 ts → Calls Try.prog 29 #[.pointer (some ⟨sb, 0, none⟩), .int .i64 i0, .int .i64 dd, .agg #[.int .i64 y0, .int .i64 y1, .int .i64 y2, .int .i64 y3, .int .i64 y4, .int .i64 y5]] W fun e' w' => ∃ pa pc, e' = .returned (.tuple #[.agg #[.int .i64 y0, .int .i64 y1, .int .i64 y2, .int .i64 y3, .int .i64 y4, .int .i64 y5, .slice pa vs.length pc], .int .i64 0]) ∧ Sl w' .i64 pa vs ∧ Below W.heap.size W w'))
    (hu : us.length ≤ 1000000) (hv : vs.length ≤ 1000000) (hE : ia = ib ↔ us = vs) :
    Calls Try.prog 6 #[.agg #[.int .i64 a, .int .i64 b, .int .i64 c, .int .i64 d, .int .i64 e, .int .i64 f, .slice ha xs.length hcp], .int .i64 dd, .agg #[.int .i64 px, .int .i64 py, .int .i64 pz], .agg #[.int .i64 qx, .int .i64 qy, .int .i64 qz], .int .i64 lv] w fun e' w' => e' = .returned (.bool true) ∧ Below w.heap.size w w' := by
  have hsl := Bx.mk hsl
  have hat := Bx.mk (fun X Y Z W => at_any' X Y Z W)
  have t0 : decide (3 < lv) = false := by simpa using hlv
  go_enter Try.func6, Try.ntmps6
  go_wp2_with fail
  generalize hW : World.alloc (World.alloc (World.alloc w _) _) _ = W
  have hSz : w.heap.size + 1 + 1 + 1 ≤ W.heap.size := by rw [← hW]; simp
  have hB : Below w.heap.size w W := by rw [← hW]; exact (((Below.refl _ _).alloc (Nat.le_refl _) _).alloc (by simp) _).alloc (by simp; omega) _
  have kg : Bk W (w.heap.size) #[.int .i64 a, .int .i64 b, .int .i64 c, .int .i64 d, .int .i64 e, .int .i64 f, .slice ha xs.length hcp] 28 := by rw [← hW]; exact blk_old (blk_old (blk_new _ _ _ (by simp)))
  have kp : Bk W (w.heap.size + 1) #[.int .i64 px, .int .i64 py, .int .i64 pz] 23 := by rw [← hW]; exact blk_old (blk_new _ _ _ (by simp))
  have kq : Bk W (w.heap.size + 1 + 1) #[.int .i64 qx, .int .i64 qy, .int .i64 qz] 23 := by rw [← hW]; exact blk_new _ _ _ (by simp)
  clear hW
  refine (sanity_true _).mono ?_
  rintro _ w1 ⟨rfl, hb0⟩
  replace hB := hB.trans (hb0.mono hB.size)
  replace kg := kg.later hb0
  replace kp := kp.later hb0
  replace kq := kq.later hb0
  replace hSz := Nat.le_trans hSz hb0.size
  clear hb0
  have cg0 := kg.cell 0 rfl
  have cg1 := kg.cell 1 rfl
  have cg2 := kg.cell 2 rfl
  have cg3 := kg.cell 3 rfl
  have cg4 := kg.cell 4 rfl
  have cg5 := kg.cell 5 rfl
  have cg6 := kg.cell 6 rfl
  go_wp2_with fail
  refine (few_yes a b c d e f ha xs.length hcp hl _).mono ?_
  rintro _ w2 ⟨rfl, hb0⟩
  replace hB := hB.trans (hb0.mono hB.size)
  replace kg := kg.later hb0
  replace kp := kp.later hb0
  replace kq := kq.later hb0
  replace hSz := Nat.le_trans hSz hb0.size
  clear hb0
  clear cg0 cg1 cg2 cg3 cg4 cg5 cg6
  have cg0 := kg.cell 0 rfl
  have cg1 := kg.cell 1 rfl
  have cg2 := kg.cell 2 rfl
  have cg3 := kg.cell 3 rfl
  have cg4 := kg.cell 4 rfl
  have cg5 := kg.cell 5 rfl
  have cg6 := kg.cell 6 rfl
  go_wp2_with fail
  refine (hT.out _ (hsl.out.below hB)).mono ?_
  rintro _ w3 ⟨sb, rfl, hS, hb0⟩
  have hS := Bx.mk hS
  replace hB := hB.trans (hb0.mono hB.size)
  replace kg := kg.later hb0
  replace kp := kp.later hb0
  replace kq := kq.later hb0
  replace hSz := Nat.le_trans hSz hb0.size
  clear hb0
  clear cg0 cg1 cg2 cg3 cg4 cg5 cg6
  clear hT hsl
  go_wp2_with fail
  refine (hat.out _ _ _ _).mono ?_
  rintro _ w4 ⟨rfl, hb0⟩
  replace hS := Bx.mk (hS.out.later hb0)
  replace hB := hB.trans (hb0.mono hB.size)
  replace kg := kg.later hb0
  replace kp := kp.later hb0
  replace kq := kq.later hb0
  replace hSz := Nat.le_trans hSz hb0.size
  clear hb0
  go_wp2_with fail
  refine (hP0.out _ _ _ hS.out).mono ?_
  rintro _ w5 ⟨rfl, hb0⟩
  replace hS := Bx.mk (hS.out.later hb0)
  replace hB := hB.trans (hb0.mono hB.size)
  replace kg := kg.later hb0
  replace kp := kp.later hb0
  replace kq := kq.later hb0
  replace hSz := Nat.le_trans hSz hb0.size
  clear hb0
  have cp0 := kp.cell 0 rfl
  have cp1 := kp.cell 1 rfl
  have cp2 := kp.cell 2 rfl
  go_wp2_with fail
  refine (hPp.out _ _ _ hS.out).mono ?_
  rintro _ w6 ⟨rfl, hb0⟩
  replace hS := Bx.mk (hS.out.later hb0)
  replace hB := hB.trans (hb0.mono hB.size)
  replace kg := kg.later hb0
  replace kp := kp.later hb0
  replace kq := kq.later hb0
  replace hSz := Nat.le_trans hSz hb0.size
  clear hb0
  clear cp0 cp1 cp2
  have cq0 := kq.cell 0 rfl
  have cq1 := kq.cell 1 rfl
  have cq2 := kq.cell 2 rfl
  go_wp2_with fail
  refine (hPq.out _ _ _ hS.out).mono ?_
  rintro _ w7 ⟨rfl, hb0⟩
  replace hS := Bx.mk (hS.out.later hb0)
  replace hB := hB.trans (hb0.mono hB.size)
  replace kg := kg.later hb0
  replace kp := kp.later hb0
  replace kq := kq.later hb0
  replace hSz := Nat.le_trans hSz hb0.size
  clear hb0
  clear cq0 cq1 cq2
  have cp0 := kp.cell 0 rfl
  have cp1 := kp.cell 1 rfl
  have cp2 := kp.cell 2 rfl
  go_wp2_with fail
  refine (hCp.out _).mono ?_
  rintro _ w8 ⟨rfl, hb0⟩
  replace hS := Bx.mk (hS.out.later hb0)
  replace hB := hB.trans (hb0.mono hB.size)
  replace kg := kg.later hb0
  replace kp := kp.later hb0
  replace kq := kq.later hb0
  replace hSz := Nat.le_trans hSz hb0.size
  clear hb0
  clear cp0 cp1 cp2
  go_wp2_with fail
  refine (hGp.out _ _ _ hS.out).mono ?_
  rintro _ w9 ⟨pa, pc, rfl, hsu, hb0⟩
  replace hS := Bx.mk (hS.out.later hb0)
  replace hB := hB.trans (hb0.mono hB.size)
  replace kg := kg.later hb0
  replace kp := kp.later hb0
  replace kq := kq.later hb0
  replace hSz := Nat.le_trans hSz hb0.size
  clear hb0
  have kq9 := kq
  have dq0 : ∀ o, (w9.alloc o).cell? ⟨w.heap.size + 1 + 1, 0, none⟩ = some (.int .i64 qx) := fun o => Bk.cell (blk_old kq) 0 rfl
  have dq1 : ∀ o, (w9.alloc o).cell? ⟨w.heap.size + 1 + 1, 1, none⟩ = some (.int .i64 qy) := fun o => Bk.cell (blk_old kq) 1 rfl
  have dq2 : ∀ o, (w9.alloc o).cell? ⟨w.heap.size + 1 + 1, 2, none⟩ = some (.int .i64 qz) := fun o => Bk.cell (blk_old kq) 2 rfl
  go_wp2_with fail
  generalize hW : World.alloc w9 _ = W9
  have hb0 : Below w9.heap.size w9 W9 := by rw [← hW]; exact (Below.refl _ _).alloc (Nat.le_refl _) _
  have ku : Bk W9 w9.heap.size #[.int .i64 x0, .int .i64 x1, .int .i64 x2, .int .i64 x3, .int .i64 x4, .int .i64 x5, .slice pa us.length pc] 28 := by rw [← hW]; exact Bk.new _ _ _
  clear hW dq0 dq1 dq2 kq9
  replace hS := Bx.mk (hS.out.later hb0)
  have hsu := Bx.mk (hsu.below hb0)
  replace hB := hB.trans (hb0.mono hB.size)
  replace kg := kg.later hb0
  replace kp := kp.later hb0
  replace kq := kq.later hb0
  replace hSz := Nat.le_trans hSz hb0.size
  clear hb0
  refine (hCq.out _).mono ?_
  rintro _ w10 ⟨rfl, hb0⟩
  replace hS := Bx.mk (hS.out.later hb0)
  replace hsu := Bx.mk (hsu.out.below hb0)
  replace ku := ku.later hb0
  replace hB := hB.trans (hb0.mono hB.size)
  replace kg := kg.later hb0
  replace kp := kp.later hb0
  replace kq := kq.later hb0
  replace hSz := Nat.le_trans hSz hb0.size
  clear hb0
  go_wp2_with fail
  refine (hGq.out _ _ _ hS.out).mono ?_
  rintro _ w11 ⟨qa, qc, rfl, hsv, hb0⟩
  replace hsu := Bx.mk (hsu.out.below hb0)
  have hsv := Bx.mk hsv
  replace ku := ku.later hb0
  replace hB := hB.trans (hb0.mono hB.size)
  replace kg := kg.later hb0
  replace kp := kp.later hb0
  replace kq := kq.later hb0
  replace hSz := Nat.le_trans hSz hb0.size
  clear hb0
  have du6 : ∀ o, (w11.alloc o).cell? ⟨w9.heap.size, 6, none⟩ = some (.slice pa us.length pc) := fun o => Bk.cell (blk_old ku) 6 rfl
  go_wp2_with fail
  generalize hW : World.alloc w11 _ = W11
  have hb0 : Below w11.heap.size w11 W11 := by rw [← hW]; exact (Below.refl _ _).alloc (Nat.le_refl _) _
  clear hW du6
  replace hsu := Bx.mk (hsu.out.below hb0)
  replace hsv := Bx.mk (hsv.out.below hb0)
  replace hB := hB.trans (hb0.mono hB.size)
  replace kg := kg.later hb0
  replace kp := kp.later hb0
  replace kq := kq.later hb0
  replace hSz := Nat.le_trans hSz hb0.size
  clear hb0
  refine (ref_same pa qa pc qc us vs _ hu hv hsu.out hsv.out).mono ?_
  rintro _ w12 ⟨rfl, hb0⟩
  replace hB := hB.trans (hb0.mono hB.size)
  replace kg := kg.later hb0
  replace kp := kp.later hb0
  replace kq := kq.later hb0
  replace hSz := Nat.le_trans hSz hb0.size
  clear hb0
  have hz : ((ia == ib) == decide (us = vs)) = true := by
    by_cases h : us = vs
    · simp [h, hE.2 h]
    · have h2 : ia ≠ ib := fun e => h (hE.1 e)
      simp [h, h2]
  go_wp2_with fail
  go_ret
  exact ⟨rfl, hB⟩
theorem part_no (w : World) (sb n : Nat) (hn : n ≤ 12) (id px py pz lv : Int) (h : ¬ (inB ⟨px, py, pz⟩ (cubeB (2 ^ (n + 2))) = true ∧ 2 ≤ lv ∧ lv ≤ (n : Int) + 2 ∧ alB lv.toNat ⟨px, py, pz⟩ = true)) :
    Calls Try.prog 27 #[.pointer (some ⟨sb, 0, none⟩), .int .i64 id, .int .i64 ((n : Int) + 2), .agg #[.int .i64 px, .int .i64 py, .int .i64 pz], .int .i64 lv] w fun e w' => e = ret2 0 1 ∧ Below w.heap.size w w' := by
  cases hI : inB ⟨px, py, pz⟩ (cubeB (2 ^ (n + 2))) with
  | false => exact part_in w sb n hn id px py pz lv hI
  | true =>
    by_cases h1 : lv < 2
    · exact part_lo w sb n hn id px py pz lv hI h1
    · by_cases h2 : (n : Int) + 2 < lv
      · exact part_hi w sb n hn id px py pz lv hI h1 h2
      · cases hA : alB lv.toNat ⟨px, py, pz⟩ with
        | true => exact absurd ⟨hI, by omega, by omega, hA⟩ h
        | false =>
          have := part_al w sb n lv.toNat hn (by omega) (by omega) id px py pz hI hA
          rwa [Int.toNat_of_nonneg (by omega)] at this
theorem shares_true (a b c d e f dd px py pz qx qy qz lv : Int) (ha : Option Addr) (hcp : Nat) (xs : List Int) (hcap : xs.length ≤ hcp) (w : World) (hsl : Sl w .i64 ha xs) :
    Calls Try.prog 6 #[.agg #[.int .i64 a, .int .i64 b, .int .i64 c, .int .i64 d, .int .i64 e, .int .i64 f, .slice ha xs.length hcp], .int .i64 dd, .agg #[.int .i64 px, .int .i64 py, .int .i64 pz], .agg #[.int .i64 qx, .int .i64 qy, .int .i64 qz], .int .i64 lv] w fun e' w' => e' = .returned (.bool true) ∧ Below w.heap.size w w' := by
  by_cases hl : xs.length ≤ 300
  · by_cases hlv : 3 < lv
    · exact shares_level a b c d e f dd px py pz qx qy qz lv ha hcp xs w hl hlv
    · by_cases hE : fromE ⟨⟨a, b, c⟩, ⟨d, e, f⟩⟩ xs dd = 0
      · obtain ⟨n, hn, rfl, hV, hC⟩ := fromE_zero hE
        have HX := goodG_of hV hl hcap
        have hF := grid_fn HX hC
        have hT := Bx.mk (fun W h => built_yes a b c d e f ha hcp xs n hn HX hV hC W h)
        have hL : (Tr.add (trF n (cellG ⟨⟨a, b, c⟩, ⟨d, e, f⟩⟩ xs)) []).length ≤ 3901 := by simpa using can_few HX hn good_nil
        have hG := good_fn hn hF good_nil
        have hm := Tr.mem_add (trF n (cellG ⟨⟨a, b, c⟩, ⟨d, e, f⟩⟩ xs)) []
        clear HX hE hV hC
        generalize (cellG ⟨⟨a, b, c⟩, ⟨d, e, f⟩⟩ xs) = F at *
        generalize Tr.add (trF n F) [] = ts at *
        have hpart := fun W (Far : Nat → Prop) sb px py pz (L : Nat) (hI : inB ⟨px, py, pz⟩ (cubeB (2 ^ (n + 2))) = true) (h2 : 2 ≤ L) (hL2 : L ≤ n + 2) (hA : alB L ⟨px, py, pz⟩ = true) (hS : StoreIs W Far sb 100000 ts) => part_ok W sb n L hn h2 hL2 px py pz hI hA Far 100000 ts (trF n F) hm (dep_can F n _) hG (by omega) hS
        have hpm := Tr.pow_pos2 n
        have hP0 : Bx (∀ (W : World) (Far : Nat → Prop) (sb : Nat), StoreIs W Far sb 100000 ts → Calls Try.prog 27 #[.pointer (some ⟨sb, 0, none⟩), .int .i64 (idT ts (trF n F) : Int), .int .i64 ((n : Int) + 2), .agg #[.int .i64 0, .int .i64 0, .int .i64 0], .int .i64 ((n : Int) + 2)] W fun e w' => e = ret2 (idT ts (trF n F) : Int) 0 ∧ Below W.heap.size W w') := ⟨fun W Far sb hS => by
          have := hpart W Far sb 0 0 0 (n + 2) (inB_iff.2 (by simp only [cubeB, Pt.zero]; omega)) (by omega) (Nat.le_refl _) (alB_iff.2 (by unfold AlP; simp)) hS
          rw [part_whole, show ((n + 2 : Nat) : Int) = (n : Int) + 2 by omega] at this
          exact this⟩
        have hPy : ∀ px py pz, inB ⟨px, py, pz⟩ (cubeB (2 ^ (n + 2))) = true ∧ 2 ≤ lv ∧ lv ≤ (n : Int) + 2 ∧ alB lv.toNat ⟨px, py, pz⟩ = true → Bx (∀ (W : World) (Far : Nat → Prop) (sb : Nat), StoreIs W Far sb 100000 ts → Calls Try.prog 27 #[.pointer (some ⟨sb, 0, none⟩), .int .i64 (idT ts (trF n F) : Int), .int .i64 ((n : Int) + 2), .agg #[.int .i64 px, .int .i64 py, .int .i64 pz], .int .i64 lv] W fun e w' => e = ret2 (idT ts (partT (trF n F) n lv.toNat ⟨px, py, pz⟩) : Int) 0 ∧ Below W.heap.size W w') := fun px py pz h => ⟨fun W Far sb hS => by
          have := hpart W Far sb px py pz lv.toNat h.1 (by omega) (by omega) h.2.2.2 hS
          rwa [Int.toNat_of_nonneg (by omega)] at this⟩
        have hPn : ∀ px py pz, ¬ (inB ⟨px, py, pz⟩ (cubeB (2 ^ (n + 2))) = true ∧ 2 ≤ lv ∧ lv ≤ (n : Int) + 2 ∧ alB lv.toNat ⟨px, py, pz⟩ = true) → Bx (∀ (W : World) (Far : Nat → Prop) (sb : Nat), StoreIs W Far sb 100000 ts → Calls Try.prog 27 #[.pointer (some ⟨sb, 0, none⟩), .int .i64 (idT ts (trF n F) : Int), .int .i64 ((n : Int) + 2), .agg #[.int .i64 px, .int .i64 py, .int .i64 pz], .int .i64 lv] W fun e w' => e = ret2 0 1 ∧ Below W.heap.size W w') := fun px py pz h => ⟨fun W Far sb hS => part_no W sb n hn _ px py pz lv h⟩
        by_cases hp : inB ⟨px, py, pz⟩ (cubeB (2 ^ (n + 2))) = true ∧ 2 ≤ lv ∧ lv ≤ (n : Int) + 2 ∧ alB lv.toNat ⟨px, py, pz⟩ = true
        · by_cases hq : inB ⟨qx, qy, qz⟩ (cubeB (2 ^ (n + 2))) = true ∧ 2 ≤ lv ∧ lv ≤ (n : Int) + 2 ∧ alB lv.toNat ⟨qx, qy, qz⟩ = true
          · have hPp := hPy _ _ _ hp
            have hPq := hPy _ _ _ hq
            clear hPy hPn hpart
            obtain ⟨L, rfl⟩ : ∃ L : Nat, lv = (L : Int) := ⟨lv.toNat, by omega⟩
            simp only [Int.toNat_natCast] at hp hq hPp hPq
            have hcube := fun px py pz (h : inB ⟨px, py, pz⟩ (cubeB (2 ^ (n + 2))) = true) => Bx.mk (fun W => cube9_any px py pz L (by omega) (in_range hn h).1 (in_range hn h).2.1 (in_range hn h).2.2 W)
            have hgr : ∀ px py pz, inB ⟨px, py, pz⟩ (cubeB (2 ^ (n + 2))) = true → Bx (∀ (W : World) (Far : Nat → Prop) (sb : Nat), StoreIs W Far sb 100000 ts → Calls Try.prog 29 #[.pointer (some ⟨sb, 0, none⟩), .int .i64 (idT ts (trF n F) : Int), .int .i64 ((n : Int) + 2), .agg #[.int .i64 px, .int .i64 py, .int .i64 pz, .int .i64 (px + 2 ^ L), .int .i64 (py + 2 ^ L), .int .i64 (pz + 2 ^ L)]] W fun e' w' => ∃ pa pc, e' = .returned (.tuple #[.agg #[.int .i64 px, .int .i64 py, .int .i64 pz, .int .i64 (px + 2 ^ L), .int .i64 (py + 2 ^ L), .int .i64 (pz + 2 ^ L), .slice pa (cellsOf (cb ⟨px, py, pz⟩ L) F).length pc], .int .i64 0]) ∧ Sl w' .i64 pa (cellsOf (cb ⟨px, py, pz⟩ L) F) ∧ Below W.heap.size W w') := fun px py pz h => ⟨fun W Far sb hS => by
              obtain ⟨h0, hs, hv, h512⟩ := cb_new hn (show L ≤ 3 by omega) h
              have := grid_full W Far sb 100000 ts n F hn hF hG (by omega) hm hS px py pz (px + 2 ^ L) (py + 2 ^ L) (pz + 2 ^ L) h0 (cb_full ⟨px, py, pz⟩ L) _ hv hs (by omega)
              have hlen : (cellsOf (cb ⟨px, py, pz⟩ L) F).length = 2 ^ L * 2 ^ L * 2 ^ L := by rw [cellsOf_length, hv, Int.toNat_natCast]
              rw [hlen]
              exact this⟩
            have hlen : ∀ px py pz, inB ⟨px, py, pz⟩ (cubeB (2 ^ (n + 2))) = true → (cellsOf (cb ⟨px, py, pz⟩ L) F).length ≤ 1000000 := fun px py pz h => by
              obtain ⟨h0, hs, hv, h512⟩ := cb_new hn (show L ≤ 3 by omega) h
              rw [cellsOf_length, hv, Int.toNat_natCast]; omega
            refine shares_ok a b c d e f _ px py pz qx qy qz _ ha hcp xs w hl hlv hsl _ _ _ ts _ _ _ _ _ _ _ _ _ _ _ _ (cellsOf (cb ⟨px, py, pz⟩ L) F) (cellsOf (cb ⟨qx, qy, qz⟩ L) F) hT hP0 hPp hPq (hcube _ _ _ hp.1) (hcube _ _ _ hq.1) (hgr _ _ _ hp.1) (hgr _ _ _ hq.1) (hlen _ _ _ hp.1) (hlen _ _ _ hq.1) ?_
            rw [← parts_eq (by omega) (by omega) hp.1 hq.1 (alB_iff.1 hp.2.2.2) (alB_iff.1 hq.2.2.2)]
            exact ⟨fun e => idT_inj (partT_in hG L _ n _ hm (dep_can F n _)) (partT_in hG L _ n _ hm (dep_can F n _)) (Int.ofNat_inj.1 e), fun e => by rw [e]⟩
          · exact shares_err2 a b c d e f _ px py pz qx qy qz lv ha hcp xs w hl hlv hsl _ _ 0 _ _ ts hT hP0 (hPy _ _ _ hp) (hPn _ _ _ hq) rfl (by decide)
        · by_cases hq : inB ⟨qx, qy, qz⟩ (cubeB (2 ^ (n + 2))) = true ∧ 2 ≤ lv ∧ lv ≤ (n : Int) + 2 ∧ alB lv.toNat ⟨qx, qy, qz⟩ = true
          · exact shares_err1 a b c d e f _ px py pz qx qy qz lv ha hcp xs w hl hlv hsl _ _ _ _ _ ts hT hP0 (hPn _ _ _ hp) (hPy _ _ _ hq) (by decide)
          · exact shares_err1 a b c d e f _ px py pz qx qy qz lv ha hcp xs w hl hlv hsl _ _ _ _ _ ts hT hP0 (hPn _ _ _ hp) (hPn _ _ _ hq) (by decide)
      · exact shares_none a b c d e f dd px py pz qx qy qz lv ha hcp xs w hl hlv hsl hE
  · exact shares_many a b c d e f dd px py pz qx qy qz lv ha hcp xs w hl
end Go.Proofs.Ytabclecmehdeoaa
end
