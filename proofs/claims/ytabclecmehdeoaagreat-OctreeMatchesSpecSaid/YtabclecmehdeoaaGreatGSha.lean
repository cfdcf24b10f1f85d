import Derived.Test.YtabclecmehdeoaaGreatGCan
import Derived.Test.YtabclecmehdeoaaGreatGGri
section
/- Parts of a tree, and the cells of their cubes. No program. -/
namespace Go.Proofs.YtabclecmehdeoaaGreat
open Oct

/-- f, seen from d -/
def shf (d : Pt) (f : Pt → Int) : Pt → Int := fun o => f ⟨d.x + o.x, d.y + o.y, d.z + o.z⟩
theorem can_shift (d : Pt) (f : Pt → Int) : ∀ (n : Nat) (b : Pt), Tr.can (shf d f) n b = Tr.can f n ⟨d.x + b.x, d.y + b.y, d.z + b.z⟩
  | 0, b => by
    unfold Tr.can
    congr 1
    apply List.map_congr_left
    intro k _
    unfold shf Tr.cellAt
    simp only [Int.add_assoc]
  | n + 1, b => by
    unfold Tr.can
    congr 1
    funext i
    rw [can_shift d f n]
    unfold Tr.cor
    simp only [Int.add_assoc]
theorem can_at (f : Pt → Int) (n : Nat) (p : Pt) : Tr.can f n p = Tr.can (shf p f) n ⟨0, 0, 0⟩ := by
  rw [can_shift]
  simp
/-- a corner at a level -/
def AlP (L : Nat) (p : Pt) : Prop := p.x % 2 ^ L = 0 ∧ p.y % 2 ^ L = 0 ∧ p.z % 2 ^ L = 0
theorem mod_pow {a : Int} {i j : Nat} (h : a % 2 ^ j = 0) (hij : i ≤ j) : a % 2 ^ i = 0 := by
  obtain ⟨k, rfl⟩ := Nat.exists_eq_add_of_le hij
  rw [Int.pow_add] at h
  have h1 : (2 : Int) ^ i ∣ a := Int.dvd_trans (Int.dvd_mul_right _ _) (Int.dvd_of_emod_eq_zero h)
  exact Int.emod_eq_zero_of_dvd h1
theorem corner_eq {m : Nat} {a p : Pt} (ha : Tr.Al m a) (hI : Tr.InC m a p) (hp : AlP (m + 2) p) : p = a := by
  obtain ⟨a1, a2, a3⟩ := ha
  obtain ⟨i1, i2, i3⟩ := hI
  obtain ⟨p1, p2, p3⟩ := hp
  have e1 := Int.mul_ediv_add_emod p.x (2 ^ (m + 2))
  have e2 := Int.mul_ediv_add_emod p.y (2 ^ (m + 2))
  have e3 := Int.mul_ediv_add_emod p.z (2 ^ (m + 2))
  have f1 := Int.mul_ediv_add_emod a.x (2 ^ (m + 2))
  have f2 := Int.mul_ediv_add_emod a.y (2 ^ (m + 2))
  have f3 := Int.mul_ediv_add_emod a.z (2 ^ (m + 2))
  rw [i1, p1] at e1
  rw [i2, p2] at e2
  rw [i3, p3] at e3
  rw [a1] at f1
  rw [a2] at f2
  rw [a3] at f3
  cases p; cases a
  simp only [Pt.mk.injEq] at *
  omega
theorem partT_kid {t : Tr} {m L : Nat} {p : Pt} (hD : Dep (m + 1) t) (hL : L < m + 3) : partT t (m + 1) L p = partT (t.kid (Tr.oct m p)) m L p := by
  cases hD with
  | uni _ c => rw [partT_uni]; exact partT_uni.symm
  | node _ ch hch => rw [partT_node hL]; rfl
theorem partT_can (f : Pt → Int) : ∀ (m L : Nat) (a p : Pt), Tr.Al m a → Tr.InC m a p → 2 ≤ L → L ≤ m + 2 → AlP L p → partT (Tr.can f m a) m L p = Tr.can f (L - 2) p
  | 0, L, a, p, ha, hI, h2, hL, hp => by
    obtain rfl : L = 2 := by omega
    rw [partT_stop (by omega), corner_eq ha hI hp]
  | m + 1, L, a, p, ha, hI, h2, hL, hp => by
    by_cases h : L < m + 3
    · rw [partT_kid (dep_can f (m + 1) a) h]
      have e : (Tr.can f (m + 1) a).kid (Tr.oct m p) = Tr.can f m (Tr.cor a m (Tr.oct m p).val) := Tr.mkInner_kid _ _ _
      rw [e]
      exact partT_can f m L _ p (Tr.al_cor ha _) (Tr.inC_step ha hI) h2 (by omega) hp
    · obtain rfl : L = m + 1 + 2 := by omega
      rw [partT_stop (by omega), corner_eq ha hI hp]
      rfl
/-- the cube at p -/
def cb (p : Pt) (L : Nat) : Box := ⟨p, ⟨p.x + 2 ^ L, p.y + 2 ^ L, p.z + 2 ^ L⟩⟩
theorem pow_posI (L : Nat) : (0 : Int) < 2 ^ L := Int.pow_pos (by decide)
theorem cb_full (p : Pt) (L : Nat) : emptyB (cb p L) = false := by
  have := pow_posI L
  exact emptyB_iff.2 ⟨by simp [cb]; omega, by simp [cb]; omega, by simp [cb]; omega⟩
theorem cb_size (p : Pt) (L : Nat) : sizeB (cb p L) = ⟨2 ^ L, 2 ^ L, 2 ^ L⟩ := by
  rw [sizeB_full (cb_full p L)]
  simp only [cb, Pt.sub, Pt.mk.injEq]
  omega
theorem cb_vol (p : Pt) (L : Nat) : volB (cb p L) = 2 ^ L * 2 ^ L * 2 ^ L := by unfold volB; rw [cb_size]
theorem cb_cells (p : Pt) (L : Nat) (f : Pt → Int) : cellsOf (cb p L) f = cellsOf (cb ⟨0, 0, 0⟩ L) (shf p f) := by
  unfold cellsOf
  rw [cb_vol, cb_vol]
  apply List.map_congr_left
  intro i hi
  have hi := List.mem_range.1 hi
  unfold atB shf
  rw [cb_vol, cb_vol, if_pos (by omega), if_pos (by omega), cb_size, cb_size]
  simp [cb]
theorem inC_cb {m : Nat} {o : Pt} : Tr.InC m ⟨0, 0, 0⟩ o ↔ inB o (cb ⟨0, 0, 0⟩ (m + 2)) = true := by
  have e : cb ⟨0, 0, 0⟩ (m + 2) = cubeB (2 ^ (m + 2)) := by simp [cb, cubeB, Pt.zero]
  rw [e]
  exact ⟨in_of_inC, inC_of_in⟩
theorem parts_eq {f : Pt → Int} {n L : Nat} {p q : Pt} (h2 : 2 ≤ L) (hL : L ≤ n + 2) (hp : inB p (cubeB (2 ^ (n + 2))) = true) (hq : inB q (cubeB (2 ^ (n + 2))) = true) (ap : AlP L p) (aq : AlP L q) :
    partT (trF n f) n L p = partT (trF n f) n L q ↔ cellsOf (cb p L) f = cellsOf (cb q L) f := by
  rw [partT_can f n L _ p (al_zero n) (inC_of_in hp) h2 hL ap, partT_can f n L _ q (al_zero n) (inC_of_in hq) h2 hL aq, can_at f (L - 2) p, can_at f (L - 2) q, Tr.can_iff _ _ (al_zero _), cb_cells p, cb_cells q]
  obtain ⟨m, rfl⟩ := Nat.exists_eq_add_of_le h2
  rw [show 2 + m - 2 = m by omega]
  rw [show 2 + m = m + 2 by omega]
  exact ⟨fun h => cellsOf_congr fun o ho => h o (inC_cb.2 ho), fun h o ho => cellsOf_inj h (inC_cb.1 ho)⟩
theorem part_whole (f : Pt → Int) (n : Nat) : partT (trF n f) n (n + 2) ⟨0, 0, 0⟩ = trF n f := partT_stop (by omega)
theorem alB_iff {L : Nat} {p : Pt} : alB L p = true ↔ AlP L p := by unfold alB AlP; simp
theorem cb_new {p : Pt} {L n : Nat} (hn : n ≤ 12) (hL : L ≤ 3) (hp : inB p (cubeB (2 ^ (n + 2))) = true) : newE (cb p L) 0 = 0 ∧ Small (cb p L) 1048575 ∧ volB (cb p L) = ((2 ^ L * 2 ^ L * 2 ^ L : Nat) : Int) ∧ 2 ^ L * 2 ^ L * 2 ^ L ≤ 512 := by
  have hm := (pow_le (show n + 2 ≤ 14 by omega)).2
  have h := inB_iff.1 hp
  simp only [cubeB, Pt.zero] at h
  have hv := cb_vol p L
  have hl : L = 0 ∨ L = 1 ∨ L = 2 ∨ L = 3 := by omega
  have hS : Small (cb p L) 1048575 := by
    rcases hl with rfl | rfl | rfl | rfl <;> constructor <;> simp only [cb] <;> omega
  refine ⟨?_, hS, by rw [hv]; simp, by rcases hl with rfl | rfl | rfl | rfl <;> decide⟩
  unfold newE
  rw [if_neg, if_neg]
  · rw [hv]; rcases hl with rfl | rfl | rfl | rfl <;> decide
  · have h1 : okB (cb p L) = true := by
      unfold okB
      rw [Bool.and_eq_true, okP_iff, okP_iff]
      rcases hl with rfl | rfl | rfl | rfl <;> simp only [cb] <;> omega
    rw [h1]
    decide
end Go.Proofs.YtabclecmehdeoaaGreat
end
section
/- voxelref09.side, Cube, by the program. -/
namespace Go.Proofs.YtabclecmehdeoaaGreat
open Go.RowKit Go.Sort Go.Maps
open Oct

theorem side_any (L : Nat) (hL : L ≤ 14) (w : World) :
    Calls Tryz.prog 80 #[.int .i64 (L : Int)] w fun e w' => e = .returned (.int .i64 ((2 : Int) ^ L)) ∧ w = w' := by
  go_enter Tryz.func80, Tryz.ntmps80
  go_wp2_with fail
  go_loop [3, 4] (fun v3 v4 => ∃ k : Nat, k ≤ L ∧ v4 = .int .i64 k ∧ v3 = .int .i64 ((2 : Int) ^ k)) (fun _ i => L - (intOf i).toNat)
  case atStart => exact ⟨0, Nat.zero_le _, rfl, rfl⟩
  case round =>
    obtain ⟨k, hk, rfl, rfl⟩ := hrel
    by_cases hlt : k < L
    · have t0 : decide ((k : Int) < (L : Int)) = true := by simp; omega
      have hp := (pow_le (show k ≤ 14 by omega))
      have hp2 := (pow_le (show k + 1 ≤ 14 by omega))
      have hs : (2 : Int) * 2 ^ k = 2 ^ (k + 1) := by rw [Int.pow_succ]; omega
      have hw : IntKind.i64.wrap ((2 : Int) * 2 ^ k) = 2 ^ (k + 1) := by rw [hs]; exact IntWalk.i64_in _ (by omega)
      generalize hq : (2 : Int) ^ k = q at *
      generalize hr : (2 : Int) ^ (k + 1) = r at *
      go_wp2_with fail
      go_round
      case rel => exact ⟨k + 1, by omega, by go_num, by rw [hr]⟩
      case measure => simp [intOf]; omega
    · obtain rfl : k = L := by omega
      have t0 : decide ((k : Int) < (k : Int)) = false := by simp
      go_wp2_with fail
      go_ret
      exact ⟨rfl, rfl⟩
set_option maxRecDepth 100000 in
theorem cube9_any (px py pz : Int) (L : Nat) (hL : L ≤ 14) (hx : 0 ≤ px ∧ px ≤ 100000) (hy : 0 ≤ py ∧ py ≤ 100000) (hz : 0 ≤ pz ∧ pz ≤ 100000) (w : World) :
    Calls Tryz.prog 46 #[.agg #[.int .i64 px, .int .i64 py, .int .i64 pz], .int .i64 (L : Int)] w fun e w' => e = .returned (.agg #[.int .i64 px, .int .i64 py, .int .i64 pz, .int .i64 (px + 2 ^ L), .int .i64 (py + 2 ^ L), .int .i64 (pz + 2 ^ L)]) ∧ Below w.heap.size w w' := by
  have hsd := fun W => side_any L hL W
  have hp := (pow_le hL)
  generalize hm : (2 : Int) ^ L = m at *
  have hsd := Bx.mk hsd
  have t1 := IntWalk.i64_in (px + m) (by omega)
  have t2 := IntWalk.i64_in (py + m) (by omega)
  have t3 := IntWalk.i64_in (pz + m) (by omega)
  clear hp hx hy hz hm
  go_enter Tryz.func46, Tryz.ntmps46
  go_wp2_with fail
  generalize hW : World.alloc (World.alloc w _) _ = W
  have hSz : w.heap.size + 1 + 1 ≤ W.heap.size := by rw [← hW]; simp
  have hB : Below w.heap.size w W := by rw [← hW]; exact ((Below.refl _ _).alloc (Nat.le_refl _) _).alloc (by simp) _
  have kp : Bk W (w.heap.size) #[.int .i64 px, .int .i64 py, .int .i64 pz] 23 := by rw [← hW]; exact blk_old (blk_new _ _ _ (by simp))
  have kr : Bk W (w.heap.size + 1) #[.int .i64 0, .int .i64 0, .int .i64 0, .int .i64 0, .int .i64 0, .int .i64 0] 25 := by rw [← hW]; exact blk_new _ _ _ (by simp)
  clear hW
  refine (hsd.out _).mono ?_
  rintro _ _ ⟨rfl, rfl⟩
  have cp0 := kp.cell 0 rfl
  have cp1 := kp.cell 1 rfl
  have cp2 := kp.cell 2 rfl
  have cr0 := kr.cell 0 rfl
  have cr1 := kr.cell 1 rfl
  have cr2 := kr.cell 2 rfl
  have cr3 := kr.cell 3 rfl
  have cr4 := kr.cell 4 rfl
  have cr5 := kr.cell 5 rfl
  have fr0 := kr.frozen 0
  have fr1 := kr.frozen 1
  have fr2 := kr.frozen 2
  have fr3 := kr.frozen 3
  have fr4 := kr.frozen 4
  have fr5 := kr.frozen 5
  go_wp2_with fail
  replace kr := kr.put6 (.int .i64 px) (.int .i64 py) (.int .i64 pz) (.int .i64 (px + m)) (.int .i64 (py + m)) (.int .i64 (pz + m))
  clear cr0 cr1 cr2 cr3 cr4 cr5
  have z0 := kr.cell 0 rfl
  have z1 := kr.cell 1 rfl
  have z2 := kr.cell 2 rfl
  have z3 := kr.cell 3 rfl
  have z4 := kr.cell 4 rfl
  have z5 := kr.cell 5 rfl
  exact bodyPost_ret (v := .agg #[.int .i64 px, .int .i64 py, .int .i64 pz, .int .i64 (px + m), .int .i64 (py + m), .int .i64 (pz + m)]) (results_cell_row rfl _ _ (w.heap.size + 1) 25 #[.int .i64 px, .int .i64 py, .int .i64 pz, .int .i64 (px + m), .int .i64 (py + m), .int .i64 (pz + m)] (0, 0) _ rfl kr Tryz.underlying25 rfl (by kernel_rfl)) rfl ⟨rfl, blw6 hB (by omega) _ _ _ _ _ _⟩
end Go.Proofs.YtabclecmehdeoaaGreat
end
section
/- The walk of OctreeSharesParts. -/
namespace Go.Proofs.YtabclecmehdeoaaGreat
open Go.RowKit Go.Sort Go.Maps
open Oct

theorem part_no (w : World) (sb n : Nat) (hn : n ≤ 12) (id px py pz lv : Int) (h : ¬ (inB ⟨px, py, pz⟩ (cubeB (2 ^ (n + 2))) = true ∧ 2 ≤ lv ∧ lv ≤ (n : Int) + 2 ∧ alB lv.toNat ⟨px, py, pz⟩ = true)) :
    Calls Tryz.prog 17 #[.pointer (some ⟨sb, 0, none⟩), .int .i64 id, .int .i64 ((n : Int) + 2), .agg #[.int .i64 px, .int .i64 py, .int .i64 pz], .int .i64 lv] w fun e w' => e = ret2 0 1 ∧ Below w.heap.size w w' := by
  cases hI : inB ⟨px, py, pz⟩ (cubeB (2 ^ (n + 2))) with
  | false => exact part_in w sb n hn id px py pz lv hI
  | true =>
    by_cases h1 : lv < 2
    · exact part_lo w sb n hn id px py pz lv hI h1
    · by_cases h2 : (n : Int) + 2 < lv
      · exact part_hi w sb n hn id px py pz lv hI h1 h2
      · cases hA : alB lv.toNat ⟨px, py, pz⟩ with
        | true => exact absurd ⟨hI, by omega, by omega, hA⟩ h
        | false =>
          have := part_al w sb n lv.toNat hn (by omega) (by omega) id px py pz hI hA
          rwa [Int.toNat_of_nonneg (by omega)] at this
end Go.Proofs.YtabclecmehdeoaaGreat
end
