import Derived.Test.YtabclecmehdeoaaGGen
section
/- The walk of OctreeKeepsOldTrees. -/
namespace Go.Proofs.Ytabclecmehdeoaa
open Go.RowKit Go.Sort Go.Maps
open Oct

set_option maxRecDepth 100000 in
set_option maxHeartbeats 4000000 in
theorem keeps_many (a b c d e f dd x y z k px py pz : Int) (ha : Option Addr) (hcp : Nat) (xs : List Int) (w : World) (hl : ¬ xs.length ≤ 300) :
    Calls Try.prog 4 #[.agg #[.int .i64 a, .int .i64 b, .int .i64 c, .int .i64 d, .int .i64 e, .int .i64 f, .slice ha xs.length hcp], .int .i64 dd, .agg #[.int .i64 x, .int .i64 y, .int .i64 z, .int .i64 k], .agg #[.int .i64 px, .int .i64 py, .int .i64 pz]] w fun e' w' => e' = .returned (.bool true) ∧ Below w.heap.size w w' := by
  go_enter Try.func4, Try.ntmps4
  go_wp2_with fail
  generalize hW : World.alloc (World.alloc (World.alloc w _) _) _ = W
  have hSz : w.heap.size + 1 + 1 + 1 ≤ W.heap.size := by rw [← hW]; simp
  have hB : Below w.heap.size w W := by rw [← hW]; exact (((Below.refl _ _).alloc (Nat.le_refl _) _).alloc (by simp) _).alloc (by simp; omega) _
  have kg : Bk W (w.heap.size) #[.int .i64 a, .int .i64 b, .int .i64 c, .int .i64 d, .int .i64 e, .int .i64 f, .slice ha xs.length hcp] 28 := by rw [← hW]; exact blk_old (blk_old (blk_new _ _ _ (by simp)))
  have kx : Bk W (w.heap.size + 1) #[.int .i64 x, .int .i64 y, .int .i64 z, .int .i64 k] 44 := by rw [← hW]; exact blk_old (blk_new _ _ _ (by simp))
  have kp : Bk W (w.heap.size + 1 + 1) #[.int .i64 px, .int .i64 py, .int .i64 pz] 23 := by rw [← hW]; exact blk_new _ _ _ (by simp)
  clear hW
  refine (sanity_true _).mono ?_
  rintro _ w1 ⟨rfl, hb⟩
  replace hB := hB.trans (hb.mono hB.size)
  replace kg := kg.later hb
  replace kx := kx.later hb
  replace kp := kp.later hb
  replace hSz := Nat.le_trans hSz hb.size
  clear hb
  have cg0 := kg.cell 0 rfl
  have cg1 := kg.cell 1 rfl
  have cg2 := kg.cell 2 rfl
  have cg3 := kg.cell 3 rfl
  have cg4 := kg.cell 4 rfl
  have cg5 := kg.cell 5 rfl
  have cg6 := kg.cell 6 rfl
  go_wp2_with fail
  refine (few_no a b c d e f ha xs.length hcp hl _).mono ?_
  rintro _ w2 ⟨rfl, hb⟩
  replace hB := hB.trans (hb.mono hB.size)
  replace kg := kg.later hb
  replace kx := kx.later hb
  replace kp := kp.later hb
  replace hSz := Nat.le_trans hSz hb.size
  clear hb
  clear cg0 cg1 cg2 cg3 cg4 cg5 cg6
  go_wp2_with fail
  go_ret
  exact ⟨rfl, hB⟩
set_option maxRecDepth 100000 in
set_option maxHeartbeats 4000000 in
theorem keeps_none (a b c d e f dd x y z k px py pz : Int) (ha : Option Addr) (hcp : Nat) (xs : List Int) (w : World) (hl : xs.length ≤ 300) (hsl : Sl w .i64 ha xs) (hE : fromE ⟨⟨a, b, c⟩, ⟨d, e, f⟩⟩ xs dd ≠ 0) :
    Calls Try.prog 4 #[.agg #[.int .i64 a, .int .i64 b, .int .i64 c, .int .i64 d, .int .i64 e, .int .i64 f, .slice ha xs.length hcp], .int .i64 dd, .agg #[.int .i64 x, .int .i64 y, .int .i64 z, .int .i64 k], .agg #[.int .i64 px, .int .i64 py, .int .i64 pz]] w fun e' w' => e' = .returned (.bool true) ∧ Below w.heap.size w w' := by
  have hbu := Bx.mk (fun W h => built_no a b c d e f dd ha hcp xs hl hE W h)
  have hsl := Bx.mk hsl
  clear hE
  go_enter Try.func4, Try.ntmps4
  go_wp2_with fail
  generalize hW : World.alloc (World.alloc (World.alloc w _) _) _ = W
  have hSz : w.heap.size + 1 + 1 + 1 ≤ W.heap.size := by rw [← hW]; simp
  have hB : Below w.heap.size w W := by rw [← hW]; exact (((Below.refl _ _).alloc (Nat.le_refl _) _).alloc (by simp) _).alloc (by simp; omega) _
  have kg : Bk W (w.heap.size) #[.int .i64 a, .int .i64 b, .int .i64 c, .int .i64 d, .int .i64 e, .int .i64 f, .slice ha xs.length hcp] 28 := by rw [← hW]; exact blk_old (blk_old (blk_new _ _ _ (by simp)))
  have kx : Bk W (w.heap.size + 1) #[.int .i64 x, .int .i64 y, .int .i64 z, .int .i64 k] 44 := by rw [← hW]; exact blk_old (blk_new _ _ _ (by simp))
  have kp : Bk W (w.heap.size + 1 + 1) #[.int .i64 px, .int .i64 py, .int .i64 pz] 23 := by rw [← hW]; exact blk_new _ _ _ (by simp)
  clear hW
  refine (sanity_true _).mono ?_
  rintro _ w1 ⟨rfl, hb⟩
  replace hB := hB.trans (hb.mono hB.size)
  replace kg := kg.later hb
  replace kx := kx.later hb
  replace kp := kp.later hb
  replace hSz := Nat.le_trans hSz hb.size
  clear hb
  have cg0 := kg.cell 0 rfl
  have cg1 := kg.cell 1 rfl
  have cg2 := kg.cell 2 rfl
  have cg3 := kg.cell 3 rfl
  have cg4 := kg.cell 4 rfl
  have cg5 := kg.cell 5 rfl
  have cg6 := kg.cell 6 rfl
  go_wp2_with fail
  refine (few_yes a b c d e f ha xs.length hcp hl _).mono ?_
  rintro _ w2 ⟨rfl, hb⟩
  replace hB := hB.trans (hb.mono hB.size)
  replace kg := kg.later hb
  replace kx := kx.later hb
  replace kp := kp.later hb
  replace hSz := Nat.le_trans hSz hb.size
  clear hb
  clear cg0 cg1 cg2 cg3 cg4 cg5 cg6
  have cg0 := kg.cell 0 rfl
  have cg1 := kg.cell 1 rfl
  have cg2 := kg.cell 2 rfl
  have cg3 := kg.cell 3 rfl
  have cg4 := kg.cell 4 rfl
  have cg5 := kg.cell 5 rfl
  have cg6 := kg.cell 6 rfl
  go_wp2_with fail
  refine (hbu.out _ (hsl.out.below hB)).mono ?_
  rintro _ w3 ⟨p, rfl, hb⟩
  replace hB := hB.trans (hb.mono hB.size)
  replace kg := kg.later hb
  replace kx := kx.later hb
  replace kp := kp.later hb
  replace hSz := Nat.le_trans hSz hb.size
  clear hb
  clear cg0 cg1 cg2 cg3 cg4 cg5 cg6
  go_wp2_with fail
  go_ret
  exact ⟨rfl, hB⟩
set_option maxRecDepth 100000 in
set_option maxHeartbeats 4000000 in
theorem keeps_err (a b c d e f dd x y z k px py pz : Int) (ha : Option Addr) (hcp : Nat) (xs : List Int) (w : World) (hl : xs.length ≤ 300) (hsl : Sl w .i64 ha xs) (i0 : Int) (F : Pt → Int) (ts : List Tr)
    (hT : Bx (∀ W, Sl W .i64 ha xs → Calls Try.prog 9 #[.agg #[.int .i64 a, .int .i64 b, .int .i64 c, .int .i64 d, .int .i64 e, .int .i64 f, .slice ha xs.length hcp], .int .i64 dd] W fun e' w' => ∃ sb, e' = .returned (.tuple #[.pointer (some ⟨sb, 0, none⟩), .int .i64 i0, .bool true]) ∧ StoreIs w' (fun k => k < W.heap.size) sb 100000 ts ∧ Below W.heap.size W w'))
    (hG0 : Bx (∀ (W : World) (Far : Nat → Prop) (sb : Nat) (px py pz : Int), StoreIs W Far sb 100000 ts → Calls Try.prog 14 #[.pointer (some ⟨sb, 0, none⟩), .int .i64 i0, .int .i64 dd, .agg #[.int .i64 px, .int .i64 py, .int .i64 pz]] W fun e w' => e = .returned (.int .i64 (F ⟨px, py, pz⟩)) ∧ Below W.heap.size W w'))
    (hNo : Bx (∀ (W : World) (sb : Nat), Calls Try.prog 13 #[.pointer (some ⟨sb, 0, none⟩), .int .i64 i0, .int .i64 dd, .agg #[.int .i64 x, .int .i64 y, .int .i64 z], .int .i64 k] W fun e w' => e = ret2 0 1 ∧ Below W.heap.size W w')) :
    Calls Try.prog 4 #[.agg #[.int .i64 a, .int .i64 b, .int .i64 c, .int .i64 d, .int .i64 e, .int .i64 f, .slice ha xs.length hcp], .int .i64 dd, .agg #[.int .i64 x, .int .i64 y, .int .i64 z, .int .i64 k], .agg #[.int .i64 px, .int .i64 py, .int .i64 pz]] w fun e' w' => e' = .returned (.bool true) ∧ Below w.heap.size w w' := by
  have hsl := Bx.mk hsl
  go_enter Try.func4, Try.ntmps4
  go_wp2_with fail
  generalize hW : World.alloc (World.alloc (World.alloc w _) _) _ = W
  have hSz : w.heap.size + 1 + 1 + 1 ≤ W.heap.size := by rw [← hW]; simp
  have hB : Below w.heap.size w W := by rw [← hW]; exact (((Below.refl _ _).alloc (Nat.le_refl _) _).alloc (by simp) _).alloc (by simp; omega) _
  have kg : Bk W (w.heap.size) #[.int .i64 a, .int .i64 b, .int .i64 c, .int .i64 d, .int .i64 e, .int .i64 f, .slice ha xs.length hcp] 28 := by rw [← hW]; exact blk_old (blk_old (blk_new _ _ _ (by simp)))
  have kx : Bk W (w.heap.size + 1) #[.int .i64 x, .int .i64 y, .int .i64 z, .int .i64 k] 44 := by rw [← hW]; exact blk_old (blk_new _ _ _ (by simp))
  have kp : Bk W (w.heap.size + 1 + 1) #[.int .i64 px, .int .i64 py, .int .i64 pz] 23 := by rw [← hW]; exact blk_new _ _ _ (by simp)
  clear hW
  refine (sanity_true _).mono ?_
  rintro _ w1 ⟨rfl, hb⟩
  replace hB := hB.trans (hb.mono hB.size)
  replace kg := kg.later hb
  replace kx := kx.later hb
  replace kp := kp.later hb
  replace hSz := Nat.le_trans hSz hb.size
  clear hb
  have cg0 := kg.cell 0 rfl
  have cg1 := kg.cell 1 rfl
  have cg2 := kg.cell 2 rfl
  have cg3 := kg.cell 3 rfl
  have cg4 := kg.cell 4 rfl
  have cg5 := kg.cell 5 rfl
  have cg6 := kg.cell 6 rfl
  go_wp2_with fail
  refine (few_yes a b c d e f ha xs.length hcp hl _).mono ?_
  rintro _ w2 ⟨rfl, hb⟩
  replace hB := hB.trans (hb.mono hB.size)
  replace kg := kg.later hb
  replace kx := kx.later hb
  replace kp := kp.later hb
  replace hSz := Nat.le_trans hSz hb.size
  clear hb
  clear cg0 cg1 cg2 cg3 cg4 cg5 cg6
  have cg0 := kg.cell 0 rfl
  have cg1 := kg.cell 1 rfl
  have cg2 := kg.cell 2 rfl
  have cg3 := kg.cell 3 rfl
  have cg4 := kg.cell 4 rfl
  have cg5 := kg.cell 5 rfl
  have cg6 := kg.cell 6 rfl
  go_wp2_with fail
  have hsl2 := hsl.out.below hB
  refine (hT.out _ hsl2).mono ?_
  rintro _ w3 ⟨sb, rfl, hS, hb⟩
  have hinl : Bx (xs ≠ [] → ∀ b, ha.map (·.block) = some b → b < w2.heap.size) := ⟨fun hx b hb => by
    obtain ⟨x, r, rfl⟩ := List.exists_cons_of_ne_nil hx
    obtain ⟨b', off, h1, h2⟩ := hsl2 0 x rfl
    rw [h1] at hb
    simp only [Option.map_some, Option.some.injEq] at hb
    rw [← hb]; exact World.block_lt_of_cell? w2 _ h2⟩
  have hing : Bx (w.heap.size < w2.heap.size) := ⟨kg.lt⟩
  have hinx : Bx (w.heap.size + 1 < w2.heap.size) := ⟨kx.lt⟩
  have hinp : Bx (w.heap.size + 1 + 1 < w2.heap.size) := ⟨kp.lt⟩
  have hlo : Bx (∀ j, j < w.heap.size → j < w2.heap.size) := ⟨fun j hj => Nat.lt_of_lt_of_le hj hB.size⟩
  obtain ⟨Far, hFa⟩ : ∃ Far : Nat → Prop, Far = fun k => k < w2.heap.size := ⟨_, rfl⟩
  have hlt : ∀ j, Far j → j < w2.heap.size := fun j hj => by rw [hFa] at hj; exact hj
  rw [← hFa] at hS
  replace hinl : Bx (xs ≠ [] → ∀ b, ha.map (·.block) = some b → Far b) := by rw [hFa]; exact hinl
  replace hing : Bx (Far w.heap.size) := by rw [hFa]; exact hing
  replace hinx : Bx (Far (w.heap.size + 1)) := by rw [hFa]; exact hinx
  replace hinp : Bx (Far (w.heap.size + 1 + 1)) := by rw [hFa]; exact hinp
  replace hlo : Bx (∀ j, j < w.heap.size → Far j) := by rw [hFa]; exact hlo
  have hZ := hb.size
  replace hsl : Bx (Sl w3 .i64 ha xs) := ⟨hsl2.below hb⟩
  replace hS := Bx.mk hS
  have hlt := Bx.mk hlt
  replace hB := hB.trans (hb.mono hB.size)
  replace kg := kg.later hb
  replace kx := kx.later hb
  replace kp := kp.later hb
  replace hSz := Nat.le_trans hSz hb.size
  clear hb
  clear cg0 cg1 cg2 cg3 cg4 cg5 cg6
  replace hB := Bx.mk hB
  clear hsl2 hT hFa hSz
  have cx0 := kx.cell 0 rfl
  have cx1 := kx.cell 1 rfl
  have cx2 := kx.cell 2 rfl
  have cx3 := kx.cell 3 rfl
  go_wp2_with fail
  refine (hG0.out _ _ _ _ _ _ hS.out).mono ?_
  rintro _ w4 ⟨rfl, hb⟩
  replace hS := Bx.mk (hS.out.later hb)
  have hk := Keeps.below (Far := Far) hb
  replace hB := Bx.mk (below_of_keeps hB.out hk (fun j hj => hlo.out j hj))
  replace kg := kg.far hk (hing.out)
  replace kx := kx.far hk (hinx.out)
  replace kp := kp.far hk (hinp.out)
  replace hsl := Bx.mk (hsl.out.far hk (hinl.out))
  replace hZ := Nat.le_trans hZ hk.size
  clear hb hk
  clear cx0 cx1 cx2 cx3
  have cp0 := kp.cell 0 rfl
  have cp1 := kp.cell 1 rfl
  have cp2 := kp.cell 2 rfl
  go_wp2_with fail
  refine (hG0.out _ _ _ _ _ _ hS.out).mono ?_
  rintro _ w5 ⟨rfl, hb⟩
  replace hS := Bx.mk (hS.out.later hb)
  have hk := Keeps.below (Far := Far) hb
  replace hB := Bx.mk (below_of_keeps hB.out hk (fun j hj => hlo.out j hj))
  replace kg := kg.far hk (hing.out)
  replace kx := kx.far hk (hinx.out)
  replace kp := kp.far hk (hinp.out)
  replace hsl := Bx.mk (hsl.out.far hk (hinl.out))
  replace hZ := Nat.le_trans hZ hk.size
  clear hb hk
  clear cp0 cp1 cp2
  have cx0 := kx.cell 0 rfl
  have cx1 := kx.cell 1 rfl
  have cx2 := kx.cell 2 rfl
  have cx3 := kx.cell 3 rfl
  go_wp2_with fail
  refine (len_any _ _ _ _ _ hS.out).mono ?_
  rintro _ _ ⟨rfl, rfl⟩
  go_wp2_with fail
  refine (hNo.out _ _).mono ?_
  rintro _ w6 ⟨rfl, hb⟩
  replace hS := Bx.mk (hS.out.later hb)
  have hk := Keeps.below (Far := Far) hb
  replace hB := Bx.mk (below_of_keeps hB.out hk (fun j hj => hlo.out j hj))
  replace kg := kg.far hk (hing.out)
  replace kx := kx.far hk (hinx.out)
  replace kp := kp.far hk (hinp.out)
  replace hsl := Bx.mk (hsl.out.far hk (hinl.out))
  replace hZ := Nat.le_trans hZ hk.size
  clear hb hk
  clear cx0 cx1 cx2 cx3
  go_wp2_with fail
  go_ret
  exact ⟨rfl, hB.out⟩
set_option maxRecDepth 100000 in
set_option maxHeartbeats 4000000 in
theorem keeps_same (a b c d e f dd x y z k px py pz : Int) (ha : Option Addr) (hcp : Nat) (xs : List Int) (w : World) (hl : xs.length ≤ 300) (hsl : Sl w .i64 ha xs) (i0 i1 : Int) (F F1 : Pt → Int) (ts ts1 : List Tr)
    (hT : Bx (∀ W, Sl W .i64 ha xs → Calls Try.prog 9 #[.agg #[.int .i64 a, .int .i64 b, .int .i64 c, .int .i64 d, .int .i64 e, .int .i64 f, .slice ha xs.length hcp], .int .i64 dd] W fun e' w' => ∃ sb, e' = .returned (.tuple #[.pointer (some ⟨sb, 0, none⟩), .int .i64 i0, .bool true]) ∧ StoreIs w' (fun k => k < W.heap.size) sb 100000 ts ∧ Below W.heap.size W w'))
    (hG0 : Bx (∀ (W : World) (Far : Nat → Prop) (sb : Nat) (px py pz : Int), StoreIs W Far sb 100000 ts → Calls Try.prog 14 #[.pointer (some ⟨sb, 0, none⟩), .int .i64 i0, .int .i64 dd, .agg #[.int .i64 px, .int .i64 py, .int .i64 pz]] W fun e w' => e = .returned (.int .i64 (F ⟨px, py, pz⟩)) ∧ Below W.heap.size W w'))
    (hRef : Bx (∀ (W : World) (px py pz : Int), Sl W .i64 ha xs → Calls Try.prog 12 #[.agg #[.int .i64 a, .int .i64 b, .int .i64 c, .int .i64 d, .int .i64 e, .int .i64 f, .slice ha xs.length hcp], .agg #[.int .i64 px, .int .i64 py, .int .i64 pz]] W fun e' w' => e' = .returned (.int .i64 (F ⟨px, py, pz⟩)) ∧ Below W.heap.size W w'))
    (hN1 : Bx (∀ (W : World) (Far : Nat → Prop) (sb : Nat) (px py pz : Int), StoreIs W Far sb 100000 ts1 → Calls Try.prog 14 #[.pointer (some ⟨sb, 0, none⟩), .int .i64 i1, .int .i64 dd, .agg #[.int .i64 px, .int .i64 py, .int .i64 pz]] W fun e w' => e = .returned (.int .i64 (F1 ⟨px, py, pz⟩)) ∧ Below W.heap.size W w'))
    (hS0 : Bx (∀ (W : World) (Far : Nat → Prop) (sb : Nat), (∀ j, Far j → j < W.heap.size) → StoreIs W Far sb 100000 ts → Calls Try.prog 13 #[.pointer (some ⟨sb, 0, none⟩), .int .i64 i0, .int .i64 dd, .agg #[.int .i64 x, .int .i64 y, .int .i64 z], .int .i64 k] W fun e w' => e = ret2 i1 0 ∧ StoreIs w' Far sb 100000 ts1 ∧ Keeps Far W w'))
    (hS1 : Bx (∀ (W : World) (Far : Nat → Prop) (sb : Nat), (∀ j, Far j → j < W.heap.size) → StoreIs W Far sb 100000 ts1 → Calls Try.prog 13 #[.pointer (some ⟨sb, 0, none⟩), .int .i64 i1, .int .i64 dd, .agg #[.int .i64 x, .int .i64 y, .int .i64 z], .int .i64 (F ⟨x, y, z⟩)] W fun e w' => e = ret2 i0 0 ∧ StoreIs w' Far sb 100000 ts1 ∧ Keeps Far W w'))
    (hG1 : Bx (∀ (W : World) (Far : Nat → Prop) (sb : Nat) (px py pz : Int), StoreIs W Far sb 100000 ts1 → Calls Try.prog 14 #[.pointer (some ⟨sb, 0, none⟩), .int .i64 i0, .int .i64 dd, .agg #[.int .i64 px, .int .i64 py, .int .i64 pz]] W fun e w' => e = .returned (.int .i64 (F ⟨px, py, pz⟩)) ∧ Below W.heap.size W w'))
    (hTr : Bx (∀ (W : World) (Far : Nat → Prop) (sb : Nat), StoreIs W Far sb 100000 ts1 → Calls Try.prog 16 #[.pointer (some ⟨sb, 0, none⟩), .int .i64 (ts.length : Int)] W fun e w' => e = .returned (.tuple #[]) ∧ StoreIs w' Far sb 100000 ts ∧ Keeps Far W w'))
    (hat : F1 ⟨x, y, z⟩ = k)
    (hxp : decide ((⟨x, y, z⟩ : Pt) = ⟨px, py, pz⟩) = true) :
    Calls Try.prog 4 #[.agg #[.int .i64 a, .int .i64 b, .int .i64 c, .int .i64 d, .int .i64 e, .int .i64 f, .slice ha xs.length hcp], .int .i64 dd, .agg #[.int .i64 x, .int .i64 y, .int .i64 z, .int .i64 k], .agg #[.int .i64 px, .int .i64 py, .int .i64 pz]] w fun e' w' => e' = .returned (.bool true) ∧ Below w.heap.size w w' := by
  have heq := fun W => eql_pt x y z px py pz W
  rw [hxp] at heq
  have hsl := Bx.mk hsl
  go_enter Try.func4, Try.ntmps4
  go_wp2_with fail
  generalize hW : World.alloc (World.alloc (World.alloc w _) _) _ = W
  have hSz : w.heap.size + 1 + 1 + 1 ≤ W.heap.size := by rw [← hW]; simp
  have hB : Below w.heap.size w W := by rw [← hW]; exact (((Below.refl _ _).alloc (Nat.le_refl _) _).alloc (by simp) _).alloc (by simp; omega) _
  have kg : Bk W (w.heap.size) #[.int .i64 a, .int .i64 b, .int .i64 c, .int .i64 d, .int .i64 e, .int .i64 f, .slice ha xs.length hcp] 28 := by rw [← hW]; exact blk_old (blk_old (blk_new _ _ _ (by simp)))
  have kx : Bk W (w.heap.size + 1) #[.int .i64 x, .int .i64 y, .int .i64 z, .int .i64 k] 44 := by rw [← hW]; exact blk_old (blk_new _ _ _ (by simp))
  have kp : Bk W (w.heap.size + 1 + 1) #[.int .i64 px, .int .i64 py, .int .i64 pz] 23 := by rw [← hW]; exact blk_new _ _ _ (by simp)
  clear hW
  refine (sanity_true _).mono ?_
  rintro _ w1 ⟨rfl, hb⟩
  replace hB := hB.trans (hb.mono hB.size)
  replace kg := kg.later hb
  replace kx := kx.later hb
  replace kp := kp.later hb
  replace hSz := Nat.le_trans hSz hb.size
  clear hb
  have cg0 := kg.cell 0 rfl
  have cg1 := kg.cell 1 rfl
  have cg2 := kg.cell 2 rfl
  have cg3 := kg.cell 3 rfl
  have cg4 := kg.cell 4 rfl
  have cg5 := kg.cell 5 rfl
  have cg6 := kg.cell 6 rfl
  go_wp2_with fail
  refine (few_yes a b c d e f ha xs.length hcp hl _).mono ?_
  rintro _ w2 ⟨rfl, hb⟩
  replace hB := hB.trans (hb.mono hB.size)
  replace kg := kg.later hb
  replace kx := kx.later hb
  replace kp := kp.later hb
  replace hSz := Nat.le_trans hSz hb.size
  clear hb
  clear cg0 cg1 cg2 cg3 cg4 cg5 cg6
  have cg0 := kg.cell 0 rfl
  have cg1 := kg.cell 1 rfl
  have cg2 := kg.cell 2 rfl
  have cg3 := kg.cell 3 rfl
  have cg4 := kg.cell 4 rfl
  have cg5 := kg.cell 5 rfl
  have cg6 := kg.cell 6 rfl
  go_wp2_with fail
  have hsl2 := hsl.out.below hB
  refine (hT.out _ hsl2).mono ?_
  rintro _ w3 ⟨sb, rfl, hS, hb⟩
  have hinl : Bx (xs ≠ [] → ∀ b, ha.map (·.block) = some b → b < w2.heap.size) := ⟨fun hx b hb => by
    obtain ⟨x, r, rfl⟩ := List.exists_cons_of_ne_nil hx
    obtain ⟨b', off, h1, h2⟩ := hsl2 0 x rfl
    rw [h1] at hb
    simp only [Option.map_some, Option.some.injEq] at hb
    rw [← hb]; exact World.block_lt_of_cell? w2 _ h2⟩
  have hing : Bx (w.heap.size < w2.heap.size) := ⟨kg.lt⟩
  have hinx : Bx (w.heap.size + 1 < w2.heap.size) := ⟨kx.lt⟩
  have hinp : Bx (w.heap.size + 1 + 1 < w2.heap.size) := ⟨kp.lt⟩
  have hlo : Bx (∀ j, j < w.heap.size → j < w2.heap.size) := ⟨fun j hj => Nat.lt_of_lt_of_le hj hB.size⟩
  obtain ⟨Far, hFa⟩ : ∃ Far : Nat → Prop, Far = fun k => k < w2.heap.size := ⟨_, rfl⟩
  have hlt : ∀ j, Far j → j < w2.heap.size := fun j hj => by rw [hFa] at hj; exact hj
  rw [← hFa] at hS
  replace hinl : Bx (xs ≠ [] → ∀ b, ha.map (·.block) = some b → Far b) := by rw [hFa]; exact hinl
  replace hing : Bx (Far w.heap.size) := by rw [hFa]; exact hing
  replace hinx : Bx (Far (w.heap.size + 1)) := by rw [hFa]; exact hinx
  replace hinp : Bx (Far (w.heap.size + 1 + 1)) := by rw [hFa]; exact hinp
  replace hlo : Bx (∀ j, j < w.heap.size → Far j) := by rw [hFa]; exact hlo
  have hZ := hb.size
  replace hsl : Bx (Sl w3 .i64 ha xs) := ⟨hsl2.below hb⟩
  replace hS := Bx.mk hS
  have hlt := Bx.mk hlt
  replace hB := hB.trans (hb.mono hB.size)
  replace kg := kg.later hb
  replace kx := kx.later hb
  replace kp := kp.later hb
  replace hSz := Nat.le_trans hSz hb.size
  clear hb
  clear cg0 cg1 cg2 cg3 cg4 cg5 cg6
  replace hB := Bx.mk hB
  clear hsl2 hT hFa hSz
  have cx0 := kx.cell 0 rfl
  have cx1 := kx.cell 1 rfl
  have cx2 := kx.cell 2 rfl
  have cx3 := kx.cell 3 rfl
  go_wp2_with fail
  refine (hG0.out _ _ _ _ _ _ hS.out).mono ?_
  rintro _ w4 ⟨rfl, hb⟩
  replace hS := Bx.mk (hS.out.later hb)
  have hk := Keeps.below (Far := Far) hb
  replace hB := Bx.mk (below_of_keeps hB.out hk (fun j hj => hlo.out j hj))
  replace kg := kg.far hk (hing.out)
  replace kx := kx.far hk (hinx.out)
  replace kp := kp.far hk (hinp.out)
  replace hsl := Bx.mk (hsl.out.far hk (hinl.out))
  replace hZ := Nat.le_trans hZ hk.size
  clear hb hk
  clear cx0 cx1 cx2 cx3
  have cp0 := kp.cell 0 rfl
  have cp1 := kp.cell 1 rfl
  have cp2 := kp.cell 2 rfl
  go_wp2_with fail
  refine (hG0.out _ _ _ _ _ _ hS.out).mono ?_
  rintro _ w5 ⟨rfl, hb⟩
  replace hS := Bx.mk (hS.out.later hb)
  have hk := Keeps.below (Far := Far) hb
  replace hB := Bx.mk (below_of_keeps hB.out hk (fun j hj => hlo.out j hj))
  replace kg := kg.far hk (hing.out)
  replace kx := kx.far hk (hinx.out)
  replace kp := kp.far hk (hinp.out)
  replace hsl := Bx.mk (hsl.out.far hk (hinl.out))
  replace hZ := Nat.le_trans hZ hk.size
  clear hb hk
  clear cp0 cp1 cp2
  have cx0 := kx.cell 0 rfl
  have cx1 := kx.cell 1 rfl
  have cx2 := kx.cell 2 rfl
  have cx3 := kx.cell 3 rfl
  go_wp2_with fail
  refine (len_any _ _ _ _ _ hS.out).mono ?_
  rintro _ _ ⟨rfl, rfl⟩
  clear cx0 cx1 cx2 cx3
  have cx0 := kx.cell 0 rfl
  have cx1 := kx.cell 1 rfl
  have cx2 := kx.cell 2 rfl
  have cx3 := kx.cell 3 rfl
  go_wp2_with fail
  refine (hS0.out _ _ _ (fun j hj => Nat.lt_of_lt_of_le (hlt.out j hj) hZ) hS.out).mono ?_
  rintro _ w6 ⟨rfl, hs, hk⟩
  replace hS := Bx.mk hs
  clear hs
  replace hB := Bx.mk (below_of_keeps hB.out hk (fun j hj => hlo.out j hj))
  replace kg := kg.far hk (hing.out)
  replace kx := kx.far hk (hinx.out)
  replace kp := kp.far hk (hinp.out)
  replace hsl := Bx.mk (hsl.out.far hk (hinl.out))
  replace hZ := Nat.le_trans hZ hk.size
  clear hk
  clear cx0 cx1 cx2 cx3
  have cx0 := kx.cell 0 rfl
  have cx1 := kx.cell 1 rfl
  have cx2 := kx.cell 2 rfl
  have cx3 := kx.cell 3 rfl
  go_wp2_with fail
  refine (hS1.out _ _ _ (fun j hj => Nat.lt_of_lt_of_le (hlt.out j hj) hZ) hS.out).mono ?_
  rintro _ w7 ⟨rfl, hs, hk⟩
  replace hS := Bx.mk hs
  clear hs
  replace hB := Bx.mk (below_of_keeps hB.out hk (fun j hj => hlo.out j hj))
  replace kg := kg.far hk (hing.out)
  replace kx := kx.far hk (hinx.out)
  replace kp := kp.far hk (hinp.out)
  replace hsl := Bx.mk (hsl.out.far hk (hinl.out))
  replace hZ := Nat.le_trans hZ hk.size
  clear hk
  clear cx0 cx1 cx2 cx3
  have cx0 := kx.cell 0 rfl
  have cx1 := kx.cell 1 rfl
  have cx2 := kx.cell 2 rfl
  have cx3 := kx.cell 3 rfl
  have cp0 := kp.cell 0 rfl
  have cp1 := kp.cell 1 rfl
  have cp2 := kp.cell 2 rfl
  go_wp2_with fail
  clear cx0 cx1 cx2 cx3 cp0 cp1 cp2
  have cx0 : ∀ dk osk, (grow (redrawn w7 dk) osk).cell? ⟨w.heap.size + 1, 0, none⟩ = some (.int .i64 x) := cell_regrown (kx.cell 0 rfl)
  have cx1 : ∀ dk osk, (grow (redrawn w7 dk) osk).cell? ⟨w.heap.size + 1, 1, none⟩ = some (.int .i64 y) := cell_regrown (kx.cell 1 rfl)
  have cx2 : ∀ dk osk, (grow (redrawn w7 dk) osk).cell? ⟨w.heap.size + 1, 2, none⟩ = some (.int .i64 z) := cell_regrown (kx.cell 2 rfl)
  have cx3 : ∀ dk osk, (grow (redrawn w7 dk) osk).cell? ⟨w.heap.size + 1, 3, none⟩ = some (.int .i64 k) := cell_regrown (kx.cell 3 rfl)
  have q0 := Bx.mk fun dk osk => Calls.regrown_of (hN1.out (grow (redrawn w7 dk) osk) Far sb x y z (hS.out.later (below_regrown w7 dk osk)))
  refine wp_region_quiet_below (by kernel_rfl) (by kernel_rfl) ?_
  repeat (first | go_big_quiet_step ((first | with_reducible exact q0.out _ _)) | quiet_step (first | with_reducible exact q0.out _ _))
  refine wpQuiet_nil ?_
  rintro _ ⟨⟨dq, osq⟩, rfl⟩
  have hb := below_regrown w7 dq osq
  clear cx0 cx1 cx2 cx3
  clear q0
  replace hS := Bx.mk (hS.out.later hb)
  have hk := Keeps.below (Far := Far) hb
  replace hB := Bx.mk (below_of_keeps hB.out hk (fun j hj => hlo.out j hj))
  replace kg := kg.far hk (hing.out)
  replace kx := kx.far hk (hinx.out)
  replace kp := kp.far hk (hinp.out)
  replace hsl := Bx.mk (hsl.out.far hk (hinl.out))
  replace hZ := Nat.le_trans hZ hk.size
  clear hb hk
  generalize grow (redrawn w7 dq) osq = w9 at *
  go_wp2_with fail
  refine (len_any _ _ _ _ _ hS.out).mono ?_
  rintro _ _ ⟨rfl, rfl⟩
  go_wp2_with fail
  refine (hTr.out _ _ _ hS.out).mono ?_
  rintro _ w10 ⟨rfl, hs, hk⟩
  replace hS := Bx.mk hs
  clear hs
  replace hB := Bx.mk (below_of_keeps hB.out hk (fun j hj => hlo.out j hj))
  replace kg := kg.far hk (hing.out)
  replace kx := kx.far hk (hinx.out)
  replace kp := kp.far hk (hinp.out)
  replace hsl := Bx.mk (hsl.out.far hk (hinl.out))
  replace hZ := Nat.le_trans hZ hk.size
  clear hk
  go_wp2_with fail
  refine (len_any _ _ _ _ _ hS.out).mono ?_
  rintro _ _ ⟨rfl, rfl⟩
  have cx0 := kx.cell 0 rfl
  have cx1 := kx.cell 1 rfl
  have cx2 := kx.cell 2 rfl
  have cx3 := kx.cell 3 rfl
  go_wp2_with fail
  refine (hS0.out _ _ _ (fun j hj => Nat.lt_of_lt_of_le (hlt.out j hj) hZ) hS.out).mono ?_
  rintro _ w11 ⟨rfl, hs, hk⟩
  replace hS := Bx.mk hs
  clear hs
  replace hB := Bx.mk (below_of_keeps hB.out hk (fun j hj => hlo.out j hj))
  replace kg := kg.far hk (hing.out)
  replace kx := kx.far hk (hinx.out)
  replace kp := kp.far hk (hinp.out)
  replace hsl := Bx.mk (hsl.out.far hk (hinl.out))
  replace hZ := Nat.le_trans hZ hk.size
  clear hk
  clear cx0 cx1 cx2 cx3
  go_wp2_with fail
  refine (len_any _ _ _ _ _ hS.out).mono ?_
  rintro _ _ ⟨rfl, rfl⟩
  have cx0 := kx.cell 0 rfl
  have cx1 := kx.cell 1 rfl
  have cx2 := kx.cell 2 rfl
  have cx3 := kx.cell 3 rfl
  go_wp2_with fail
  refine (hG1.out _ _ _ _ _ _ hS.out).mono ?_
  rintro _ w12 ⟨rfl, hb⟩
  replace hS := Bx.mk (hS.out.later hb)
  have hk := Keeps.below (Far := Far) hb
  replace hB := Bx.mk (below_of_keeps hB.out hk (fun j hj => hlo.out j hj))
  replace kg := kg.far hk (hing.out)
  replace kx := kx.far hk (hinx.out)
  replace kp := kp.far hk (hinp.out)
  replace hsl := Bx.mk (hsl.out.far hk (hinl.out))
  replace hZ := Nat.le_trans hZ hk.size
  clear hb hk
  clear cx0 cx1 cx2 cx3
  have cp0 := kp.cell 0 rfl
  have cp1 := kp.cell 1 rfl
  have cp2 := kp.cell 2 rfl
  go_wp2_with fail
  refine (hG1.out _ _ _ _ _ _ hS.out).mono ?_
  rintro _ w13 ⟨rfl, hb⟩
  replace hS := Bx.mk (hS.out.later hb)
  have hk := Keeps.below (Far := Far) hb
  replace hB := Bx.mk (below_of_keeps hB.out hk (fun j hj => hlo.out j hj))
  replace kg := kg.far hk (hing.out)
  replace kx := kx.far hk (hinx.out)
  replace kp := kp.far hk (hinp.out)
  replace hsl := Bx.mk (hsl.out.far hk (hinl.out))
  replace hZ := Nat.le_trans hZ hk.size
  clear hb hk
  clear cp0 cp1 cp2
  have cg0 := kg.cell 0 rfl
  have cg1 := kg.cell 1 rfl
  have cg2 := kg.cell 2 rfl
  have cg3 := kg.cell 3 rfl
  have cg4 := kg.cell 4 rfl
  have cg5 := kg.cell 5 rfl
  have cg6 := kg.cell 6 rfl
  have cp0 := kp.cell 0 rfl
  have cp1 := kp.cell 1 rfl
  have cp2 := kp.cell 2 rfl
  go_wp2_with fail
  refine (hRef.out _ _ _ _ hsl.out).mono ?_
  rintro _ w14 ⟨rfl, hb⟩
  replace hS := Bx.mk (hS.out.later hb)
  have hk := Keeps.below (Far := Far) hb
  replace hB := Bx.mk (below_of_keeps hB.out hk (fun j hj => hlo.out j hj))
  replace kg := kg.far hk (hing.out)
  replace kx := kx.far hk (hinx.out)
  replace kp := kp.far hk (hinp.out)
  replace hsl := Bx.mk (hsl.out.far hk (hinl.out))
  replace hZ := Nat.le_trans hZ hk.size
  clear hb hk
  clear cg0 cg1 cg2 cg3 cg4 cg5 cg6 cp0 cp1 cp2
  go_wp2_with fail
  go_ret
  exact ⟨rfl, hB.out⟩
set_option maxRecDepth 100000 in
set_option maxHeartbeats 4000000 in
theorem keeps_off (a b c d e f dd x y z k px py pz : Int) (ha : Option Addr) (hcp : Nat) (xs : List Int) (w : World) (hl : xs.length ≤ 300) (hsl : Sl w .i64 ha xs) (i0 i1 : Int) (F F1 : Pt → Int) (ts ts1 : List Tr)
    (hT : Bx (∀ W, Sl W .i64 ha xs → Calls Try.prog 9 #[.agg #[.int .i64 a, .int .i64 b, .int .i64 c, .int .i64 d, .int .i64 e, .int .i64 f, .slice ha xs.length hcp], .int .i64 dd] W fun e' w' => ∃ sb, e' = .returned (.tuple #[.pointer (some ⟨sb, 0, none⟩), .int .i64 i0, .bool true]) ∧ StoreIs w' (fun k => k < W.heap.size) sb 100000 ts ∧ Below W.heap.size W w'))
    (hG0 : Bx (∀ (W : World) (Far : Nat → Prop) (sb : Nat) (px py pz : Int), StoreIs W Far sb 100000 ts → Calls Try.prog 14 #[.pointer (some ⟨sb, 0, none⟩), .int .i64 i0, .int .i64 dd, .agg #[.int .i64 px, .int .i64 py, .int .i64 pz]] W fun e w' => e = .returned (.int .i64 (F ⟨px, py, pz⟩)) ∧ Below W.heap.size W w'))
    (hRef : Bx (∀ (W : World) (px py pz : Int), Sl W .i64 ha xs → Calls Try.prog 12 #[.agg #[.int .i64 a, .int .i64 b, .int .i64 c, .int .i64 d, .int .i64 e, .int .i64 f, .slice ha xs.length hcp], .agg #[.int .i64 px, .int .i64 py, .int .i64 pz]] W fun e' w' => e' = .returned (.int .i64 (F ⟨px, py, pz⟩)) ∧ Below W.heap.size W w'))
    (hN1 : Bx (∀ (W : World) (Far : Nat → Prop) (sb : Nat) (px py pz : Int), StoreIs W Far sb 100000 ts1 → Calls Try.prog 14 #[.pointer (some ⟨sb, 0, none⟩), .int .i64 i1, .int .i64 dd, .agg #[.int .i64 px, .int .i64 py, .int .i64 pz]] W fun e w' => e = .returned (.int .i64 (F1 ⟨px, py, pz⟩)) ∧ Below W.heap.size W w'))
    (hS0 : Bx (∀ (W : World) (Far : Nat → Prop) (sb : Nat), (∀ j, Far j → j < W.heap.size) → StoreIs W Far sb 100000 ts → Calls Try.prog 13 #[.pointer (some ⟨sb, 0, none⟩), .int .i64 i0, .int .i64 dd, .agg #[.int .i64 x, .int .i64 y, .int .i64 z], .int .i64 k] W fun e w' => e = ret2 i1 0 ∧ StoreIs w' Far sb 100000 ts1 ∧ Keeps Far W w'))
    (hS1 : Bx (∀ (W : World) (Far : Nat → Prop) (sb : Nat), (∀ j, Far j → j < W.heap.size) → StoreIs W Far sb 100000 ts1 → Calls Try.prog 13 #[.pointer (some ⟨sb, 0, none⟩), .int .i64 i1, .int .i64 dd, .agg #[.int .i64 x, .int .i64 y, .int .i64 z], .int .i64 (F ⟨x, y, z⟩)] W fun e w' => e = ret2 i0 0 ∧ StoreIs w' Far sb 100000 ts1 ∧ Keeps Far W w'))
    (hG1 : Bx (∀ (W : World) (Far : Nat → Prop) (sb : Nat) (px py pz : Int), StoreIs W Far sb 100000 ts1 → Calls Try.prog 14 #[.pointer (some ⟨sb, 0, none⟩), .int .i64 i0, .int .i64 dd, .agg #[.int .i64 px, .int .i64 py, .int .i64 pz]] W fun e w' => e = .returned (.int .i64 (F ⟨px, py, pz⟩)) ∧ Below W.heap.size W w'))
    (hTr : Bx (∀ (W : World) (Far : Nat → Prop) (sb : Nat), StoreIs W Far sb 100000 ts1 → Calls Try.prog 16 #[.pointer (some ⟨sb, 0, none⟩), .int .i64 (ts.length : Int)] W fun e w' => e = .returned (.tuple #[]) ∧ StoreIs w' Far sb 100000 ts ∧ Keeps Far W w'))
    (hat : F1 ⟨x, y, z⟩ = k)
    (hxp : decide ((⟨x, y, z⟩ : Pt) = ⟨px, py, pz⟩) = false) (hoff : F1 ⟨px, py, pz⟩ = F ⟨px, py, pz⟩) :
    Calls Try.prog 4 #[.agg #[.int .i64 a, .int .i64 b, .int .i64 c, .int .i64 d, .int .i64 e, .int .i64 f, .slice ha xs.length hcp], .int .i64 dd, .agg #[.int .i64 x, .int .i64 y, .int .i64 z, .int .i64 k], .agg #[.int .i64 px, .int .i64 py, .int .i64 pz]] w fun e' w' => e' = .returned (.bool true) ∧ Below w.heap.size w w' := by
  have heq := fun W => eql_pt x y z px py pz W
  rw [hxp] at heq
  have hsl := Bx.mk hsl
  go_enter Try.func4, Try.ntmps4
  go_wp2_with fail
  generalize hW : World.alloc (World.alloc (World.alloc w _) _) _ = W
  have hSz : w.heap.size + 1 + 1 + 1 ≤ W.heap.size := by rw [← hW]; simp
  have hB : Below w.heap.size w W := by rw [← hW]; exact (((Below.refl _ _).alloc (Nat.le_refl _) _).alloc (by simp) _).alloc (by simp; omega) _
  have kg : Bk W (w.heap.size) #[.int .i64 a, .int .i64 b, .int .i64 c, .int .i64 d, .int .i64 e, .int .i64 f, .slice ha xs.length hcp] 28 := by rw [← hW]; exact blk_old (blk_old (blk_new _ _ _ (by simp)))
  have kx : Bk W (w.heap.size + 1) #[.int .i64 x, .int .i64 y, .int .i64 z, .int .i64 k] 44 := by rw [← hW]; exact blk_old (blk_new _ _ _ (by simp))
  have kp : Bk W (w.heap.size + 1 + 1) #[.int .i64 px, .int .i64 py, .int .i64 pz] 23 := by rw [← hW]; exact blk_new _ _ _ (by simp)
  clear hW
  refine (sanity_true _).mono ?_
  rintro _ w1 ⟨rfl, hb⟩
  replace hB := hB.trans (hb.mono hB.size)
  replace kg := kg.later hb
  replace kx := kx.later hb
  replace kp := kp.later hb
  replace hSz := Nat.le_trans hSz hb.size
  clear hb
  have cg0 := kg.cell 0 rfl
  have cg1 := kg.cell 1 rfl
  have cg2 := kg.cell 2 rfl
  have cg3 := kg.cell 3 rfl
  have cg4 := kg.cell 4 rfl
  have cg5 := kg.cell 5 rfl
  have cg6 := kg.cell 6 rfl
  go_wp2_with fail
  refine (few_yes a b c d e f ha xs.length hcp hl _).mono ?_
  rintro _ w2 ⟨rfl, hb⟩
  replace hB := hB.trans (hb.mono hB.size)
  replace kg := kg.later hb
  replace kx := kx.later hb
  replace kp := kp.later hb
  replace hSz := Nat.le_trans hSz hb.size
  clear hb
  clear cg0 cg1 cg2 cg3 cg4 cg5 cg6
  have cg0 := kg.cell 0 rfl
  have cg1 := kg.cell 1 rfl
  have cg2 := kg.cell 2 rfl
  have cg3 := kg.cell 3 rfl
  have cg4 := kg.cell 4 rfl
  have cg5 := kg.cell 5 rfl
  have cg6 := kg.cell 6 rfl
  go_wp2_with fail
  have hsl2 := hsl.out.below hB
  refine (hT.out _ hsl2).mono ?_
  rintro _ w3 ⟨sb, rfl, hS, hb⟩
  have hinl : Bx (xs ≠ [] → ∀ b, ha.map (·.block) = some b → b < w2.heap.size) := ⟨fun hx b hb => by
    obtain ⟨x, r, rfl⟩ := List.exists_cons_of_ne_nil hx
    obtain ⟨b', off, h1, h2⟩ := hsl2 0 x rfl
    rw [h1] at hb
    simp only [Option.map_some, Option.some.injEq] at hb
    rw [← hb]; exact World.block_lt_of_cell? w2 _ h2⟩
  have hing : Bx (w.heap.size < w2.heap.size) := ⟨kg.lt⟩
  have hinx : Bx (w.heap.size + 1 < w2.heap.size) := ⟨kx.lt⟩
  have hinp : Bx (w.heap.size + 1 + 1 < w2.heap.size) := ⟨kp.lt⟩
  have hlo : Bx (∀ j, j < w.heap.size → j < w2.heap.size) := ⟨fun j hj => Nat.lt_of_lt_of_le hj hB.size⟩
  obtain ⟨Far, hFa⟩ : ∃ Far : Nat → Prop, Far = fun k => k < w2.heap.size := ⟨_, rfl⟩
  have hlt : ∀ j, Far j → j < w2.heap.size := fun j hj => by rw [hFa] at hj; exact hj
  rw [← hFa] at hS
  replace hinl : Bx (xs ≠ [] → ∀ b, ha.map (·.block) = some b → Far b) := by rw [hFa]; exact hinl
  replace hing : Bx (Far w.heap.size) := by rw [hFa]; exact hing
  replace hinx : Bx (Far (w.heap.size + 1)) := by rw [hFa]; exact hinx
  replace hinp : Bx (Far (w.heap.size + 1 + 1)) := by rw [hFa]; exact hinp
  replace hlo : Bx (∀ j, j < w.heap.size → Far j) := by rw [hFa]; exact hlo
  have hZ := hb.size
  replace hsl : Bx (Sl w3 .i64 ha xs) := ⟨hsl2.below hb⟩
  replace hS := Bx.mk hS
  have hlt := Bx.mk hlt
  replace hB := hB.trans (hb.mono hB.size)
  replace kg := kg.later hb
  replace kx := kx.later hb
  replace kp := kp.later hb
  replace hSz := Nat.le_trans hSz hb.size
  clear hb
  clear cg0 cg1 cg2 cg3 cg4 cg5 cg6
  replace hB := Bx.mk hB
  clear hsl2 hT hFa hSz
  have cx0 := kx.cell 0 rfl
  have cx1 := kx.cell 1 rfl
  have cx2 := kx.cell 2 rfl
  have cx3 := kx.cell 3 rfl
  go_wp2_with fail
  refine (hG0.out _ _ _ _ _ _ hS.out).mono ?_
  rintro _ w4 ⟨rfl, hb⟩
  replace hS := Bx.mk (hS.out.later hb)
  have hk := Keeps.below (Far := Far) hb
  replace hB := Bx.mk (below_of_keeps hB.out hk (fun j hj => hlo.out j hj))
  replace kg := kg.far hk (hing.out)
  replace kx := kx.far hk (hinx.out)
  replace kp := kp.far hk (hinp.out)
  replace hsl := Bx.mk (hsl.out.far hk (hinl.out))
  replace hZ := Nat.le_trans hZ hk.size
  clear hb hk
  clear cx0 cx1 cx2 cx3
  have cp0 := kp.cell 0 rfl
  have cp1 := kp.cell 1 rfl
  have cp2 := kp.cell 2 rfl
  go_wp2_with fail
  refine (hG0.out _ _ _ _ _ _ hS.out).mono ?_
  rintro _ w5 ⟨rfl, hb⟩
  replace hS := Bx.mk (hS.out.later hb)
  have hk := Keeps.below (Far := Far) hb
  replace hB := Bx.mk (below_of_keeps hB.out hk (fun j hj => hlo.out j hj))
  replace kg := kg.far hk (hing.out)
  replace kx := kx.far hk (hinx.out)
  replace kp := kp.far hk (hinp.out)
  replace hsl := Bx.mk (hsl.out.far hk (hinl.out))
  replace hZ := Nat.le_trans hZ hk.size
  clear hb hk
  clear cp0 cp1 cp2
  have cx0 := kx.cell 0 rfl
  have cx1 := kx.cell 1 rfl
  have cx2 := kx.cell 2 rfl
  have cx3 := kx.cell 3 rfl
  go_wp2_with fail
  refine (len_any _ _ _ _ _ hS.out).mono ?_
  rintro _ _ ⟨rfl, rfl⟩
  clear cx0 cx1 cx2 cx3
  have cx0 := kx.cell 0 rfl
  have cx1 := kx.cell 1 rfl
  have cx2 := kx.cell 2 rfl
  have cx3 := kx.cell 3 rfl
  go_wp2_with fail
  refine (hS0.out _ _ _ (fun j hj => Nat.lt_of_lt_of_le (hlt.out j hj) hZ) hS.out).mono ?_
  rintro _ w6 ⟨rfl, hs, hk⟩
  replace hS := Bx.mk hs
  clear hs
  replace hB := Bx.mk (below_of_keeps hB.out hk (fun j hj => hlo.out j hj))
  replace kg := kg.far hk (hing.out)
  replace kx := kx.far hk (hinx.out)
  replace kp := kp.far hk (hinp.out)
  replace hsl := Bx.mk (hsl.out.far hk (hinl.out))
  replace hZ := Nat.le_trans hZ hk.size
  clear hk
  clear cx0 cx1 cx2 cx3
  have cx0 := kx.cell 0 rfl
  have cx1 := kx.cell 1 rfl
  have cx2 := kx.cell 2 rfl
  have cx3 := kx.cell 3 rfl
  go_wp2_with fail
  refine (hS1.out _ _ _ (fun j hj => Nat.lt_of_lt_of_le (hlt.out j hj) hZ) hS.out).mono ?_
  rintro _ w7 ⟨rfl, hs, hk⟩
  replace hS := Bx.mk hs
  clear hs
  replace hB := Bx.mk (below_of_keeps hB.out hk (fun j hj => hlo.out j hj))
  replace kg := kg.far hk (hing.out)
  replace kx := kx.far hk (hinx.out)
  replace kp := kp.far hk (hinp.out)
  replace hsl := Bx.mk (hsl.out.far hk (hinl.out))
  replace hZ := Nat.le_trans hZ hk.size
  clear hk
  clear cx0 cx1 cx2 cx3
  have cx0 := kx.cell 0 rfl
  have cx1 := kx.cell 1 rfl
  have cx2 := kx.cell 2 rfl
  have cx3 := kx.cell 3 rfl
  have cp0 := kp.cell 0 rfl
  have cp1 := kp.cell 1 rfl
  have cp2 := kp.cell 2 rfl
  go_wp2_with fail
  refine (hN1.out _ _ _ _ _ _ hS.out).mono ?_
  rintro _ w8 ⟨rfl, hb⟩
  replace hS := Bx.mk (hS.out.later hb)
  have hk := Keeps.below (Far := Far) hb
  replace hB := Bx.mk (below_of_keeps hB.out hk (fun j hj => hlo.out j hj))
  replace kg := kg.far hk (hing.out)
  replace kx := kx.far hk (hinx.out)
  replace kp := kp.far hk (hinp.out)
  replace hsl := Bx.mk (hsl.out.far hk (hinl.out))
  replace hZ := Nat.le_trans hZ hk.size
  clear hb hk
  clear cx0 cx1 cx2 cx3 cp0 cp1 cp2
  rw [hoff]
  go_wp2_with fail
  have cx0 : ∀ dk osk, (grow (redrawn w8 dk) osk).cell? ⟨w.heap.size + 1, 0, none⟩ = some (.int .i64 x) := cell_regrown (kx.cell 0 rfl)
  have cx1 : ∀ dk osk, (grow (redrawn w8 dk) osk).cell? ⟨w.heap.size + 1, 1, none⟩ = some (.int .i64 y) := cell_regrown (kx.cell 1 rfl)
  have cx2 : ∀ dk osk, (grow (redrawn w8 dk) osk).cell? ⟨w.heap.size + 1, 2, none⟩ = some (.int .i64 z) := cell_regrown (kx.cell 2 rfl)
  have cx3 : ∀ dk osk, (grow (redrawn w8 dk) osk).cell? ⟨w.heap.size + 1, 3, none⟩ = some (.int .i64 k) := cell_regrown (kx.cell 3 rfl)
  have q0 := Bx.mk fun dk osk => Calls.regrown_of (hN1.out (grow (redrawn w8 dk) osk) Far sb x y z (hS.out.later (below_regrown w8 dk osk)))
  refine wp_region_quiet_below (by kernel_rfl) (by kernel_rfl) ?_
  repeat (first | go_big_quiet_step ((first | with_reducible exact q0.out _ _)) | quiet_step (first | with_reducible exact q0.out _ _))
  refine wpQuiet_nil ?_
  rintro _ ⟨⟨dq, osq⟩, rfl⟩
  have hb := below_regrown w8 dq osq
  clear cx0 cx1 cx2 cx3
  clear q0
  replace hS := Bx.mk (hS.out.later hb)
  have hk := Keeps.below (Far := Far) hb
  replace hB := Bx.mk (below_of_keeps hB.out hk (fun j hj => hlo.out j hj))
  replace kg := kg.far hk (hing.out)
  replace kx := kx.far hk (hinx.out)
  replace kp := kp.far hk (hinp.out)
  replace hsl := Bx.mk (hsl.out.far hk (hinl.out))
  replace hZ := Nat.le_trans hZ hk.size
  clear hb hk
  generalize grow (redrawn w8 dq) osq = w9 at *
  go_wp2_with fail
  refine (len_any _ _ _ _ _ hS.out).mono ?_
  rintro _ _ ⟨rfl, rfl⟩
  go_wp2_with fail
  refine (hTr.out _ _ _ hS.out).mono ?_
  rintro _ w10 ⟨rfl, hs, hk⟩
  replace hS := Bx.mk hs
  clear hs
  replace hB := Bx.mk (below_of_keeps hB.out hk (fun j hj => hlo.out j hj))
  replace kg := kg.far hk (hing.out)
  replace kx := kx.far hk (hinx.out)
  replace kp := kp.far hk (hinp.out)
  replace hsl := Bx.mk (hsl.out.far hk (hinl.out))
  replace hZ := Nat.le_trans hZ hk.size
  clear hk
  go_wp2_with fail
  refine (len_any _ _ _ _ _ hS.out).mono ?_
  rintro _ _ ⟨rfl, rfl⟩
  have cx0 := kx.cell 0 rfl
  have cx1 := kx.cell 1 rfl
  have cx2 := kx.cell 2 rfl
  have cx3 := kx.cell 3 rfl
  go_wp2_with fail
  refine (hS0.out _ _ _ (fun j hj => Nat.lt_of_lt_of_le (hlt.out j hj) hZ) hS.out).mono ?_
  rintro _ w11 ⟨rfl, hs, hk⟩
  replace hS := Bx.mk hs
  clear hs
  replace hB := Bx.mk (below_of_keeps hB.out hk (fun j hj => hlo.out j hj))
  replace kg := kg.far hk (hing.out)
  replace kx := kx.far hk (hinx.out)
  replace kp := kp.far hk (hinp.out)
  replace hsl := Bx.mk (hsl.out.far hk (hinl.out))
  replace hZ := Nat.le_trans hZ hk.size
  clear hk
  clear cx0 cx1 cx2 cx3
  go_wp2_with fail
  refine (len_any _ _ _ _ _ hS.out).mono ?_
  rintro _ _ ⟨rfl, rfl⟩
  have cx0 := kx.cell 0 rfl
  have cx1 := kx.cell 1 rfl
  have cx2 := kx.cell 2 rfl
  have cx3 := kx.cell 3 rfl
  go_wp2_with fail
  refine (hG1.out _ _ _ _ _ _ hS.out).mono ?_
  rintro _ w12 ⟨rfl, hb⟩
  replace hS := Bx.mk (hS.out.later hb)
  have hk := Keeps.below (Far := Far) hb
  replace hB := Bx.mk (below_of_keeps hB.out hk (fun j hj => hlo.out j hj))
  replace kg := kg.far hk (hing.out)
  replace kx := kx.far hk (hinx.out)
  replace kp := kp.far hk (hinp.out)
  replace hsl := Bx.mk (hsl.out.far hk (hinl.out))
  replace hZ := Nat.le_trans hZ hk.size
  clear hb hk
  clear cx0 cx1 cx2 cx3
  have cp0 := kp.cell 0 rfl
  have cp1 := kp.cell 1 rfl
  have cp2 := kp.cell 2 rfl
  go_wp2_with fail
  refine (hG1.out _ _ _ _ _ _ hS.out).mono ?_
  rintro _ w13 ⟨rfl, hb⟩
  replace hS := Bx.mk (hS.out.later hb)
  have hk := Keeps.below (Far := Far) hb
  replace hB := Bx.mk (below_of_keeps hB.out hk (fun j hj => hlo.out j hj))
  replace kg := kg.far hk (hing.out)
  replace kx := kx.far hk (hinx.out)
  replace kp := kp.far hk (hinp.out)
  replace hsl := Bx.mk (hsl.out.far hk (hinl.out))
  replace hZ := Nat.le_trans hZ hk.size
  clear hb hk
  clear cp0 cp1 cp2
  have cg0 := kg.cell 0 rfl
  have cg1 := kg.cell 1 rfl
  have cg2 := kg.cell 2 rfl
  have cg3 := kg.cell 3 rfl
  have cg4 := kg.cell 4 rfl
  have cg5 := kg.cell 5 rfl
  have cg6 := kg.cell 6 rfl
  have cp0 := kp.cell 0 rfl
  have cp1 := kp.cell 1 rfl
  have cp2 := kp.cell 2 rfl
  go_wp2_with fail
  refine (hRef.out _ _ _ _ hsl.out).mono ?_
  rintro _ w14 ⟨rfl, hb⟩
  replace hS := Bx.mk (hS.out.later hb)
  have hk := Keeps.below (Far := Far) hb
  replace hB := Bx.mk (below_of_keeps hB.out hk (fun j hj => hlo.out j hj))
  replace kg := kg.far hk (hing.out)
  replace kx := kx.far hk (hinx.out)
  replace kp := kp.far hk (hinp.out)
  replace hsl := Bx.mk (hsl.out.far hk (hinl.out))
  replace hZ := Nat.le_trans hZ hk.size
  clear hb hk
  clear cg0 cg1 cg2 cg3 cg4 cg5 cg6 cp0 cp1 cp2
  go_wp2_with fail
  go_ret
  exact ⟨rfl, hB.out⟩
theorem keeps_true (a b c d e f dd x y z k px py pz : Int) (ha : Option Addr) (hcp : Nat) (xs : List Int) (hcap : xs.length ≤ hcp) (w : World) (hsl : Sl w .i64 ha xs) :
    Calls Try.prog 4 #[.agg #[.int .i64 a, .int .i64 b, .int .i64 c, .int .i64 d, .int .i64 e, .int .i64 f, .slice ha xs.length hcp], .int .i64 dd, .agg #[.int .i64 x, .int .i64 y, .int .i64 z, .int .i64 k], .agg #[.int .i64 px, .int .i64 py, .int .i64 pz]] w fun e' w' => e' = .returned (.bool true) ∧ Below w.heap.size w w' := by
  by_cases hl : xs.length ≤ 300
  · by_cases hE : fromE ⟨⟨a, b, c⟩, ⟨d, e, f⟩⟩ xs dd = 0
    · obtain ⟨n, hn, rfl, hV, hC⟩ := fromE_zero hE
      have HX := goodG_of hV hl hcap
      have hF := grid_fn HX hC
      have hT := Bx.mk (fun W h => built_yes a b c d e f ha hcp xs n hn HX hV hC W h)
      have hRef := Bx.mk (fun W px py pz h => ref_get a b c d e f px py pz ha hcp xs HX W h)
      have hL : (Tr.add (trF n (cellG ⟨⟨a, b, c⟩, ⟨d, e, f⟩⟩ xs)) []).length ≤ 3901 := by simpa using can_few HX hn good_nil
      have hG := good_fn hn hF good_nil
      have hm := Tr.mem_add (trF n (cellG ⟨⟨a, b, c⟩, ⟨d, e, f⟩⟩ xs)) []
      clear HX hE hV hC
      generalize cellG ⟨⟨a, b, c⟩, ⟨d, e, f⟩⟩ xs = F at *
      generalize hts : Tr.add (trF n F) [] = ts at *
      have hG0 := Bx.mk (fun W Far sb px py pz hS => get_fn W Far sb 100000 ts n F hn hF hG (by omega) hm px py pz hS)
      by_cases hok : inB ⟨x, y, z⟩ (cubeB (2 ^ (n + 2))) = true ∧ 0 ≤ k ∧ k ≤ 255
      · have hF1 := hF.upd hok.1 hok.2
        have hG1 := good_fn hn hF1 hG
        have hL1 := len_fn hn hok.1 hok.2 hG hm
        have hp := Tr.add_prefix (trF n (Tr.upd F ⟨x, y, z⟩ k)) ts
        have hb := between_add (trF n (Tr.upd F ⟨x, y, z⟩ k)) hG (wf_can hF1.range n _ (by omega))
        have hm1 := Tr.mem_add (trF n (Tr.upd F ⟨x, y, z⟩ k)) ts
        have hS0 := Bx.mk (fun W Far sb h hS => set_fn W Far sb 100000 ts n F hn hF hG (by omega) hm x y z k hok.1 hok.2 (by omega) h hS)
        have hS1 := Bx.mk (fun W Far sb h hS => set_fn W Far sb 100000 (Tr.add (trF n (Tr.upd F ⟨x, y, z⟩ k)) ts) n (Tr.upd F ⟨x, y, z⟩ k) hn hF1 hG1 (by omega) hm1 x y z (F ⟨x, y, z⟩) hok.1 (hF.range _) (by omega) h hS)
        rw [upd_back, Tr.add_same _ _ (hp.subset hm), idT_prefix hp hm] at hS1
        have hN1 := Bx.mk (fun W Far sb px py pz hS => get_fn W Far sb 100000 (Tr.add (trF n (Tr.upd F ⟨x, y, z⟩ k)) ts) n (Tr.upd F ⟨x, y, z⟩ k) hn hF1 hG1 (by omega) hm1 px py pz hS)
        have hGG := Bx.mk (fun W Far sb px py pz hS => get_fn W Far sb 100000 (Tr.add (trF n (Tr.upd F ⟨x, y, z⟩ k)) ts) n F hn hF hG1 (by omega) (hp.subset hm) px py pz hS)
        rw [idT_prefix hp hm] at hGG
        have hTr := Bx.mk (fun W Far sb hS => trim_any W Far sb 100000 ts (Tr.add (trF n (Tr.upd F ⟨x, y, z⟩ k)) ts) hp hb (by omega) hS)
        by_cases hxp : (⟨x, y, z⟩ : Pt) = ⟨px, py, pz⟩
        · exact keeps_same a b c d e f _ x y z k px py pz ha hcp xs w hl hsl _ _ F _ ts _ hT hG0 hRef hN1 hS0 hS1 hGG hTr (upd_at _ _ _) (by simpa using hxp)
        · exact keeps_off a b c d e f _ x y z k px py pz ha hcp xs w hl hsl _ _ F _ ts _ hT hG0 hRef hN1 hS0 hS1 hGG hTr (upd_at _ _ _) (by simpa using hxp) (upd_off (fun e => hxp e.symm))
      · exact keeps_err a b c d e f _ x y z k px py pz ha hcp xs w hl hsl _ F ts hT hG0 ⟨fun W sb => set_no W sb n hn _ x y z k hok⟩
    · exact keeps_none a b c d e f dd x y z k px py pz ha hcp xs w hl hsl hE
  · exact keeps_many a b c d e f dd x y z k px py pz ha hcp xs w hl
end Go.Proofs.Ytabclecmehdeoaa
end
