import Derived.Test.YtabclecmehdeoaaGreatGBld
import Derived.Laws.EntriesVeiled
section
/- Store.From, by the program. -/
namespace Go.Proofs.YtabclecmehdeoaaGreat
open Go.RowKit Go.Sort Go.Maps
open Oct

theorem al_zero (n : Nat) : Tr.Al n ⟨0, 0, 0⟩ := by unfold Tr.Al; simp
set_option maxHeartbeats 1000000 in
theorem from2_any (w : World) (Far : Nat → Prop) (pg ps pb sb : Nat) (a b c d e f : Int) (ha : Option Addr) (hcp : Nat) (xs : List Int) (HC : Bx (BCtx w Far pg ps pb sb a b c d e f ha hcp xs)) (HX : GoodG ⟨⟨a, b, c⟩, ⟨d, e, f⟩⟩ xs hcp) (pd n : Nat) (hn : n ≤ 12) (kd : Bk w pd #[.int .i64 ((n : Int) + 2)] 3) (most : Int) (ts : List Tr) (hG : Good ts) (hlen : (Tr.add (Tr.can (cellG ⟨⟨a, b, c⟩, ⟨d, e, f⟩⟩ xs) n ⟨0, 0, 0⟩) ts).length ≤ 1000000000000) (hFar : ∀ k, Far k → k < w.heap.size) (hS : StoreIs w Far sb most ts) :
    Calls Tryz.prog 34 #[.pointer (some ⟨pb, 0, none⟩), .pointer (some ⟨pd, 0, none⟩)] w (Grew Far sb most ts (Tr.add (Tr.can (cellG ⟨⟨a, b, c⟩, ⟨d, e, f⟩⟩ xs) n ⟨0, 0, 0⟩) ts) (Tr.can (cellG ⟨⟨a, b, c⟩, ⟨d, e, f⟩⟩ xs) n ⟨0, 0, 0⟩) w) := by
  have hp := pow_le (show n + 2 ≤ 14 by omega)
  have hb := Bx.mk (build_any n hn w Far pg ps pb sb a b c d e f ha hcp xs HC HX 0 0 0 (al_zero n) (by omega) (by omega) (by omega) most ts hG hlen hFar hS)
  have cd := kd.cell 0 rfl
  have cb := HC.out.kb.cell 0 rfl
  clear kd hp hlen hG hFar hS HX
  generalize (Tr.can (cellG ⟨⟨a, b, c⟩, ⟨d, e, f⟩⟩ xs) n ⟨0, 0, 0⟩) = T at *
  go_enter Tryz.func34, Tryz.ntmps34
  go_wp2_with fail
  refine hb.out.mono ?_
  rintro e w1 hg
  have Hg := Bx.mk hg
  obtain ⟨-, -, (⟨hf, rfl, hs⟩ | ⟨hf, rfl, us, hs⟩)⟩ := hg
  all_goals
    clear hf hs
    go_wp2_with fail
    go_ret2
    exact Hg.out
theorem from_lo (w : World) (sb : Nat) (a b c d e f dd : Int) (ha : Option Addr) (hcp : Nat) (xs : List Int) (h1 : dd < 2) :
    Calls Tryz.prog 7 #[.pointer (some ⟨sb, 0, none⟩), .agg #[.int .i64 a, .int .i64 b, .int .i64 c, .int .i64 d, .int .i64 e, .int .i64 f, .slice ha xs.length hcp], .int .i64 dd] w fun e w' => e = ret2 0 13 ∧ Below w.heap.size w w' := by
  go_enter Tryz.func7, Tryz.ntmps7
  go_upto_region 1 with fail
  generalize hW : World.alloc (World.alloc (World.alloc w _) _) _ = W
  have hSz : w.heap.size + 1 + 1 + 1 ≤ W.heap.size := by rw [← hW]; simp
  have hB : Below w.heap.size w W := by rw [← hW]; exact (((Below.refl _ _).alloc (Nat.le_refl _) _).alloc (by simp) _).alloc (by simp; omega) _
  have kr : Bk W (w.heap.size) #[.pointer (some ⟨sb, 0, none⟩)] 32 := by rw [← hW]; exact blk_old (blk_old (blk_new _ _ _ (by simp)))
  have kg : Bk W (w.heap.size + 1) #[.int .i64 a, .int .i64 b, .int .i64 c, .int .i64 d, .int .i64 e, .int .i64 f, .slice ha xs.length hcp] 28 := by rw [← hW]; exact blk_old (blk_new _ _ _ (by simp))
  have kd : Bk W (w.heap.size + 1 + 1) #[.int .i64 dd] 3 := by rw [← hW]; exact blk_new _ _ _ (by simp)
  clear hW
  have cd0 := kd.cell 0 rfl
  go_wp2_with fail
  go_ret2
  exact ⟨rfl, hB⟩
theorem from_hi (w : World) (sb : Nat) (a b c d e f dd : Int) (ha : Option Addr) (hcp : Nat) (xs : List Int) (h1 : ¬ dd < 2) (h2 : 14 < dd) :
    Calls Tryz.prog 7 #[.pointer (some ⟨sb, 0, none⟩), .agg #[.int .i64 a, .int .i64 b, .int .i64 c, .int .i64 d, .int .i64 e, .int .i64 f, .slice ha xs.length hcp], .int .i64 dd] w fun e w' => e = ret2 0 13 ∧ Below w.heap.size w w' := by
  go_enter Tryz.func7, Tryz.ntmps7
  go_upto_region 1 with fail
  generalize hW : World.alloc (World.alloc (World.alloc w _) _) _ = W
  have hSz : w.heap.size + 1 + 1 + 1 ≤ W.heap.size := by rw [← hW]; simp
  have hB : Below w.heap.size w W := by rw [← hW]; exact (((Below.refl _ _).alloc (Nat.le_refl _) _).alloc (by simp) _).alloc (by simp; omega) _
  have kr : Bk W (w.heap.size) #[.pointer (some ⟨sb, 0, none⟩)] 32 := by rw [← hW]; exact blk_old (blk_old (blk_new _ _ _ (by simp)))
  have kg : Bk W (w.heap.size + 1) #[.int .i64 a, .int .i64 b, .int .i64 c, .int .i64 d, .int .i64 e, .int .i64 f, .slice ha xs.length hcp] 28 := by rw [← hW]; exact blk_old (blk_new _ _ _ (by simp))
  have kd : Bk W (w.heap.size + 1 + 1) #[.int .i64 dd] 3 := by rw [← hW]; exact blk_new _ _ _ (by simp)
  clear hW
  have cd0 := kd.cell 0 rfl
  go_wp2_with fail
  go_ret2
  exact ⟨rfl, hB⟩
set_option maxHeartbeats 1000000 in
theorem from_bad (w : World) (sb : Nat) (a b c d e f : Int) (ha : Option Addr) (hcp : Nat) (xs : List Int) (n : Nat) (hn : n ≤ 12) (m : Int) (hm : m = 2 ^ (n + 2)) (hl : xs.length ≤ 1000000000) (hsl : Sl w .i64 ha xs) (hV : validG ⟨⟨a, b, c⟩, ⟨d, e, f⟩⟩ xs = false) :
    Calls Tryz.prog 7 #[.pointer (some ⟨sb, 0, none⟩), .agg #[.int .i64 a, .int .i64 b, .int .i64 c, .int .i64 d, .int .i64 e, .int .i64 f, .slice ha xs.length hcp], .int .i64 ((n : Int) + 2)] w fun e w' => e = ret2 0 1 ∧ Below w.heap.size w w' := by
  have hvalid := valid_any a b c d e f ha hcp xs
  have hempty := empty_any a b c d e f
  have hcube := fun W => cubeAt_any (n + 2) (by omega) 0 0 0 m hm (by omega) (by omega) (by omega) W
  have hcon := contains_any 0 0 0 (0 + m) (0 + m) (0 + m) a b c d e f
  rw [show ((n + 2 : Nat) : Int) = (n : Int) + 2 by omega] at hcube
  simp only [hV] at hvalid
  replace hvalid := Bx.mk hvalid
  replace hempty := Bx.mk hempty
  replace hcube := Bx.mk hcube
  replace hcon := Bx.mk hcon
  have hsl0 := Bx.mk hsl
  have t1 : decide ((n : Int) + 2 < 2) = false := by simp; omega
  have t2 : decide (14 < (n : Int) + 2) = false := by simp; omega
  have t3 : ¬ ((n : Int) + 2 < 2) := by omega
  have t4 : ¬ (14 < (n : Int) + 2) := by omega
  clear hsl hm hV
  go_enter Tryz.func7, Tryz.ntmps7
  go_upto_region 1 with fail
  generalize hW : World.alloc (World.alloc (World.alloc w _) _) _ = W
  have hSz : w.heap.size + 1 + 1 + 1 ≤ W.heap.size := by rw [← hW]; simp
  have hB : Below w.heap.size w W := by rw [← hW]; exact (((Below.refl _ _).alloc (Nat.le_refl _) _).alloc (by simp) _).alloc (by simp; omega) _
  have kr : Bk W (w.heap.size) #[.pointer (some ⟨sb, 0, none⟩)] 32 := by rw [← hW]; exact blk_old (blk_old (blk_new _ _ _ (by simp)))
  have kg : Bk W (w.heap.size + 1) #[.int .i64 a, .int .i64 b, .int .i64 c, .int .i64 d, .int .i64 e, .int .i64 f, .slice ha xs.length hcp] 28 := by rw [← hW]; exact blk_old (blk_new _ _ _ (by simp))
  have kd : Bk W (w.heap.size + 1 + 1) #[.int .i64 ((n : Int) + 2)] 3 := by rw [← hW]; exact blk_new _ _ _ (by simp)
  clear hW
  have cd0 := kd.cell 0 rfl
  go_wp2_with fail
  clear cd0
  have hsl1 := Bx.mk (hsl0.out.below hB)
  have cg0 : ∀ dk osk, (grow (redrawn W dk) osk).cell? ⟨w.heap.size + 1, 0, none⟩ = some (.int .i64 a) := cell_regrown (kg.cell 0 rfl)
  have cg1 : ∀ dk osk, (grow (redrawn W dk) osk).cell? ⟨w.heap.size + 1, 1, none⟩ = some (.int .i64 b) := cell_regrown (kg.cell 1 rfl)
  have cg2 : ∀ dk osk, (grow (redrawn W dk) osk).cell? ⟨w.heap.size + 1, 2, none⟩ = some (.int .i64 c) := cell_regrown (kg.cell 2 rfl)
  have cg3 : ∀ dk osk, (grow (redrawn W dk) osk).cell? ⟨w.heap.size + 1, 3, none⟩ = some (.int .i64 d) := cell_regrown (kg.cell 3 rfl)
  have cg4 : ∀ dk osk, (grow (redrawn W dk) osk).cell? ⟨w.heap.size + 1, 4, none⟩ = some (.int .i64 e) := cell_regrown (kg.cell 4 rfl)
  have cg5 : ∀ dk osk, (grow (redrawn W dk) osk).cell? ⟨w.heap.size + 1, 5, none⟩ = some (.int .i64 f) := cell_regrown (kg.cell 5 rfl)
  have cg6 : ∀ dk osk, (grow (redrawn W dk) osk).cell? ⟨w.heap.size + 1, 6, none⟩ = some (.slice ha xs.length hcp) := cell_regrown (kg.cell 6 rfl)
  have cd0 : ∀ dk osk, (grow (redrawn W dk) osk).cell? ⟨w.heap.size + 1 + 1, 0, none⟩ = some (.int .i64 ((n : Int) + 2)) := cell_regrown (kd.cell 0 rfl)
  have q0 := Bx.mk fun dk osk => Calls.regrown_of (hvalid.out (grow (redrawn W dk) osk) hl (hsl1.out.below (below_regrown W dk osk)))
  refine wp_region_quiet_below (by kernel_rfl) (by kernel_rfl) ?_
  repeat (first | go_big_quiet_step ((first | with_reducible exact q0.out _ _)) | quiet_step (first | with_reducible exact q0.out _ _))
  refine wpQuiet_nil ?_
  rintro _ ⟨⟨dq, osq⟩, rfl⟩
  have hb := below_regrown W dq osq
  clear cg0 cg1 cg2 cg3 cg4 cg5 cg6
  clear cd0
  clear q0
  replace hB := hB.trans (hb.mono hB.size)
  replace kr := kr.later hb
  replace kg := kg.later hb
  replace kd := kd.later hb
  replace hSz := Nat.le_trans hSz hb.size
  clear hb
  generalize grow (redrawn W dq) osq = W1 at *
  go_wp2_with fail
  go_ret2
  exact ⟨rfl, hB⟩
set_option maxHeartbeats 1000000 in
theorem from_out (w : World) (sb : Nat) (a b c d e f : Int) (ha : Option Addr) (hcp : Nat) (xs : List Int) (n : Nat) (hn : n ≤ 12) (m : Int) (hm : m = 2 ^ (n + 2)) (hl : xs.length ≤ 1000000000) (hsl : Sl w .i64 ha xs) (hV : validG ⟨⟨a, b, c⟩, ⟨d, e, f⟩⟩ xs = true) (hE : emptyB ⟨⟨a, b, c⟩, ⟨d, e, f⟩⟩ = false) (hC : containsB ⟨⟨0, 0, 0⟩, ⟨m, m, m⟩⟩ ⟨⟨a, b, c⟩, ⟨d, e, f⟩⟩ = false) :
    Calls Tryz.prog 7 #[.pointer (some ⟨sb, 0, none⟩), .agg #[.int .i64 a, .int .i64 b, .int .i64 c, .int .i64 d, .int .i64 e, .int .i64 f, .slice ha xs.length hcp], .int .i64 ((n : Int) + 2)] w fun e w' => e = ret2 0 1 ∧ Below w.heap.size w w' := by
  have hvalid := valid_any a b c d e f ha hcp xs
  have hempty := empty_any a b c d e f
  have hcube := fun W => cubeAt_any (n + 2) (by omega) 0 0 0 m hm (by omega) (by omega) (by omega) W
  have hcon := contains_any 0 0 0 (0 + m) (0 + m) (0 + m) a b c d e f
  rw [show ((n + 2 : Nat) : Int) = (n : Int) + 2 by omega] at hcube
  simp only [hV] at hvalid
  simp only [hE] at hempty
  simp only [Int.zero_add] at hcon hcube
  simp only [hC] at hcon
  replace hvalid := Bx.mk hvalid
  replace hempty := Bx.mk hempty
  replace hcube := Bx.mk hcube
  replace hcon := Bx.mk hcon
  have hsl0 := Bx.mk hsl
  have t1 : decide ((n : Int) + 2 < 2) = false := by simp; omega
  have t2 : decide (14 < (n : Int) + 2) = false := by simp; omega
  have t3 : ¬ ((n : Int) + 2 < 2) := by omega
  have t4 : ¬ (14 < (n : Int) + 2) := by omega
  clear hsl hm hV hE hC
  go_enter Tryz.func7, Tryz.ntmps7
  go_upto_region 1 with fail
  generalize hW : World.alloc (World.alloc (World.alloc w _) _) _ = W
  have hSz : w.heap.size + 1 + 1 + 1 ≤ W.heap.size := by rw [← hW]; simp
  have hB : Below w.heap.size w W := by rw [← hW]; exact (((Below.refl _ _).alloc (Nat.le_refl _) _).alloc (by simp) _).alloc (by simp; omega) _
  have kr : Bk W (w.heap.size) #[.pointer (some ⟨sb, 0, none⟩)] 32 := by rw [← hW]; exact blk_old (blk_old (blk_new _ _ _ (by simp)))
  have kg : Bk W (w.heap.size + 1) #[.int .i64 a, .int .i64 b, .int .i64 c, .int .i64 d, .int .i64 e, .int .i64 f, .slice ha xs.length hcp] 28 := by rw [← hW]; exact blk_old (blk_new _ _ _ (by simp))
  have kd : Bk W (w.heap.size + 1 + 1) #[.int .i64 ((n : Int) + 2)] 3 := by rw [← hW]; exact blk_new _ _ _ (by simp)
  clear hW
  have cd0 := kd.cell 0 rfl
  go_wp2_with fail
  clear cd0
  have hsl1 := Bx.mk (hsl0.out.below hB)
  have cg0 : ∀ dk osk, (grow (redrawn W dk) osk).cell? ⟨w.heap.size + 1, 0, none⟩ = some (.int .i64 a) := cell_regrown (kg.cell 0 rfl)
  have cg1 : ∀ dk osk, (grow (redrawn W dk) osk).cell? ⟨w.heap.size + 1, 1, none⟩ = some (.int .i64 b) := cell_regrown (kg.cell 1 rfl)
  have cg2 : ∀ dk osk, (grow (redrawn W dk) osk).cell? ⟨w.heap.size + 1, 2, none⟩ = some (.int .i64 c) := cell_regrown (kg.cell 2 rfl)
  have cg3 : ∀ dk osk, (grow (redrawn W dk) osk).cell? ⟨w.heap.size + 1, 3, none⟩ = some (.int .i64 d) := cell_regrown (kg.cell 3 rfl)
  have cg4 : ∀ dk osk, (grow (redrawn W dk) osk).cell? ⟨w.heap.size + 1, 4, none⟩ = some (.int .i64 e) := cell_regrown (kg.cell 4 rfl)
  have cg5 : ∀ dk osk, (grow (redrawn W dk) osk).cell? ⟨w.heap.size + 1, 5, none⟩ = some (.int .i64 f) := cell_regrown (kg.cell 5 rfl)
  have cg6 : ∀ dk osk, (grow (redrawn W dk) osk).cell? ⟨w.heap.size + 1, 6, none⟩ = some (.slice ha xs.length hcp) := cell_regrown (kg.cell 6 rfl)
  have cd0 : ∀ dk osk, (grow (redrawn W dk) osk).cell? ⟨w.heap.size + 1 + 1, 0, none⟩ = some (.int .i64 ((n : Int) + 2)) := cell_regrown (kd.cell 0 rfl)
  have q0 := Bx.mk fun dk osk => Calls.regrown_of (hvalid.out (grow (redrawn W dk) osk) hl (hsl1.out.below (below_regrown W dk osk)))
  have q1 := Bx.mk fun dk osk => Calls.regrown_of (hempty.out (grow (redrawn W dk) osk))
  have q2 := Bx.mk fun dk osk => Calls.regrown_of (hcube.out (grow (redrawn W dk) osk))
  have q3 := Bx.mk fun dk osk => Calls.regrown_of (hcon.out (grow (redrawn W dk) osk))
  refine wp_region_quiet_below (by kernel_rfl) (by kernel_rfl) ?_
  repeat (first | go_big_quiet_step ((first | with_reducible exact q0.out _ _ | with_reducible exact q1.out _ _ | with_reducible exact q2.out _ _ | with_reducible exact q3.out _ _)) | quiet_step (first | with_reducible exact q0.out _ _ | with_reducible exact q1.out _ _ | with_reducible exact q2.out _ _ | with_reducible exact q3.out _ _))
  refine wpQuiet_nil ?_
  rintro _ ⟨⟨dq, osq⟩, rfl⟩
  have hb := below_regrown W dq osq
  clear cg0 cg1 cg2 cg3 cg4 cg5 cg6
  clear cd0
  clear q0
  clear q1
  clear q2
  clear q3
  replace hB := hB.trans (hb.mono hB.size)
  replace kr := kr.later hb
  replace kg := kg.later hb
  replace kd := kd.later hb
  replace hSz := Nat.le_trans hSz hb.size
  clear hb
  generalize grow (redrawn W dq) osq = W1 at *
  go_wp2_with fail
  go_ret2
  exact ⟨rfl, hB⟩
theorem Done.since {w W w' : World} {Far Far' : Nat → Prop} {sb : Nat} {most : Int} {ts ts' : List Tr} {t : Tr} {e : Ending} (h : Done Far' sb most ts ts' t W e w') (hb : Below w.heap.size w W) (hf : ∀ k, Far k → Far' k) : Done Far sb most ts ts' t w e w' := by
  refine ⟨(Keeps.below hb).trans (h.keeps.less hf), Nat.le_trans hb.size h.size, ?_⟩
  rcases h.way with ⟨h1, h2, h3⟩ | ⟨h1, h2, h3⟩
  · exact .inl ⟨h1, h2, h3.less hf⟩
  · exact .inr ⟨h1, h2, h3.less hf⟩
set_option maxRecDepth 100000 in
set_option maxHeartbeats 1000000 in
theorem from_emp (w : World) (sb : Nat) (a b c d e f : Int) (ha : Option Addr) (hcp : Nat) (xs : List Int) (n : Nat) (hn : n ≤ 12) (m : Int) (hm : m = 2 ^ (n + 2)) (hl : xs.length ≤ 1000000000) (hsl : Sl w .i64 ha xs) (HX : GoodG ⟨⟨a, b, c⟩, ⟨d, e, f⟩⟩ xs hcp) (hV : validG ⟨⟨a, b, c⟩, ⟨d, e, f⟩⟩ xs = true) (hE : emptyB ⟨⟨a, b, c⟩, ⟨d, e, f⟩⟩ = true) (Far : Nat → Prop) (hfx : xs ≠ [] → ∀ b, ha.map (·.block) = some b → Far b) (most : Int) (ts : List Tr) (hG : Good ts) (hlen : (Tr.add (Tr.can (cellG ⟨⟨a, b, c⟩, ⟨d, e, f⟩⟩ xs) n ⟨0, 0, 0⟩) ts).length ≤ 1000000000000) (hFar : ∀ k, Far k → k < w.heap.size) (hS : StoreIs w Far sb most ts) :
    Calls Tryz.prog 7 #[.pointer (some ⟨sb, 0, none⟩), .agg #[.int .i64 a, .int .i64 b, .int .i64 c, .int .i64 d, .int .i64 e, .int .i64 f, .slice ha xs.length hcp], .int .i64 ((n : Int) + 2)] w (Done Far sb most ts (Tr.add (Tr.can (cellG ⟨⟨a, b, c⟩, ⟨d, e, f⟩⟩ xs) n ⟨0, 0, 0⟩) ts) (Tr.can (cellG ⟨⟨a, b, c⟩, ⟨d, e, f⟩⟩ xs) n ⟨0, 0, 0⟩) w) := by
  have hwf := wf_can HX.range n ⟨0, 0, 0⟩ (by omega)
  have HW := Bx.mk (fun W1 W5 hb pd kd hn5 HC => whole_from W5 (fun x => Far x ∨ (w.heap.size ≤ x ∧ x < W5.heap.size)) sb most ts (Tr.add (Tr.can (cellG ⟨⟨a, b, c⟩, ⟨d, e, f⟩⟩ xs) n ⟨0, 0, 0⟩) ts) (Tr.can (cellG ⟨⟨a, b, c⟩, ⟨d, e, f⟩⟩ xs) n ⟨0, 0, 0⟩) ⟨W1, 0, none⟩ ⟨pd, 0, none⟩ (between_add _ hG hwf) hlen
    ((hS.widen (fun k hk => hk.imp id (fun h => h.1))).later hb)
    (from2_any W5 (fun x => Far x ∨ (w.heap.size ≤ x ∧ x < W5.heap.size)) (w.heap.size + 1) w.heap.size W1 sb a b c d e f ha hcp xs ⟨HC⟩ HX pd n hn kd most ts hG hlen (fun k hk => hk.elim (fun h => Nat.lt_of_lt_of_le (hFar k h) hn5) (fun h => h.2)) ((hS.widen (fun k hk => hk.imp id (fun h => h.1))).later hb)))
  have hfx := Bx.mk hfx
  clear hwf HX hG hlen hFar hS
  generalize (Tr.can (cellG ⟨⟨a, b, c⟩, ⟨d, e, f⟩⟩ xs) n ⟨0, 0, 0⟩) = T at *
  have hvalid := valid_any a b c d e f ha hcp xs
  have hempty := empty_any a b c d e f
  have hcube := fun W => cubeAt_any (n + 2) (by omega) 0 0 0 m hm (by omega) (by omega) (by omega) W
  have hcon := contains_any 0 0 0 (0 + m) (0 + m) (0 + m) a b c d e f
  rw [show ((n + 2 : Nat) : Int) = (n : Int) + 2 by omega] at hcube
  simp only [hV] at hvalid
  simp only [hE] at hempty
  replace hvalid := Bx.mk hvalid
  replace hempty := Bx.mk hempty
  replace hcube := Bx.mk hcube
  replace hcon := Bx.mk hcon
  have hsl0 := Bx.mk hsl
  have t1 : decide ((n : Int) + 2 < 2) = false := by simp; omega
  have t2 : decide (14 < (n : Int) + 2) = false := by simp; omega
  have t3 : ¬ ((n : Int) + 2 < 2) := by omega
  have t4 : ¬ (14 < (n : Int) + 2) := by omega
  clear hsl hm hV hE
  go_enter Tryz.func7, Tryz.ntmps7
  go_upto_region 1 with fail
  generalize hW : World.alloc (World.alloc (World.alloc w _) _) _ = W
  have hSz : w.heap.size + 1 + 1 + 1 ≤ W.heap.size := by rw [← hW]; simp
  have hB : Below w.heap.size w W := by rw [← hW]; exact (((Below.refl _ _).alloc (Nat.le_refl _) _).alloc (by simp) _).alloc (by simp; omega) _
  have kr : Bk W (w.heap.size) #[.pointer (some ⟨sb, 0, none⟩)] 32 := by rw [← hW]; exact blk_old (blk_old (blk_new _ _ _ (by simp)))
  have kg : Bk W (w.heap.size + 1) #[.int .i64 a, .int .i64 b, .int .i64 c, .int .i64 d, .int .i64 e, .int .i64 f, .slice ha xs.length hcp] 28 := by rw [← hW]; exact blk_old (blk_new _ _ _ (by simp))
  have kd : Bk W (w.heap.size + 1 + 1) #[.int .i64 ((n : Int) + 2)] 3 := by rw [← hW]; exact blk_new _ _ _ (by simp)
  clear hW
  have cd0 := kd.cell 0 rfl
  go_wp2_with fail
  clear cd0
  have hsl1 := Bx.mk (hsl0.out.below hB)
  have cg0 : ∀ dk osk, (grow (redrawn W dk) osk).cell? ⟨w.heap.size + 1, 0, none⟩ = some (.int .i64 a) := cell_regrown (kg.cell 0 rfl)
  have cg1 : ∀ dk osk, (grow (redrawn W dk) osk).cell? ⟨w.heap.size + 1, 1, none⟩ = some (.int .i64 b) := cell_regrown (kg.cell 1 rfl)
  have cg2 : ∀ dk osk, (grow (redrawn W dk) osk).cell? ⟨w.heap.size + 1, 2, none⟩ = some (.int .i64 c) := cell_regrown (kg.cell 2 rfl)
  have cg3 : ∀ dk osk, (grow (redrawn W dk) osk).cell? ⟨w.heap.size + 1, 3, none⟩ = some (.int .i64 d) := cell_regrown (kg.cell 3 rfl)
  have cg4 : ∀ dk osk, (grow (redrawn W dk) osk).cell? ⟨w.heap.size + 1, 4, none⟩ = some (.int .i64 e) := cell_regrown (kg.cell 4 rfl)
  have cg5 : ∀ dk osk, (grow (redrawn W dk) osk).cell? ⟨w.heap.size + 1, 5, none⟩ = some (.int .i64 f) := cell_regrown (kg.cell 5 rfl)
  have cg6 : ∀ dk osk, (grow (redrawn W dk) osk).cell? ⟨w.heap.size + 1, 6, none⟩ = some (.slice ha xs.length hcp) := cell_regrown (kg.cell 6 rfl)
  have cd0 : ∀ dk osk, (grow (redrawn W dk) osk).cell? ⟨w.heap.size + 1 + 1, 0, none⟩ = some (.int .i64 ((n : Int) + 2)) := cell_regrown (kd.cell 0 rfl)
  have q0 := Bx.mk fun dk osk => Calls.regrown_of (hvalid.out (grow (redrawn W dk) osk) hl (hsl1.out.below (below_regrown W dk osk)))
  have q1 := Bx.mk fun dk osk => Calls.regrown_of (hempty.out (grow (redrawn W dk) osk))
  refine wp_region_quiet_below (by kernel_rfl) (by kernel_rfl) ?_
  repeat (first | go_big_quiet_step ((first | with_reducible exact q0.out _ _ | with_reducible exact q1.out _ _)) | quiet_step (first | with_reducible exact q0.out _ _ | with_reducible exact q1.out _ _))
  refine wpQuiet_nil ?_
  rintro _ ⟨⟨dq, osq⟩, rfl⟩
  have hb := below_regrown W dq osq
  clear cg0 cg1 cg2 cg3 cg4 cg5 cg6
  clear cd0
  clear q0
  clear q1
  replace hB := hB.trans (hb.mono hB.size)
  replace kr := kr.later hb
  replace kg := kg.later hb
  replace kd := kd.later hb
  replace hSz := Nat.le_trans hSz hb.size
  clear hb
  generalize grow (redrawn W dq) osq = W1 at *
  have crr : ∀ o, (W1.alloc o).cell? ⟨w.heap.size, 0, none⟩ = some (.pointer (some ⟨sb, 0, none⟩)) := fun o => (kr.alloc o).cell 0 rfl
  go_wp2_with fail
  generalize hW5 : World.alloc W1 _ = W5
  have hb5 : Below W1.heap.size W1 W5 := by rw [← hW5]; exact below_lit _ _
  have kb : Bk W5 W1.heap.size #[.func (.func 27) #[] #[.pointer (some ⟨w.heap.size + 1, 0, none⟩), .pointer (some ⟨w.heap.size, 0, none⟩), .pointer (some ⟨W1.heap.size, 0, none⟩)]] 64 := by rw [← hW5]; exact blk_new _ _ _ rfl
  have hs5 : W5.heap.size = W1.heap.size + 1 := by rw [← hW5]; simp
  have hB5 := Bx.mk (hB.trans (hb5.mono hB.size))
  have HC : Bx (BCtx W5 (fun x => Far x ∨ (w.heap.size ≤ x ∧ x < W5.heap.size)) (w.heap.size + 1) w.heap.size W1.heap.size sb a b c d e f ha hcp xs) := ⟨⟨kg.later hb5, kr.later hb5, kb, .inr ⟨by omega, by omega⟩, .inr ⟨by omega, by omega⟩, .inr ⟨by omega, by omega⟩, hsl0.out.below hB5.out, fun hx b hb => .inl (hfx.out hx b hb)⟩⟩
  have kd5 := Bx.mk (kd.later hb5)
  clear hW5 kb hb5 crr kr kg kd hsl1
  refine (HW.out _ W5 hB5.out _ kd5.out hB5.out.size HC.out).mono ?_
  rintro e9 w9 hg
  have Hg := Bx.mk (hg.since (Far := Far) hB5.out (fun k hk => .inl hk))
  obtain ⟨-, -, (⟨hf, rfl, hs⟩ | ⟨hf, rfl, hs⟩)⟩ := hg
  all_goals
    clear hf hs
    go_wp2_with fail
    go_ret2
    exact Hg.out
set_option maxRecDepth 100000 in
set_option maxHeartbeats 1000000 in
theorem from_con (w : World) (sb : Nat) (a b c d e f : Int) (ha : Option Addr) (hcp : Nat) (xs : List Int) (n : Nat) (hn : n ≤ 12) (m : Int) (hm : m = 2 ^ (n + 2)) (hl : xs.length ≤ 1000000000) (hsl : Sl w .i64 ha xs) (HX : GoodG ⟨⟨a, b, c⟩, ⟨d, e, f⟩⟩ xs hcp) (hV : validG ⟨⟨a, b, c⟩, ⟨d, e, f⟩⟩ xs = true) (hE : emptyB ⟨⟨a, b, c⟩, ⟨d, e, f⟩⟩ = false) (hC : containsB ⟨⟨0, 0, 0⟩, ⟨m, m, m⟩⟩ ⟨⟨a, b, c⟩, ⟨d, e, f⟩⟩ = true) (Far : Nat → Prop) (hfx : xs ≠ [] → ∀ b, ha.map (·.block) = some b → Far b) (most : Int) (ts : List Tr) (hG : Good ts) (hlen : (Tr.add (Tr.can (cellG ⟨⟨a, b, c⟩, ⟨d, e, f⟩⟩ xs) n ⟨0, 0, 0⟩) ts).length ≤ 1000000000000) (hFar : ∀ k, Far k → k < w.heap.size) (hS : StoreIs w Far sb most ts) :
    Calls Tryz.prog 7 #[.pointer (some ⟨sb, 0, none⟩), .agg #[.int .i64 a, .int .i64 b, .int .i64 c, .int .i64 d, .int .i64 e, .int .i64 f, .slice ha xs.length hcp], .int .i64 ((n : Int) + 2)] w (Done Far sb most ts (Tr.add (Tr.can (cellG ⟨⟨a, b, c⟩, ⟨d, e, f⟩⟩ xs) n ⟨0, 0, 0⟩) ts) (Tr.can (cellG ⟨⟨a, b, c⟩, ⟨d, e, f⟩⟩ xs) n ⟨0, 0, 0⟩) w) := by
  have hwf := wf_can HX.range n ⟨0, 0, 0⟩ (by omega)
  have HW := Bx.mk (fun W1 W5 hb pd kd hn5 HC => whole_from W5 (fun x => Far x ∨ (w.heap.size ≤ x ∧ x < W5.heap.size)) sb most ts (Tr.add (Tr.can (cellG ⟨⟨a, b, c⟩, ⟨d, e, f⟩⟩ xs) n ⟨0, 0, 0⟩) ts) (Tr.can (cellG ⟨⟨a, b, c⟩, ⟨d, e, f⟩⟩ xs) n ⟨0, 0, 0⟩) ⟨W1, 0, none⟩ ⟨pd, 0, none⟩ (between_add _ hG hwf) hlen
    ((hS.widen (fun k hk => hk.imp id (fun h => h.1))).later hb)
    (from2_any W5 (fun x => Far x ∨ (w.heap.size ≤ x ∧ x < W5.heap.size)) (w.heap.size + 1) w.heap.size W1 sb a b c d e f ha hcp xs ⟨HC⟩ HX pd n hn kd most ts hG hlen (fun k hk => hk.elim (fun h => Nat.lt_of_lt_of_le (hFar k h) hn5) (fun h => h.2)) ((hS.widen (fun k hk => hk.imp id (fun h => h.1))).later hb)))
  have hfx := Bx.mk hfx
  clear hwf HX hG hlen hFar hS
  generalize (Tr.can (cellG ⟨⟨a, b, c⟩, ⟨d, e, f⟩⟩ xs) n ⟨0, 0, 0⟩) = T at *
  have hvalid := valid_any a b c d e f ha hcp xs
  have hempty := empty_any a b c d e f
  have hcube := fun W => cubeAt_any (n + 2) (by omega) 0 0 0 m hm (by omega) (by omega) (by omega) W
  have hcon := contains_any 0 0 0 (0 + m) (0 + m) (0 + m) a b c d e f
  rw [show ((n + 2 : Nat) : Int) = (n : Int) + 2 by omega] at hcube
  simp only [hV] at hvalid
  simp only [hE] at hempty
  simp only [Int.zero_add] at hcon hcube
  simp only [hC] at hcon
  replace hvalid := Bx.mk hvalid
  replace hempty := Bx.mk hempty
  replace hcube := Bx.mk hcube
  replace hcon := Bx.mk hcon
  have hsl0 := Bx.mk hsl
  have t1 : decide ((n : Int) + 2 < 2) = false := by simp; omega
  have t2 : decide (14 < (n : Int) + 2) = false := by simp; omega
  have t3 : ¬ ((n : Int) + 2 < 2) := by omega
  have t4 : ¬ (14 < (n : Int) + 2) := by omega
  clear hsl hm hV hE hC
  go_enter Tryz.func7, Tryz.ntmps7
  go_upto_region 1 with fail
  generalize hW : World.alloc (World.alloc (World.alloc w _) _) _ = W
  have hSz : w.heap.size + 1 + 1 + 1 ≤ W.heap.size := by rw [← hW]; simp
  have hB : Below w.heap.size w W := by rw [← hW]; exact (((Below.refl _ _).alloc (Nat.le_refl _) _).alloc (by simp) _).alloc (by simp; omega) _
  have kr : Bk W (w.heap.size) #[.pointer (some ⟨sb, 0, none⟩)] 32 := by rw [← hW]; exact blk_old (blk_old (blk_new _ _ _ (by simp)))
  have kg : Bk W (w.heap.size + 1) #[.int .i64 a, .int .i64 b, .int .i64 c, .int .i64 d, .int .i64 e, .int .i64 f, .slice ha xs.length hcp] 28 := by rw [← hW]; exact blk_old (blk_new _ _ _ (by simp))
  have kd : Bk W (w.heap.size + 1 + 1) #[.int .i64 ((n : Int) + 2)] 3 := by rw [← hW]; exact blk_new _ _ _ (by simp)
  clear hW
  have cd0 := kd.cell 0 rfl
  go_wp2_with fail
  clear cd0
  have hsl1 := Bx.mk (hsl0.out.below hB)
  have cg0 : ∀ dk osk, (grow (redrawn W dk) osk).cell? ⟨w.heap.size + 1, 0, none⟩ = some (.int .i64 a) := cell_regrown (kg.cell 0 rfl)
  have cg1 : ∀ dk osk, (grow (redrawn W dk) osk).cell? ⟨w.heap.size + 1, 1, none⟩ = some (.int .i64 b) := cell_regrown (kg.cell 1 rfl)
  have cg2 : ∀ dk osk, (grow (redrawn W dk) osk).cell? ⟨w.heap.size + 1, 2, none⟩ = some (.int .i64 c) := cell_regrown (kg.cell 2 rfl)
  have cg3 : ∀ dk osk, (grow (redrawn W dk) osk).cell? ⟨w.heap.size + 1, 3, none⟩ = some (.int .i64 d) := cell_regrown (kg.cell 3 rfl)
  have cg4 : ∀ dk osk, (grow (redrawn W dk) osk).cell? ⟨w.heap.size + 1, 4, none⟩ = some (.int .i64 e) := cell_regrown (kg.cell 4 rfl)
  have cg5 : ∀ dk osk, (grow (redrawn W dk) osk).cell? ⟨w.heap.size + 1, 5, none⟩ = some (.int .i64 f) := cell_regrown (kg.cell 5 rfl)
  have cg6 : ∀ dk osk, (grow (redrawn W dk) osk).cell? ⟨w.heap.size + 1, 6, none⟩ = some (.slice ha xs.length hcp) := cell_regrown (kg.cell 6 rfl)
  have cd0 : ∀ dk osk, (grow (redrawn W dk) osk).cell? ⟨w.heap.size + 1 + 1, 0, none⟩ = some (.int .i64 ((n : Int) + 2)) := cell_regrown (kd.cell 0 rfl)
  have q0 := Bx.mk fun dk osk => Calls.regrown_of (hvalid.out (grow (redrawn W dk) osk) hl (hsl1.out.below (below_regrown W dk osk)))
  have q1 := Bx.mk fun dk osk => Calls.regrown_of (hempty.out (grow (redrawn W dk) osk))
  have q2 := Bx.mk fun dk osk => Calls.regrown_of (hcube.out (grow (redrawn W dk) osk))
  have q3 := Bx.mk fun dk osk => Calls.regrown_of (hcon.out (grow (redrawn W dk) osk))
  refine wp_region_quiet_below (by kernel_rfl) (by kernel_rfl) ?_
  repeat (first | go_big_quiet_step ((first | with_reducible exact q0.out _ _ | with_reducible exact q1.out _ _ | with_reducible exact q2.out _ _ | with_reducible exact q3.out _ _)) | quiet_step (first | with_reducible exact q0.out _ _ | with_reducible exact q1.out _ _ | with_reducible exact q2.out _ _ | with_reducible exact q3.out _ _))
  refine wpQuiet_nil ?_
  rintro _ ⟨⟨dq, osq⟩, rfl⟩
  have hb := below_regrown W dq osq
  clear cg0 cg1 cg2 cg3 cg4 cg5 cg6
  clear cd0
  clear q0
  clear q1
  clear q2
  clear q3
  replace hB := hB.trans (hb.mono hB.size)
  replace kr := kr.later hb
  replace kg := kg.later hb
  replace kd := kd.later hb
  replace hSz := Nat.le_trans hSz hb.size
  clear hb
  generalize grow (redrawn W dq) osq = W1 at *
  have crr : ∀ o, (W1.alloc o).cell? ⟨w.heap.size, 0, none⟩ = some (.pointer (some ⟨sb, 0, none⟩)) := fun o => (kr.alloc o).cell 0 rfl
  go_wp2_with fail
  generalize hW5 : World.alloc W1 _ = W5
  have hb5 : Below W1.heap.size W1 W5 := by rw [← hW5]; exact below_lit _ _
  have kb : Bk W5 W1.heap.size #[.func (.func 27) #[] #[.pointer (some ⟨w.heap.size + 1, 0, none⟩), .pointer (some ⟨w.heap.size, 0, none⟩), .pointer (some ⟨W1.heap.size, 0, none⟩)]] 64 := by rw [← hW5]; exact blk_new _ _ _ rfl
  have hs5 : W5.heap.size = W1.heap.size + 1 := by rw [← hW5]; simp
  have hB5 := Bx.mk (hB.trans (hb5.mono hB.size))
  have HC : Bx (BCtx W5 (fun x => Far x ∨ (w.heap.size ≤ x ∧ x < W5.heap.size)) (w.heap.size + 1) w.heap.size W1.heap.size sb a b c d e f ha hcp xs) := ⟨⟨kg.later hb5, kr.later hb5, kb, .inr ⟨by omega, by omega⟩, .inr ⟨by omega, by omega⟩, .inr ⟨by omega, by omega⟩, hsl0.out.below hB5.out, fun hx b hb => .inl (hfx.out hx b hb)⟩⟩
  have kd5 := Bx.mk (kd.later hb5)
  clear hW5 kb hb5 crr kr kg kd hsl1
  refine (HW.out _ W5 hB5.out _ kd5.out hB5.out.size HC.out).mono ?_
  rintro e9 w9 hg
  have Hg := Bx.mk (hg.since (Far := Far) hB5.out (fun k hk => .inl hk))
  obtain ⟨-, -, (⟨hf, rfl, hs⟩ | ⟨hf, rfl, hs⟩)⟩ := hg
  all_goals
    clear hf hs
    go_wp2_with fail
    go_ret2
    exact Hg.out
end Go.Proofs.YtabclecmehdeoaaGreat
end
