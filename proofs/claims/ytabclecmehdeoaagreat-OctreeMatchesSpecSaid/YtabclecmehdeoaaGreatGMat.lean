import Derived.Test.YtabclecmehdeoaaGreatGMtp
import Derived.Test.YtabclecmehdeoaaGreatGSan
section
/- The walk of OctreeMatchesSpec. -/
namespace Go.Proofs.YtabclecmehdeoaaGreat
open Go.RowKit Go.Sort Go.Maps
open Oct

set_option maxRecDepth 100000 in
set_option maxHeartbeats 8000000 in
theorem match_many (most a b c d e f dd : Int) (ha hb : Option Addr) (hcp hcq : Nat) (xs : List Int) (es : List Ed) (w : World) (hl : ¬ (xs.length ≤ 300 ∧ es.length ≤ 12)) :
    Calls Tryz.prog 3 #[.int .i64 most, .agg #[.int .i64 a, .int .i64 b, .int .i64 c, .int .i64 d, .int .i64 e, .int .i64 f, .slice ha xs.length hcp], .int .i64 dd, .slice hb es.length hcq] w fun e' w' => e' = .returned (.bool true) ∧ Below w.heap.size w w' := by
  go_enter Tryz.func3, Tryz.ntmps3
  go_wp2_with fail
  generalize hW : World.alloc w _ = W
  have hSz : w.heap.size + 1 ≤ W.heap.size := by rw [← hW]; simp
  have hB : Below w.heap.size w W := by rw [← hW]; exact (Below.refl _ _).alloc (Nat.le_refl _) _
  have kg : Bk W (w.heap.size) #[.int .i64 a, .int .i64 b, .int .i64 c, .int .i64 d, .int .i64 e, .int .i64 f, .slice ha xs.length hcp] 28 := by rw [← hW]; exact blk_new _ _ _ (by simp)
  clear hW
  refine (sanity_true _).mono ?_
  rintro _ w1 ⟨rfl, hb0⟩
  replace hB := hB.trans (hb0.mono hB.size)
  replace kg := kg.later hb0
  replace hSz := Nat.le_trans hSz hb0.size
  clear hb0
  have cg0 := kg.cell 0 rfl
  have cg1 := kg.cell 1 rfl
  have cg2 := kg.cell 2 rfl
  have cg3 := kg.cell 3 rfl
  have cg4 := kg.cell 4 rfl
  have cg5 := kg.cell 5 rfl
  have cg6 := kg.cell 6 rfl
  go_wp2_with fail
  refine (few2_no a b c d e f ha hb xs.length hcp es.length hcq hl _).mono ?_
  rintro _ w2 ⟨rfl, hb0⟩
  replace hB := hB.trans (hb0.mono hB.size)
  replace kg := kg.later hb0
  replace hSz := Nat.le_trans hSz hb0.size
  clear hb0
  clear cg0 cg1 cg2 cg3 cg4 cg5 cg6
  go_wp2_with fail
  go_ret
  exact ⟨rfl, hB⟩
set_option maxRecDepth 100000 in
set_option maxHeartbeats 8000000 in
theorem match_err (most a b c d e f dd : Int) (ha hb : Option Addr) (hcp hcq : Nat) (xs : List Int) (es : List Ed) (w : World) (hl : xs.length ≤ 300) (hl2 : es.length ≤ 12) (hsl : Sl w .i64 ha xs) (hE : fromE ⟨⟨a, b, c⟩, ⟨d, e, f⟩⟩ xs dd ≠ 0) :
    Calls Tryz.prog 3 #[.int .i64 most, .agg #[.int .i64 a, .int .i64 b, .int .i64 c, .int .i64 d, .int .i64 e, .int .i64 f, .slice ha xs.length hcp], .int .i64 dd, .slice hb es.length hcq] w fun e' w' => e' = .returned (.bool true) ∧ Below w.heap.size w w' := by
  have Hfr := Bx.mk fun W sb (h : Sl W .i64 ha xs) => from_no W sb a b c d e f dd ha hcp xs hl h hE
  have Hrf := Bx.mk fun W (h : Sl W .i64 ha xs) => ref9_from_no a b c d e f ha hcp xs hl dd hE W h
  have Hsl := Bx.mk hsl
  clear hsl
  generalize fromE ⟨⟨a, b, c⟩, ⟨d, e, f⟩⟩ xs dd = E at *
  have t1 : (E == 0) = false := beq_eq_false_iff_ne.2 hE
  have t2 : (E != 0) = true := bne_iff_ne.2 hE
  have t3 : (E != E) = false := by simp
  clear hE
  go_enter Tryz.func3, Tryz.ntmps3
  go_wp2_with fail
  generalize hW : World.alloc w _ = W
  have hSz : w.heap.size + 1 ≤ W.heap.size := by rw [← hW]; simp
  have hB : Below w.heap.size w W := by rw [← hW]; exact (Below.refl _ _).alloc (Nat.le_refl _) _
  have kg : Bk W (w.heap.size) #[.int .i64 a, .int .i64 b, .int .i64 c, .int .i64 d, .int .i64 e, .int .i64 f, .slice ha xs.length hcp] 28 := by rw [← hW]; exact blk_new _ _ _ (by simp)
  clear hW
  refine (sanity_true _).mono ?_
  rintro _ w1 ⟨rfl, hb0⟩
  replace hB := hB.trans (hb0.mono hB.size)
  replace kg := kg.later hb0
  replace hSz := Nat.le_trans hSz hb0.size
  clear hb0
  have cg0 := kg.cell 0 rfl
  have cg1 := kg.cell 1 rfl
  have cg2 := kg.cell 2 rfl
  have cg3 := kg.cell 3 rfl
  have cg4 := kg.cell 4 rfl
  have cg5 := kg.cell 5 rfl
  have cg6 := kg.cell 6 rfl
  go_wp2_with fail
  refine (few2_yes a b c d e f ha hb xs.length hcp es.length hcq hl hl2 _).mono ?_
  rintro _ w2 ⟨rfl, hb0⟩
  replace hB := hB.trans (hb0.mono hB.size)
  replace kg := kg.later hb0
  replace hSz := Nat.le_trans hSz hb0.size
  clear hb0
  clear cg0 cg1 cg2 cg3 cg4 cg5 cg6
  go_wp2_with fail
  refine (newStore_any most _).mono ?_
  rintro _ w3 ⟨sb, rfl, hS, hb0⟩
  obtain ⟨Far, hFa⟩ : ∃ Far : Nat → Prop, Far = fun k => k < w2.heap.size := ⟨_, rfl⟩
  rw [← hFa] at hS
  have hlt : Bx (∀ j, Far j → j < w3.heap.size) := ⟨fun j hj => by rw [hFa] at hj; exact Nat.lt_of_lt_of_le hj hb0.size⟩
  have hing : Bx (Far w.heap.size) := ⟨by rw [hFa]; exact kg.lt⟩
  have hlo : Bx (∀ j, j < w.heap.size → Far j) := ⟨fun j hj => by rw [hFa]; exact Nat.lt_of_lt_of_le hj hB.size⟩
  clear hFa
  replace hB := hB.trans (hb0.mono hB.size)
  replace kg := kg.later hb0
  replace hSz := Nat.le_trans hSz hb0.size
  clear hb0
  have hS := Bx.mk hS
  have cg0 := kg.cell 0 rfl
  have cg1 := kg.cell 1 rfl
  have cg2 := kg.cell 2 rfl
  have cg3 := kg.cell 3 rfl
  have cg4 := kg.cell 4 rfl
  have cg5 := kg.cell 5 rfl
  have cg6 := kg.cell 6 rfl
  go_wp2_with fail
  refine (Hfr.out _ _ (Hsl.out.below hB)).mono ?_
  rintro _ w4 ⟨rfl, hb0⟩
  replace hS := Bx.mk (hS.out.later hb0)
  replace hB := hB.trans (hb0.mono hB.size)
  replace kg := kg.later hb0
  replace hSz := Nat.le_trans hSz hb0.size
  clear hb0
  clear cg0 cg1 cg2 cg3 cg4 cg5 cg6
  have cg0 := kg.cell 0 rfl
  have cg1 := kg.cell 1 rfl
  have cg2 := kg.cell 2 rfl
  have cg3 := kg.cell 3 rfl
  have cg4 := kg.cell 4 rfl
  have cg5 := kg.cell 5 rfl
  have cg6 := kg.cell 6 rfl
  go_wp2_with fail
  refine (Hrf.out _ (Hsl.out.below hB)).mono ?_
  rintro _ w5 ⟨rfl, hb0⟩
  replace hS := Bx.mk (hS.out.later hb0)
  replace hB := hB.trans (hb0.mono hB.size)
  replace kg := kg.later hb0
  replace hSz := Nat.le_trans hSz hb0.size
  clear hb0
  clear cg0 cg1 cg2 cg3 cg4 cg5 cg6
  have hle := Bx.mk fun W (h : StoreIs W Far sb most []) => len_any Far sb most [] W h
  go_wp2_with fail
  refine (hle.out _ hS.out).mono ?_
  rintro _ _ ⟨rfl, rfl⟩
  go_wp2_with fail
  go_ret
  exact ⟨rfl, hB⟩
set_option maxRecDepth 100000 in
set_option maxHeartbeats 8000000 in
theorem match_over (most a b c d e f : Int) (ha hb : Option Addr) (hcp hcq : Nat) (xs : List Int) (es : List Ed) (w : World) (hl : xs.length ≤ 300) (hl2 : es.length ≤ 12) (hsl : Sl w .i64 ha xs) (n : Nat) (hn : n ≤ 12) (HX : GoodG ⟨⟨a, b, c⟩, ⟨d, e, f⟩⟩ xs hcp) (hV : validG ⟨⟨a, b, c⟩, ⟨d, e, f⟩⟩ xs = true) (hC : emptyB ⟨⟨a, b, c⟩, ⟨d, e, f⟩⟩ = true ∨ containsB ⟨⟨0, 0, 0⟩, ⟨2 ^ (n + 2), 2 ^ (n + 2), 2 ^ (n + 2)⟩⟩ ⟨⟨a, b, c⟩, ⟨d, e, f⟩⟩ = true) (hE : fromE ⟨⟨a, b, c⟩, ⟨d, e, f⟩⟩ xs ((n : Int) + 2) = 0) (hfit : ¬ Tr.Fits most [] (addn n (cellG ⟨⟨a, b, c⟩, ⟨d, e, f⟩⟩ xs) [])) :
    Calls Tryz.prog 3 #[.int .i64 most, .agg #[.int .i64 a, .int .i64 b, .int .i64 c, .int .i64 d, .int .i64 e, .int .i64 f, .slice ha xs.length hcp], .int .i64 ((n : Int) + 2), .slice hb es.length hcq] w fun e' w' => e' = .returned (.bool true) ∧ Below w.heap.size w w' := by
  have Hfr := Bx.mk fun W sb (h : Sl W .i64 ha xs) Far hfx hFar hS => m_from_over W sb a b c d e f ha hcp xs n hn h HX hV hC Far hfx most hFar hS hfit
  have Hrf := Bx.mk fun W (h : Sl W .i64 ha xs) => m_ref_yes a b c d e f ha hcp xs hl n hn HX hE W h
  have Had := Bx.mk fun W => m_add n (cellG ⟨⟨a, b, c⟩, ⟨d, e, f⟩⟩ xs) hn HX.range [] good_nil (Nat.le_trans (addn_few HX hn) (by omega)) W w.heap.size (.slice none 0 0)
  have Hln := Bx.mk (addn_few HX hn)
  have Hfn := Bx.mk (grid_fn HX hC)
  have Hsl := Bx.mk hsl
  have Hn := Bx.mk hn
  have hfit := Bx.mk hfit
  clear hsl HX hV hC hE hn
  generalize cellG ⟨⟨a, b, c⟩, ⟨d, e, f⟩⟩ xs = F0 at *
  go_enter Tryz.func3, Tryz.ntmps3
  go_wp2_with fail
  generalize hW : World.alloc w _ = W
  have hSz : w.heap.size + 1 ≤ W.heap.size := by rw [← hW]; simp
  have hB : Below w.heap.size w W := by rw [← hW]; exact (Below.refl _ _).alloc (Nat.le_refl _) _
  have kg : Bk W (w.heap.size) #[.int .i64 a, .int .i64 b, .int .i64 c, .int .i64 d, .int .i64 e, .int .i64 f, .slice ha xs.length hcp] 28 := by rw [← hW]; exact blk_new _ _ _ (by simp)
  clear hW
  refine (sanity_true _).mono ?_
  rintro _ w1 ⟨rfl, hb0⟩
  replace hB := hB.trans (hb0.mono hB.size)
  replace kg := kg.later hb0
  replace hSz := Nat.le_trans hSz hb0.size
  clear hb0
  have cg0 := kg.cell 0 rfl
  have cg1 := kg.cell 1 rfl
  have cg2 := kg.cell 2 rfl
  have cg3 := kg.cell 3 rfl
  have cg4 := kg.cell 4 rfl
  have cg5 := kg.cell 5 rfl
  have cg6 := kg.cell 6 rfl
  go_wp2_with fail
  refine (few2_yes a b c d e f ha hb xs.length hcp es.length hcq hl hl2 _).mono ?_
  rintro _ w2 ⟨rfl, hb0⟩
  replace hB := hB.trans (hb0.mono hB.size)
  replace kg := kg.later hb0
  replace hSz := Nat.le_trans hSz hb0.size
  clear hb0
  clear cg0 cg1 cg2 cg3 cg4 cg5 cg6
  go_wp2_with fail
  refine (newStore_any most _).mono ?_
  rintro _ w3 ⟨sb, rfl, hS, hb0⟩
  obtain ⟨Far, hFa⟩ : ∃ Far : Nat → Prop, Far = fun k => k < w2.heap.size := ⟨_, rfl⟩
  rw [← hFa] at hS
  have hlt : Bx (∀ j, Far j → j < w3.heap.size) := ⟨fun j hj => by rw [hFa] at hj; exact Nat.lt_of_lt_of_le hj hb0.size⟩
  have hing : Bx (Far w.heap.size) := ⟨by rw [hFa]; exact kg.lt⟩
  have hlo : Bx (∀ j, j < w.heap.size → Far j) := ⟨fun j hj => by rw [hFa]; exact Nat.lt_of_lt_of_le hj hB.size⟩
  clear hFa
  replace hB := hB.trans (hb0.mono hB.size)
  replace kg := kg.later hb0
  replace hSz := Nat.le_trans hSz hb0.size
  clear hb0
  have hS := Bx.mk hS
  have cg0 := kg.cell 0 rfl
  have cg1 := kg.cell 1 rfl
  have cg2 := kg.cell 2 rfl
  have cg3 := kg.cell 3 rfl
  have cg4 := kg.cell 4 rfl
  have cg5 := kg.cell 5 rfl
  have cg6 := kg.cell 6 rfl
  go_wp2_with fail
  have hfx : xs ≠ [] → ∀ b, ha.map (·.block) = some b → Far b := fun hx b hb => by
    obtain ⟨x, r, rfl⟩ := List.exists_cons_of_ne_nil hx
    obtain ⟨b', off, h1, h2⟩ := Hsl.out 0 x rfl
    rw [h1] at hb
    simp only [Option.map_some, Option.some.injEq] at hb
    rw [← hb]; exact hlo.out _ (World.block_lt_of_cell? w _ h2)
  refine (Hfr.out _ _ (Hsl.out.below hB) _ hfx hlt.out hS.out).mono ?_
  rintro _ w4 ⟨rfl, hs, hk⟩
  clear hfx
  clear cg0 cg1 cg2 cg3 cg4 cg5 cg6
  replace hS := Bx.mk hs
  replace hB := below_of_keeps hB hk (fun j hj => hlo.out j hj)
  replace kg := kg.far hk hing.out
  replace hSz := Nat.le_trans hSz hk.size
  replace hlt := Bx.mk (fun j (hj : Far j) => Nat.lt_of_lt_of_le (hlt.out j hj) hk.size)
  clear hs hk
  have cg0 := kg.cell 0 rfl
  have cg1 := kg.cell 1 rfl
  have cg2 := kg.cell 2 rfl
  have cg3 := kg.cell 3 rfl
  have cg4 := kg.cell 4 rfl
  have cg5 := kg.cell 5 rfl
  have cg6 := kg.cell 6 rfl
  go_wp2_with fail
  refine (Hrf.out _ (Hsl.out.below hB)).mono ?_
  rintro _ w5 ⟨rfl, hb0⟩
  replace hlt := Bx.mk (fun j (hj : Far j) => Nat.lt_of_lt_of_le (hlt.out j hj) hb0.size)
  replace hS := Bx.mk (hS.out.later hb0)
  replace hB := hB.trans (hb0.mono hB.size)
  replace kg := kg.later hb0
  replace hSz := Nat.le_trans hSz hb0.size
  clear hb0
  clear cg0 cg1 cg2 cg3 cg4 cg5 cg6
  go_wp2_with fail
  refine (Had.out _ hB.size (Ownv.nil _ _ _)).mono ?_
  rintro _ w6 ⟨v0, rfl, ho, hadd⟩
  have hgr : Below w5.heap.size w5 w6 := ⟨hadd.grown.os, hadd.grown.tape, hadd.grown.output, hadd.grown.size, fun i hi => hadd.grown.block i hi (by simp [Value.ownBlock])⟩
  obtain ⟨ac, cap, rfl, -⟩ := ho.form
  rw [encs_len]
  have t1 : decide (most < ((addn n F0 []).length : Int)) = true := decide_eq_true (over_len List.nil_prefix hfit.out).2
  have hb0 := hgr
  clear ho hadd hgr
  replace hS := Bx.mk (hS.out.later hb0)
  replace hB := hB.trans (hb0.mono hB.size)
  replace kg := kg.later hb0
  replace hSz := Nat.le_trans hSz hb0.size
  clear hb0
  have hle := Bx.mk fun W (h : StoreIs W Far sb most []) => len_any Far sb most [] W h
  go_wp2_with fail
  refine (hle.out _ hS.out).mono ?_
  rintro _ _ ⟨rfl, rfl⟩
  go_wp2_with fail
  go_ret
  exact ⟨rfl, hB⟩
end Go.Proofs.YtabclecmehdeoaaGreat
end
