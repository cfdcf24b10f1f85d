import Derived.Test.YtabclecmehdeoaaGreatGRg
section
/- voxelref04.Contains, voxelref07.Valid, by the program. -/
namespace Go.Proofs.YtabclecmehdeoaaGreat
open Go.RowKit Go.Sort Go.Maps
open Oct

theorem small_meet {a b : Box} {m : Int} (hm : 0 ≤ m) (h : Small b m) : Small (meetB a b) m := by
  obtain ⟨h1, h2, h3, h4, h5, h6⟩ := h
  unfold meetB
  split
  · exact ⟨by simp [Box.zero, Pt.zero]; omega, by simp [Box.zero, Pt.zero]; omega, by simp [Box.zero, Pt.zero]; omega, by simp [Box.zero, Pt.zero]; omega, by simp [Box.zero, Pt.zero]; omega, by simp [Box.zero, Pt.zero]; omega⟩
  · unfold joinB
    exact ⟨by simp only []; omega, by simp only []; omega, by simp only []; omega, by simp only []; omega, by simp only []; omega, by simp only []; omega⟩
theorem ref_contains (a0 a1 a2 a3 a4 a5 b0 b1 b2 b3 b4 b5 : Int) (hS : Small ⟨⟨b0, b1, b2⟩, ⟨b3, b4, b5⟩⟩ 1048575) (w : World) :
    Calls Tryz.prog 71 #[.agg #[.int .i64 a0, .int .i64 a1, .int .i64 a2, .int .i64 a3, .int .i64 a4, .int .i64 a5], .agg #[.int .i64 b0, .int .i64 b1, .int .i64 b2, .int .i64 b3, .int .i64 b4, .int .i64 b5]] w fun e w' => e = .returned (.bool (volB (meetB ⟨⟨a0, a1, a2⟩, ⟨a3, a4, a5⟩⟩ ⟨⟨b0, b1, b2⟩, ⟨b3, b4, b5⟩⟩) == volB ⟨⟨b0, b1, b2⟩, ⟨b3, b4, b5⟩⟩)) ∧ Below w.heap.size w w' := by
  have h1 := Bx.mk fun W => ref_meet a0 a1 a2 a3 a4 a5 b0 b1 b2 b3 b4 b5 W
  have hM : Small (meetB ⟨⟨a0, a1, a2⟩, ⟨a3, a4, a5⟩⟩ ⟨⟨b0, b1, b2⟩, ⟨b3, b4, b5⟩⟩) 1048575 := small_meet (by decide) hS
  have h2 := Bx.mk fun W => ref_vol (meetB ⟨⟨a0, a1, a2⟩, ⟨a3, a4, a5⟩⟩ ⟨⟨b0, b1, b2⟩, ⟨b3, b4, b5⟩⟩).lo.x (meetB ⟨⟨a0, a1, a2⟩, ⟨a3, a4, a5⟩⟩ ⟨⟨b0, b1, b2⟩, ⟨b3, b4, b5⟩⟩).lo.y (meetB ⟨⟨a0, a1, a2⟩, ⟨a3, a4, a5⟩⟩ ⟨⟨b0, b1, b2⟩, ⟨b3, b4, b5⟩⟩).lo.z (meetB ⟨⟨a0, a1, a2⟩, ⟨a3, a4, a5⟩⟩ ⟨⟨b0, b1, b2⟩, ⟨b3, b4, b5⟩⟩).hi.x (meetB ⟨⟨a0, a1, a2⟩, ⟨a3, a4, a5⟩⟩ ⟨⟨b0, b1, b2⟩, ⟨b3, b4, b5⟩⟩).hi.y (meetB ⟨⟨a0, a1, a2⟩, ⟨a3, a4, a5⟩⟩ ⟨⟨b0, b1, b2⟩, ⟨b3, b4, b5⟩⟩).hi.z hM W
  have h3 := Bx.mk fun W => ref_vol b0 b1 b2 b3 b4 b5 hS W
  have hV : volB ⟨⟨(meetB ⟨⟨a0, a1, a2⟩, ⟨a3, a4, a5⟩⟩ ⟨⟨b0, b1, b2⟩, ⟨b3, b4, b5⟩⟩).lo.x, (meetB ⟨⟨a0, a1, a2⟩, ⟨a3, a4, a5⟩⟩ ⟨⟨b0, b1, b2⟩, ⟨b3, b4, b5⟩⟩).lo.y, (meetB ⟨⟨a0, a1, a2⟩, ⟨a3, a4, a5⟩⟩ ⟨⟨b0, b1, b2⟩, ⟨b3, b4, b5⟩⟩).lo.z⟩, ⟨(meetB ⟨⟨a0, a1, a2⟩, ⟨a3, a4, a5⟩⟩ ⟨⟨b0, b1, b2⟩, ⟨b3, b4, b5⟩⟩).hi.x, (meetB ⟨⟨a0, a1, a2⟩, ⟨a3, a4, a5⟩⟩ ⟨⟨b0, b1, b2⟩, ⟨b3, b4, b5⟩⟩).hi.y, (meetB ⟨⟨a0, a1, a2⟩, ⟨a3, a4, a5⟩⟩ ⟨⟨b0, b1, b2⟩, ⟨b3, b4, b5⟩⟩).hi.z⟩⟩ = volB (meetB ⟨⟨a0, a1, a2⟩, ⟨a3, a4, a5⟩⟩ ⟨⟨b0, b1, b2⟩, ⟨b3, b4, b5⟩⟩) := rfl
  rw [hV] at h2
  generalize volB (meetB ⟨⟨a0, a1, a2⟩, ⟨a3, a4, a5⟩⟩ ⟨⟨b0, b1, b2⟩, ⟨b3, b4, b5⟩⟩) = v1 at *
  generalize volB ⟨⟨b0, b1, b2⟩, ⟨b3, b4, b5⟩⟩ = v2 at *
  generalize (meetB ⟨⟨a0, a1, a2⟩, ⟨a3, a4, a5⟩⟩ ⟨⟨b0, b1, b2⟩, ⟨b3, b4, b5⟩⟩).lo.x = m0 at *
  generalize (meetB ⟨⟨a0, a1, a2⟩, ⟨a3, a4, a5⟩⟩ ⟨⟨b0, b1, b2⟩, ⟨b3, b4, b5⟩⟩).lo.y = m1 at *
  generalize (meetB ⟨⟨a0, a1, a2⟩, ⟨a3, a4, a5⟩⟩ ⟨⟨b0, b1, b2⟩, ⟨b3, b4, b5⟩⟩).lo.z = m2 at *
  generalize (meetB ⟨⟨a0, a1, a2⟩, ⟨a3, a4, a5⟩⟩ ⟨⟨b0, b1, b2⟩, ⟨b3, b4, b5⟩⟩).hi.x = m3 at *
  generalize (meetB ⟨⟨a0, a1, a2⟩, ⟨a3, a4, a5⟩⟩ ⟨⟨b0, b1, b2⟩, ⟨b3, b4, b5⟩⟩).hi.y = m4 at *
  generalize (meetB ⟨⟨a0, a1, a2⟩, ⟨a3, a4, a5⟩⟩ ⟨⟨b0, b1, b2⟩, ⟨b3, b4, b5⟩⟩).hi.z = m5 at *
  clear hS hM hV
  go_enter Tryz.func71, Tryz.ntmps71
  go_wp2_with fail
  generalize hW : World.alloc (World.alloc w _) _ = W
  have hSz : w.heap.size + 1 + 1 ≤ W.heap.size := by rw [← hW]; simp
  have hB : Below w.heap.size w W := by rw [← hW]; exact ((Below.refl _ _).alloc (Nat.le_refl _) _).alloc (by simp) _
  have ka : Bk W (w.heap.size) #[.int .i64 a0, .int .i64 a1, .int .i64 a2, .int .i64 a3, .int .i64 a4, .int .i64 a5] 25 := by rw [← hW]; exact blk_old (blk_new _ _ _ (by simp))
  have kb : Bk W (w.heap.size + 1) #[.int .i64 b0, .int .i64 b1, .int .i64 b2, .int .i64 b3, .int .i64 b4, .int .i64 b5] 25 := by rw [← hW]; exact blk_new _ _ _ (by simp)
  clear hW
  have ca0 : ∀ dk osk, (grow (redrawn W dk) osk).cell? ⟨w.heap.size, 0, none⟩ = some (.int .i64 a0) := cell_regrown (ka.cell 0 rfl)
  have ca1 : ∀ dk osk, (grow (redrawn W dk) osk).cell? ⟨w.heap.size, 1, none⟩ = some (.int .i64 a1) := cell_regrown (ka.cell 1 rfl)
  have ca2 : ∀ dk osk, (grow (redrawn W dk) osk).cell? ⟨w.heap.size, 2, none⟩ = some (.int .i64 a2) := cell_regrown (ka.cell 2 rfl)
  have ca3 : ∀ dk osk, (grow (redrawn W dk) osk).cell? ⟨w.heap.size, 3, none⟩ = some (.int .i64 a3) := cell_regrown (ka.cell 3 rfl)
  have ca4 : ∀ dk osk, (grow (redrawn W dk) osk).cell? ⟨w.heap.size, 4, none⟩ = some (.int .i64 a4) := cell_regrown (ka.cell 4 rfl)
  have ca5 : ∀ dk osk, (grow (redrawn W dk) osk).cell? ⟨w.heap.size, 5, none⟩ = some (.int .i64 a5) := cell_regrown (ka.cell 5 rfl)
  have cb0 : ∀ dk osk, (grow (redrawn W dk) osk).cell? ⟨w.heap.size + 1, 0, none⟩ = some (.int .i64 b0) := cell_regrown (kb.cell 0 rfl)
  have cb1 : ∀ dk osk, (grow (redrawn W dk) osk).cell? ⟨w.heap.size + 1, 1, none⟩ = some (.int .i64 b1) := cell_regrown (kb.cell 1 rfl)
  have cb2 : ∀ dk osk, (grow (redrawn W dk) osk).cell? ⟨w.heap.size + 1, 2, none⟩ = some (.int .i64 b2) := cell_regrown (kb.cell 2 rfl)
  have cb3 : ∀ dk osk, (grow (redrawn W dk) osk).cell? ⟨w.heap.size + 1, 3, none⟩ = some (.int .i64 b3) := cell_regrown (kb.cell 3 rfl)
  have cb4 : ∀ dk osk, (grow (redrawn W dk) osk).cell? ⟨w.heap.size + 1, 4, none⟩ = some (.int .i64 b4) := cell_regrown (kb.cell 4 rfl)
  have cb5 : ∀ dk osk, (grow (redrawn W dk) osk).cell? ⟨w.heap.size + 1, 5, none⟩ = some (.int .i64 b5) := cell_regrown (kb.cell 5 rfl)
  have q0 := Bx.mk fun dk osk => Calls.regrown_of (h1.out (grow (redrawn W dk) osk))
  have q1 := Bx.mk fun dk osk => Calls.regrown_of (h2.out (grow (redrawn W dk) osk))
  have q2 := Bx.mk fun dk osk => Calls.regrown_of (h3.out (grow (redrawn W dk) osk))
  refine wp_region_quiet_below (by kernel_rfl) (by kernel_rfl) ?_
  repeat (first | go_big_quiet_step ((first | with_reducible exact q0.out _ _ | with_reducible exact q1.out _ _ | with_reducible exact q2.out _ _)) | quiet_step (first | with_reducible exact q0.out _ _ | with_reducible exact q1.out _ _ | with_reducible exact q2.out _ _))
  refine wpQuiet_nil ?_
  rintro _ ⟨⟨dq, osq⟩, rfl⟩
  have hb := below_regrown W dq osq
  clear ca0 ca1 ca2 ca3 ca4 ca5
  clear cb0 cb1 cb2 cb3 cb4 cb5
  clear q0
  clear q1
  clear q2
  replace hB := hB.trans (hb.mono hB.size)
  replace ka := ka.later hb
  replace kb := kb.later hb
  replace hSz := Nat.le_trans hSz hb.size
  clear hb
  generalize grow (redrawn W dq) osq = W1 at *
  go_wp2_with fail
  go_ret
  exact ⟨rfl, hB⟩
set_option maxRecDepth 100000 in
set_option maxHeartbeats 2000000 in
theorem ref_valid (a b c d e f : Int) (ha : Option Addr) (hcp : Nat) (xs : List Int) (hl : xs.length ≤ 300) (w : World) (hsl : Sl w .i64 ha xs) :
    Calls Tryz.prog 69 #[.agg #[.int .i64 a, .int .i64 b, .int .i64 c, .int .i64 d, .int .i64 e, .int .i64 f, .slice ha xs.length hcp]] w fun e' w' => e' = .returned (.bool (validG ⟨⟨a, b, c⟩, ⟨d, e, f⟩⟩ xs)) ∧ Below w.heap.size w w' := by
  have hr0 := Bx.mk fun W => ref_ranged a b c W
  have hr1 := Bx.mk fun W => ref_ranged d e f W
  have hV := show validG ⟨⟨a, b, c⟩, ⟨d, e, f⟩⟩ xs = (okP ⟨a, b, c⟩ && okP ⟨d, e, f⟩ && (!emptyB ⟨⟨a, b, c⟩, ⟨d, e, f⟩⟩ || decide (⟨⟨a, b, c⟩, ⟨d, e, f⟩⟩ = Box.zero)) && decide (volB ⟨⟨a, b, c⟩, ⟨d, e, f⟩⟩ ≤ 2097152) && decide (volB ⟨⟨a, b, c⟩, ⟨d, e, f⟩⟩ = xs.length) && xs.all Pal.cell) from rfl
  have hok : okP ⟨a, b, c⟩ = true → okP ⟨d, e, f⟩ = true → Small ⟨⟨a, b, c⟩, ⟨d, e, f⟩⟩ 1048575 := fun h1 h2 => okB_small (by unfold okB; rw [h1, h2]; rfl)
  have hvp : emptyB ⟨⟨a, b, c⟩, ⟨d, e, f⟩⟩ = false → 1 ≤ volB ⟨⟨a, b, c⟩, ⟨d, e, f⟩⟩ := fun h => atB_pos h
  have hv0 : emptyB ⟨⟨a, b, c⟩, ⟨d, e, f⟩⟩ = true → volB ⟨⟨a, b, c⟩, ⟨d, e, f⟩⟩ = 0 := fun h => volB_empty h
  have hvol : okP ⟨a, b, c⟩ = true → okP ⟨d, e, f⟩ = true → ∀ W, Calls Tryz.prog 96 #[.agg #[.int .i64 a, .int .i64 b, .int .i64 c, .int .i64 d, .int .i64 e, .int .i64 f]] W fun e' w' => e' = .returned (.int .i64 (volB ⟨⟨a, b, c⟩, ⟨d, e, f⟩⟩)) ∧ Below W.heap.size W w' := fun h1 h2 W => ref_vol a b c d e f (hok h1 h2) W
  have hq := fun W => neq_box a b c d e f 0 0 0 0 0 0 W
  rw [show decide (⟨⟨a, b, c⟩, ⟨d, e, f⟩⟩ = Box.zero) = decide ((⟨⟨a, b, c⟩, ⟨d, e, f⟩⟩ : Box) = ⟨⟨0, 0, 0⟩, ⟨0, 0, 0⟩⟩) from rfl] at hV
  have Hsl := Bx.mk hsl
  clear hsl hok
  generalize hr : validG ⟨⟨a, b, c⟩, ⟨d, e, f⟩⟩ xs = r at *
  generalize okP ⟨a, b, c⟩ = r1 at *
  generalize okP ⟨d, e, f⟩ = r2 at *
  generalize emptyB ⟨⟨a, b, c⟩, ⟨d, e, f⟩⟩ = em at *
  generalize decide ((⟨⟨a, b, c⟩, ⟨d, e, f⟩⟩ : Box) = ⟨⟨0, 0, 0⟩, ⟨0, 0, 0⟩⟩) = bz at *
  generalize volB ⟨⟨a, b, c⟩, ⟨d, e, f⟩⟩ = v at *
  clear hr
  cases r1 with
  | false =>
    have Hr := Bx.mk (show r = false by simpa using hV)
    clear hV hvp hv0 hvol hq
    go_enter Tryz.func69, Tryz.ntmps69
    go_wp2_with fail
    generalize hW : World.alloc w _ = W
    have hSz : w.heap.size + 1 ≤ W.heap.size := by rw [← hW]; simp
    have hB : Below w.heap.size w W := by rw [← hW]; exact (Below.refl _ _).alloc (Nat.le_refl _) _
    have kg : Bk W (w.heap.size) #[.int .i64 a, .int .i64 b, .int .i64 c, .int .i64 d, .int .i64 e, .int .i64 f, .slice ha xs.length hcp] 28 := by rw [← hW]; exact blk_new _ _ _ (by simp)
    clear hW
    refine (hr0.out _).mono ?_
    rintro _ w1 ⟨rfl, hb⟩
    replace hB := hB.trans (hb.mono hB.size)
    replace kg := kg.later hb
    replace hSz := Nat.le_trans hSz hb.size
    clear hb
    have cg0 := kg.cell 0 rfl
    have cg1 := kg.cell 1 rfl
    have cg2 := kg.cell 2 rfl
    have cg3 := kg.cell 3 rfl
    have cg4 := kg.cell 4 rfl
    have cg5 := kg.cell 5 rfl
    have cg6 := kg.cell 6 rfl
    go_wp2_with fail
    clear cg0 cg1 cg2 cg3 cg4 cg5 cg6
    refine (hr1.out _).mono ?_
    rintro _ w2 ⟨rfl, hb⟩
    replace hB := hB.trans (hb.mono hB.size)
    replace kg := kg.later hb
    replace hSz := Nat.le_trans hSz hb.size
    clear hb
    have cg0 := kg.cell 0 rfl
    have cg1 := kg.cell 1 rfl
    have cg2 := kg.cell 2 rfl
    have cg3 := kg.cell 3 rfl
    have cg4 := kg.cell 4 rfl
    have cg5 := kg.cell 5 rfl
    have cg6 := kg.cell 6 rfl
    go_wp2_with fail
    clear cg0 cg1 cg2 cg3 cg4 cg5 cg6
    go_ret
    exact ⟨by rw [Hr.out]; rfl, hB⟩
  | true =>
    cases r2 with
    | false =>
      have Hr := Bx.mk (show r = false by simpa using hV)
      clear hV hvp hv0 hvol hq
      go_enter Tryz.func69, Tryz.ntmps69
      go_wp2_with fail
      generalize hW : World.alloc w _ = W
      have hSz : w.heap.size + 1 ≤ W.heap.size := by rw [← hW]; simp
      have hB : Below w.heap.size w W := by rw [← hW]; exact (Below.refl _ _).alloc (Nat.le_refl _) _
      have kg : Bk W (w.heap.size) #[.int .i64 a, .int .i64 b, .int .i64 c, .int .i64 d, .int .i64 e, .int .i64 f, .slice ha xs.length hcp] 28 := by rw [← hW]; exact blk_new _ _ _ (by simp)
      clear hW
      refine (hr0.out _).mono ?_
      rintro _ w1 ⟨rfl, hb⟩
      replace hB := hB.trans (hb.mono hB.size)
      replace kg := kg.later hb
      replace hSz := Nat.le_trans hSz hb.size
      clear hb
      have cg0 := kg.cell 0 rfl
      have cg1 := kg.cell 1 rfl
      have cg2 := kg.cell 2 rfl
      have cg3 := kg.cell 3 rfl
      have cg4 := kg.cell 4 rfl
      have cg5 := kg.cell 5 rfl
      have cg6 := kg.cell 6 rfl
      go_wp2_with fail
      clear cg0 cg1 cg2 cg3 cg4 cg5 cg6
      refine (hr1.out _).mono ?_
      rintro _ w2 ⟨rfl, hb⟩
      replace hB := hB.trans (hb.mono hB.size)
      replace kg := kg.later hb
      replace hSz := Nat.le_trans hSz hb.size
      clear hb
      have cg0 := kg.cell 0 rfl
      have cg1 := kg.cell 1 rfl
      have cg2 := kg.cell 2 rfl
      have cg3 := kg.cell 3 rfl
      have cg4 := kg.cell 4 rfl
      have cg5 := kg.cell 5 rfl
      have cg6 := kg.cell 6 rfl
      go_wp2_with fail
      clear cg0 cg1 cg2 cg3 cg4 cg5 cg6
      go_ret
      exact ⟨by rw [Hr.out]; rfl, hB⟩
    | true =>
      have hv := Bx.mk (hvol rfl rfl)
      clear hvol
      cases em with
      | true =>
        obtain rfl : v = 0 := hv0 rfl
        clear hv0 hvp
        cases bz with
        | false =>
          have Hr := Bx.mk (show r = false by simpa using hV)
          clear hV
          go_enter Tryz.func69, Tryz.ntmps69
          go_wp2_with fail
          generalize hW : World.alloc w _ = W
          have hSz : w.heap.size + 1 ≤ W.heap.size := by rw [← hW]; simp
          have hB : Below w.heap.size w W := by rw [← hW]; exact (Below.refl _ _).alloc (Nat.le_refl _) _
          have kg : Bk W (w.heap.size) #[.int .i64 a, .int .i64 b, .int .i64 c, .int .i64 d, .int .i64 e, .int .i64 f, .slice ha xs.length hcp] 28 := by rw [← hW]; exact blk_new _ _ _ (by simp)
          clear hW
          refine (hr0.out _).mono ?_
          rintro _ w1 ⟨rfl, hb⟩
          replace hB := hB.trans (hb.mono hB.size)
          replace kg := kg.later hb
          replace hSz := Nat.le_trans hSz hb.size
          clear hb
          have cg0 := kg.cell 0 rfl
          have cg1 := kg.cell 1 rfl
          have cg2 := kg.cell 2 rfl
          have cg3 := kg.cell 3 rfl
          have cg4 := kg.cell 4 rfl
          have cg5 := kg.cell 5 rfl
          have cg6 := kg.cell 6 rfl
          go_wp2_with fail
          clear cg0 cg1 cg2 cg3 cg4 cg5 cg6
          refine (hr1.out _).mono ?_
          rintro _ w2 ⟨rfl, hb⟩
          replace hB := hB.trans (hb.mono hB.size)
          replace kg := kg.later hb
          replace hSz := Nat.le_trans hSz hb.size
          clear hb
          have cg0 := kg.cell 0 rfl
          have cg1 := kg.cell 1 rfl
          have cg2 := kg.cell 2 rfl
          have cg3 := kg.cell 3 rfl
          have cg4 := kg.cell 4 rfl
          have cg5 := kg.cell 5 rfl
          have cg6 := kg.cell 6 rfl
          go_wp2_with fail
          clear cg0 cg1 cg2 cg3 cg4 cg5 cg6
          refine (hv.out _).mono ?_
          rintro _ w3 ⟨rfl, hb⟩
          replace hB := hB.trans (hb.mono hB.size)
          replace kg := kg.later hb
          replace hSz := Nat.le_trans hSz hb.size
          clear hb
          have cg0 := kg.cell 0 rfl
          have cg1 := kg.cell 1 rfl
          have cg2 := kg.cell 2 rfl
          have cg3 := kg.cell 3 rfl
          have cg4 := kg.cell 4 rfl
          have cg5 := kg.cell 5 rfl
          have cg6 := kg.cell 6 rfl
          go_wp2_with fail
          clear cg0 cg1 cg2 cg3 cg4 cg5 cg6
          go_ret
          exact ⟨by rw [Hr.out]; rfl, hB⟩
        | true =>
          by_cases h0 : xs.length = 0
          · have Hr := Bx.mk (show r = true by
              have : xs = [] := List.eq_nil_of_length_eq_zero h0
              rw [hV, this]; rfl)
            have t0 : ((xs.length : Int) != 0) = false := by rw [h0]; rfl
            clear hV h0
            go_enter Tryz.func69, Tryz.ntmps69
            go_wp2_with fail
            generalize hW : World.alloc w _ = W
            have hSz : w.heap.size + 1 ≤ W.heap.size := by rw [← hW]; simp
            have hB : Below w.heap.size w W := by rw [← hW]; exact (Below.refl _ _).alloc (Nat.le_refl _) _
            have kg : Bk W (w.heap.size) #[.int .i64 a, .int .i64 b, .int .i64 c, .int .i64 d, .int .i64 e, .int .i64 f, .slice ha xs.length hcp] 28 := by rw [← hW]; exact blk_new _ _ _ (by simp)
            clear hW
            refine (hr0.out _).mono ?_
            rintro _ w1 ⟨rfl, hb⟩
            replace hB := hB.trans (hb.mono hB.size)
            replace kg := kg.later hb
            replace hSz := Nat.le_trans hSz hb.size
            clear hb
            have cg0 := kg.cell 0 rfl
            have cg1 := kg.cell 1 rfl
            have cg2 := kg.cell 2 rfl
            have cg3 := kg.cell 3 rfl
            have cg4 := kg.cell 4 rfl
            have cg5 := kg.cell 5 rfl
            have cg6 := kg.cell 6 rfl
            go_wp2_with fail
            clear cg0 cg1 cg2 cg3 cg4 cg5 cg6
            refine (hr1.out _).mono ?_
            rintro _ w2 ⟨rfl, hb⟩
            replace hB := hB.trans (hb.mono hB.size)
            replace kg := kg.later hb
            replace hSz := Nat.le_trans hSz hb.size
            clear hb
            have cg0 := kg.cell 0 rfl
            have cg1 := kg.cell 1 rfl
            have cg2 := kg.cell 2 rfl
            have cg3 := kg.cell 3 rfl
            have cg4 := kg.cell 4 rfl
            have cg5 := kg.cell 5 rfl
            have cg6 := kg.cell 6 rfl
            go_wp2_with fail
            clear cg0 cg1 cg2 cg3 cg4 cg5 cg6
            refine (hv.out _).mono ?_
            rintro _ w3 ⟨rfl, hb⟩
            replace hB := hB.trans (hb.mono hB.size)
            replace kg := kg.later hb
            replace hSz := Nat.le_trans hSz hb.size
            clear hb
            have cg0 := kg.cell 0 rfl
            have cg1 := kg.cell 1 rfl
            have cg2 := kg.cell 2 rfl
            have cg3 := kg.cell 3 rfl
            have cg4 := kg.cell 4 rfl
            have cg5 := kg.cell 5 rfl
            have cg6 := kg.cell 6 rfl
            go_wp2_with fail
            clear cg0 cg1 cg2 cg3 cg4 cg5 cg6
            go_loop [6] (fun v6 => v6 = .int .i64 0) (fun _ => 0)
            case atStart => rfl
            case round =>
              subst hrel
              have t9 : decide ((0 : Int) < 0) = false := by decide
              go_wp2_with fail
              go_ret
              exact ⟨by rw [Hr.out]; rfl, hB⟩
          · have t0 : ((xs.length : Int) != 0) = true := bne_iff_ne.2 (by omega)
            have Hr := Bx.mk (show r = false by
              have : decide ((0 : Int) = xs.length) = false := decide_eq_false (by omega)
              rw [hV, this, Bool.and_false, Bool.false_and])
            clear hV
            go_enter Tryz.func69, Tryz.ntmps69
            go_wp2_with fail
            generalize hW : World.alloc w _ = W
            have hSz : w.heap.size + 1 ≤ W.heap.size := by rw [← hW]; simp
            have hB : Below w.heap.size w W := by rw [← hW]; exact (Below.refl _ _).alloc (Nat.le_refl _) _
            have kg : Bk W (w.heap.size) #[.int .i64 a, .int .i64 b, .int .i64 c, .int .i64 d, .int .i64 e, .int .i64 f, .slice ha xs.length hcp] 28 := by rw [← hW]; exact blk_new _ _ _ (by simp)
            clear hW
            refine (hr0.out _).mono ?_
            rintro _ w1 ⟨rfl, hb⟩
            replace hB := hB.trans (hb.mono hB.size)
            replace kg := kg.later hb
            replace hSz := Nat.le_trans hSz hb.size
            clear hb
            have cg0 := kg.cell 0 rfl
            have cg1 := kg.cell 1 rfl
            have cg2 := kg.cell 2 rfl
            have cg3 := kg.cell 3 rfl
            have cg4 := kg.cell 4 rfl
            have cg5 := kg.cell 5 rfl
            have cg6 := kg.cell 6 rfl
            go_wp2_with fail
            clear cg0 cg1 cg2 cg3 cg4 cg5 cg6
            refine (hr1.out _).mono ?_
            rintro _ w2 ⟨rfl, hb⟩
            replace hB := hB.trans (hb.mono hB.size)
            replace kg := kg.later hb
            replace hSz := Nat.le_trans hSz hb.size
            clear hb
            have cg0 := kg.cell 0 rfl
            have cg1 := kg.cell 1 rfl
            have cg2 := kg.cell 2 rfl
            have cg3 := kg.cell 3 rfl
            have cg4 := kg.cell 4 rfl
            have cg5 := kg.cell 5 rfl
            have cg6 := kg.cell 6 rfl
            go_wp2_with fail
            clear cg0 cg1 cg2 cg3 cg4 cg5 cg6
            refine (hv.out _).mono ?_
            rintro _ w3 ⟨rfl, hb⟩
            replace hB := hB.trans (hb.mono hB.size)
            replace kg := kg.later hb
            replace hSz := Nat.le_trans hSz hb.size
            clear hb
            have cg0 := kg.cell 0 rfl
            have cg1 := kg.cell 1 rfl
            have cg2 := kg.cell 2 rfl
            have cg3 := kg.cell 3 rfl
            have cg4 := kg.cell 4 rfl
            have cg5 := kg.cell 5 rfl
            have cg6 := kg.cell 6 rfl
            go_wp2_with fail
            clear cg0 cg1 cg2 cg3 cg4 cg5 cg6
            go_ret
            exact ⟨by rw [Hr.out]; rfl, hB⟩
      | false =>
        have hv1 := hvp rfl
        clear hv0 hvp hq
        have t00 : (v == 0) = false := beq_eq_false_iff_ne.2 (by omega)
        by_cases h1 : 2097152 < v
        · have t1 : decide (2097152 < v) = true := by simpa using h1
          have Hr := Bx.mk (show r = false by
            have : decide (v ≤ 2097152) = false := decide_eq_false (by omega)
            rw [hV, this]; simp)
          clear hV
          go_enter Tryz.func69, Tryz.ntmps69
          go_wp2_with fail
          generalize hW : World.alloc w _ = W
          have hSz : w.heap.size + 1 ≤ W.heap.size := by rw [← hW]; simp
          have hB : Below w.heap.size w W := by rw [← hW]; exact (Below.refl _ _).alloc (Nat.le_refl _) _
          have kg : Bk W (w.heap.size) #[.int .i64 a, .int .i64 b, .int .i64 c, .int .i64 d, .int .i64 e, .int .i64 f, .slice ha xs.length hcp] 28 := by rw [← hW]; exact blk_new _ _ _ (by simp)
          clear hW
          refine (hr0.out _).mono ?_
          rintro _ w1 ⟨rfl, hb⟩
          replace hB := hB.trans (hb.mono hB.size)
          replace kg := kg.later hb
          replace hSz := Nat.le_trans hSz hb.size
          clear hb
          have cg0 := kg.cell 0 rfl
          have cg1 := kg.cell 1 rfl
          have cg2 := kg.cell 2 rfl
          have cg3 := kg.cell 3 rfl
          have cg4 := kg.cell 4 rfl
          have cg5 := kg.cell 5 rfl
          have cg6 := kg.cell 6 rfl
          go_wp2_with fail
          clear cg0 cg1 cg2 cg3 cg4 cg5 cg6
          refine (hr1.out _).mono ?_
          rintro _ w2 ⟨rfl, hb⟩
          replace hB := hB.trans (hb.mono hB.size)
          replace kg := kg.later hb
          replace hSz := Nat.le_trans hSz hb.size
          clear hb
          have cg0 := kg.cell 0 rfl
          have cg1 := kg.cell 1 rfl
          have cg2 := kg.cell 2 rfl
          have cg3 := kg.cell 3 rfl
          have cg4 := kg.cell 4 rfl
          have cg5 := kg.cell 5 rfl
          have cg6 := kg.cell 6 rfl
          go_wp2_with fail
          clear cg0 cg1 cg2 cg3 cg4 cg5 cg6
          refine (hv.out _).mono ?_
          rintro _ w3 ⟨rfl, hb⟩
          replace hB := hB.trans (hb.mono hB.size)
          replace kg := kg.later hb
          replace hSz := Nat.le_trans hSz hb.size
          clear hb
          have cg0 := kg.cell 0 rfl
          have cg1 := kg.cell 1 rfl
          have cg2 := kg.cell 2 rfl
          have cg3 := kg.cell 3 rfl
          have cg4 := kg.cell 4 rfl
          have cg5 := kg.cell 5 rfl
          have cg6 := kg.cell 6 rfl
          go_wp2_with fail
          clear cg0 cg1 cg2 cg3 cg4 cg5 cg6
          go_ret
          exact ⟨by rw [Hr.out]; rfl, hB⟩
        · have t1 : decide (2097152 < v) = false := by simpa using h1
          by_cases h2 : v = xs.length
          · have t2 : ((xs.length : Int) != v) = false := by rw [h2]; simp
            have Hv := Bx.mk (show r = xs.all Pal.cell by
              have : decide (v ≤ 2097152) = true := decide_eq_true (by omega)
              rw [hV, this, h2]; simp)
            have H2 := Bx.mk h2
            clear hV h2
            go_enter Tryz.func69, Tryz.ntmps69
            go_wp2_with fail
            generalize hW : World.alloc w _ = W
            have hSz : w.heap.size + 1 ≤ W.heap.size := by rw [← hW]; simp
            have hB : Below w.heap.size w W := by rw [← hW]; exact (Below.refl _ _).alloc (Nat.le_refl _) _
            have kg : Bk W (w.heap.size) #[.int .i64 a, .int .i64 b, .int .i64 c, .int .i64 d, .int .i64 e, .int .i64 f, .slice ha xs.length hcp] 28 := by rw [← hW]; exact blk_new _ _ _ (by simp)
            clear hW
            refine (hr0.out _).mono ?_
            rintro _ w1 ⟨rfl, hb⟩
            replace hB := hB.trans (hb.mono hB.size)
            replace kg := kg.later hb
            replace hSz := Nat.le_trans hSz hb.size
            clear hb
            have cg0 := kg.cell 0 rfl
            have cg1 := kg.cell 1 rfl
            have cg2 := kg.cell 2 rfl
            have cg3 := kg.cell 3 rfl
            have cg4 := kg.cell 4 rfl
            have cg5 := kg.cell 5 rfl
            have cg6 := kg.cell 6 rfl
            go_wp2_with fail
            clear cg0 cg1 cg2 cg3 cg4 cg5 cg6
            refine (hr1.out _).mono ?_
            rintro _ w2 ⟨rfl, hb⟩
            replace hB := hB.trans (hb.mono hB.size)
            replace kg := kg.later hb
            replace hSz := Nat.le_trans hSz hb.size
            clear hb
            have cg0 := kg.cell 0 rfl
            have cg1 := kg.cell 1 rfl
            have cg2 := kg.cell 2 rfl
            have cg3 := kg.cell 3 rfl
            have cg4 := kg.cell 4 rfl
            have cg5 := kg.cell 5 rfl
            have cg6 := kg.cell 6 rfl
            go_wp2_with fail
            clear cg0 cg1 cg2 cg3 cg4 cg5 cg6
            refine (hv.out _).mono ?_
            rintro _ w3 ⟨rfl, hb⟩
            replace hB := hB.trans (hb.mono hB.size)
            replace kg := kg.later hb
            replace hSz := Nat.le_trans hSz hb.size
            clear hb
            have cg0 := kg.cell 0 rfl
            have cg1 := kg.cell 1 rfl
            have cg2 := kg.cell 2 rfl
            have cg3 := kg.cell 3 rfl
            have cg4 := kg.cell 4 rfl
            have cg5 := kg.cell 5 rfl
            have cg6 := kg.cell 6 rfl
            go_wp2_with fail
            clear cg0 cg1 cg2 cg3 cg4 cg5 cg6
            have hBv : v ≤ 300 := by have := H2.out; omega
            have HB := Bx.mk hB
            clear hB
            go_loop [6] (fun v6 => ∃ k : Nat, (k : Int) ≤ v ∧ v6 = .int .i64 k ∧ Bx ((xs.take k).all Pal.cell = true)) (fun i => 300 - (intOf i).toNat)
            case atStart => exact ⟨0, by omega, rfl, ⟨rfl⟩⟩
            case round =>
              obtain ⟨k, hk, rfl, hall⟩ := hrel
              by_cases hlt : (k : Int) < v
              · have t9 : decide ((k : Int) < v) = true := by simpa using hlt
                obtain ⟨x, hx⟩ : ∃ x, xs[k]? = some x := ⟨_, List.getElem?_eq_getElem (by have := H2.out; omega)⟩
                obtain ⟨b', off, hbo, hc⟩ := (Hsl.out.below HB.out) k x hx
                have b1 : (0 : Int) ≤ (k : Int) := by omega
                have b2 : (k : Int) < (xs.length : Int) := by have := H2.out; omega
                have cg6 := kg.cell 6 rfl
                have HX := Bx.mk hx
                have hm := Bx.mk fun W => ref_mat x W
                clear hx
                subst hbo
                cases hp : Pal.cell x with
                | true =>
                  rw [hp] at hm
                  have hall2 := Bx.mk (all_step HX.out hall.out hp)
                  clear hp
                  go_wp2_with fail
                  refine (hm.out _).mono ?_
                  rintro _ _ ⟨rfl, rfl⟩
                  go_wp2_with fail
                  go_round
                  case rel => exact ⟨k + 1, by omega, by go_num, hall2⟩
                  case measure => simp [intOf]; omega
                | false =>
                  rw [hp] at hm
                  have Hr := Bx.mk (Hv.out.trans (all_stop HX.out hp))
                  clear hp
                  go_wp2_with fail
                  refine (hm.out _).mono ?_
                  rintro _ _ ⟨rfl, rfl⟩
                  go_wp2_with fail
                  go_ret
                  exact ⟨by rw [Hr.out]; rfl, HB.out⟩
              · have t9 : decide ((k : Int) < v) = false := by simpa using hlt
                have Hr := Bx.mk (show r = true from Hv.out.trans (by
                  have h := hall.out
                  rwa [List.take_of_length_le (by have := H2.out; omega)] at h))
                go_wp2_with fail
                go_ret
                exact ⟨by rw [Hr.out]; rfl, HB.out⟩
          · have t2 : ((xs.length : Int) != v) = true := bne_iff_ne.2 (fun e => h2 e.symm)
            have Hr := Bx.mk (show r = false by
              have : decide (v = xs.length) = false := decide_eq_false h2
              rw [hV, this]; simp)
            clear hV h2
            go_enter Tryz.func69, Tryz.ntmps69
            go_wp2_with fail
            generalize hW : World.alloc w _ = W
            have hSz : w.heap.size + 1 ≤ W.heap.size := by rw [← hW]; simp
            have hB : Below w.heap.size w W := by rw [← hW]; exact (Below.refl _ _).alloc (Nat.le_refl _) _
            have kg : Bk W (w.heap.size) #[.int .i64 a, .int .i64 b, .int .i64 c, .int .i64 d, .int .i64 e, .int .i64 f, .slice ha xs.length hcp] 28 := by rw [← hW]; exact blk_new _ _ _ (by simp)
            clear hW
            refine (hr0.out _).mono ?_
            rintro _ w1 ⟨rfl, hb⟩
            replace hB := hB.trans (hb.mono hB.size)
            replace kg := kg.later hb
            replace hSz := Nat.le_trans hSz hb.size
            clear hb
            have cg0 := kg.cell 0 rfl
            have cg1 := kg.cell 1 rfl
            have cg2 := kg.cell 2 rfl
            have cg3 := kg.cell 3 rfl
            have cg4 := kg.cell 4 rfl
            have cg5 := kg.cell 5 rfl
            have cg6 := kg.cell 6 rfl
            go_wp2_with fail
            clear cg0 cg1 cg2 cg3 cg4 cg5 cg6
            refine (hr1.out _).mono ?_
            rintro _ w2 ⟨rfl, hb⟩
            replace hB := hB.trans (hb.mono hB.size)
            replace kg := kg.later hb
            replace hSz := Nat.le_trans hSz hb.size
            clear hb
            have cg0 := kg.cell 0 rfl
            have cg1 := kg.cell 1 rfl
            have cg2 := kg.cell 2 rfl
            have cg3 := kg.cell 3 rfl
            have cg4 := kg.cell 4 rfl
            have cg5 := kg.cell 5 rfl
            have cg6 := kg.cell 6 rfl
            go_wp2_with fail
            clear cg0 cg1 cg2 cg3 cg4 cg5 cg6
            refine (hv.out _).mono ?_
            rintro _ w3 ⟨rfl, hb⟩
            replace hB := hB.trans (hb.mono hB.size)
            replace kg := kg.later hb
            replace hSz := Nat.le_trans hSz hb.size
            clear hb
            have cg0 := kg.cell 0 rfl
            have cg1 := kg.cell 1 rfl
            have cg2 := kg.cell 2 rfl
            have cg3 := kg.cell 3 rfl
            have cg4 := kg.cell 4 rfl
            have cg5 := kg.cell 5 rfl
            have cg6 := kg.cell 6 rfl
            go_wp2_with fail
            clear cg0 cg1 cg2 cg3 cg4 cg5 cg6
            go_ret
            exact ⟨by rw [Hr.out]; rfl, hB⟩
end Go.Proofs.YtabclecmehdeoaaGreat
end
