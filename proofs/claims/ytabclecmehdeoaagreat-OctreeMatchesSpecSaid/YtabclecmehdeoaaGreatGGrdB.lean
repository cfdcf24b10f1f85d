import Derived.Test.YtabclecmehdeoaaGreatGGrd
section
/- Grids: validity, by the program. -/
namespace Go.Proofs.YtabclecmehdeoaaGreat
open Go.RowKit Go.Sort

def validG (b : Box) (l : List Int) : Bool := okB b && (!emptyB b || decide (b = Box.zero)) && decide (volB b ≤ 2097152) && decide (volB b = l.length) && l.all Pal.cell
/-- the error of grid.New -/
def newE (b : Box) (c : Int) : Int := if okB b = false ∨ Pal.cell c = false then 1 else if 2097152 < volB b then 2 else 0
set_option maxHeartbeats 1000000 in
theorem valid_any (a b c d e f : Int) (sa : Option Addr) (cap : Nat) (xs : List Int) (w : World) (hl : xs.length ≤ 1000000000) (h : Sl w .i64 sa xs) :
    Calls Tryz.prog 23 #[.agg #[.int .i64 a, .int .i64 b, .int .i64 c, .int .i64 d, .int .i64 e, .int .i64 f, .slice sa xs.length cap]] w fun e' w' => e' = .returned (.bool (validG ⟨⟨a, b, c⟩, ⟨d, e, f⟩⟩ xs)) ∧ Below w.heap.size w w' := by
  have hV := Bx.mk (show validG ⟨⟨a, b, c⟩, ⟨d, e, f⟩⟩ xs = (okB ⟨⟨a, b, c⟩, ⟨d, e, f⟩⟩ && (!emptyB ⟨⟨a, b, c⟩, ⟨d, e, f⟩⟩ || decide (⟨⟨a, b, c⟩, ⟨d, e, f⟩⟩ = Box.zero)) && decide (volB ⟨⟨a, b, c⟩, ⟨d, e, f⟩⟩ ≤ 2097152) && decide (volB ⟨⟨a, b, c⟩, ⟨d, e, f⟩⟩ = xs.length) && xs.all Pal.cell) from rfl)
  have hr := Bx.mk fun W => ranged_any a b c d e f W
  have he := Bx.mk fun W => empty_any a b c d e f W
  have hq := fun W => neq_box a b c d e f 0 0 0 0 0 0 W
  have hcon := Bx.mk fun W h => contains_v sa cap xs W hl h
  have hvol : Bx (okB ⟨⟨a, b, c⟩, ⟨d, e, f⟩⟩ = true → ∀ W, Calls Tryz.prog 52 #[.agg #[.int .i64 a, .int .i64 b, .int .i64 c, .int .i64 d, .int .i64 e, .int .i64 f]] W fun e' w' => e' = .returned (.int .i64 (volB ⟨⟨a, b, c⟩, ⟨d, e, f⟩⟩)) ∧ Below W.heap.size W w') := ⟨fun h W => volume_any a b c d e f (okB_small h) W⟩
  generalize hn : xs.length = n at *
  clear hn
  rw [show decide (⟨⟨a, b, c⟩, ⟨d, e, f⟩⟩ = Box.zero) = decide ((⟨⟨a, b, c⟩, ⟨d, e, f⟩⟩ : Box) = ⟨⟨0, 0, 0⟩, ⟨0, 0, 0⟩⟩) from rfl] at hV
  generalize okB ⟨⟨a, b, c⟩, ⟨d, e, f⟩⟩ = r1 at *
  generalize emptyB ⟨⟨a, b, c⟩, ⟨d, e, f⟩⟩ = r2 at *
  generalize decide ((⟨⟨a, b, c⟩, ⟨d, e, f⟩⟩ : Box) = ⟨⟨0, 0, 0⟩, ⟨0, 0, 0⟩⟩) = r3 at *
  generalize volB ⟨⟨a, b, c⟩, ⟨d, e, f⟩⟩ = v at *
  generalize xs.all Pal.cell = r4 at *
  cases r1 with
  | false =>
    clear hvol
    go_enter Tryz.func23, Tryz.ntmps23
    go_wp2_with fail
    generalize hW : World.alloc w _ = W
    have hSz : w.heap.size + 1 ≤ W.heap.size := by rw [← hW]; simp
    have hB : Below w.heap.size w W := by rw [← hW]; exact (Below.refl _ _).alloc (Nat.le_refl _) _
    have kg : Bk W (w.heap.size) #[.int .i64 a, .int .i64 b, .int .i64 c, .int .i64 d, .int .i64 e, .int .i64 f, .slice sa n cap] 28 := by rw [← hW]; exact blk_new _ _ _ (by simp)
    clear hW
    refine (hr.out _).mono ?_
    rintro e' w1 ⟨rfl, hb⟩
    replace hB := hB.trans (hb.mono hB.size)
    replace kg := kg.later hb
    replace hSz := Nat.le_trans hSz hb.size
    clear hb
    have cg0 := kg.cell 0 rfl
    have cg1 := kg.cell 1 rfl
    have cg2 := kg.cell 2 rfl
    have cg3 := kg.cell 3 rfl
    have cg4 := kg.cell 4 rfl
    have cg5 := kg.cell 5 rfl
    have cg6 := kg.cell 6 rfl
    go_wp2_with fail
    go_ret
    exact ⟨ret_bool (by rw [hV.out]; simp [*]), hB⟩
  | true =>
    replace hvol := Bx.mk (hvol.out rfl)
    cases r2 with
    | false =>
      by_cases h1 : 2097152 < v
      · have h1' : decide (v ≤ 2097152) = false := by simp; omega
        go_enter Tryz.func23, Tryz.ntmps23
        go_wp2_with fail
        generalize hW : World.alloc w _ = W
        have hSz : w.heap.size + 1 ≤ W.heap.size := by rw [← hW]; simp
        have hB : Below w.heap.size w W := by rw [← hW]; exact (Below.refl _ _).alloc (Nat.le_refl _) _
        have kg : Bk W (w.heap.size) #[.int .i64 a, .int .i64 b, .int .i64 c, .int .i64 d, .int .i64 e, .int .i64 f, .slice sa n cap] 28 := by rw [← hW]; exact blk_new _ _ _ (by simp)
        clear hW
        refine (hr.out _).mono ?_
        rintro e' w1 ⟨rfl, hb⟩
        replace hB := hB.trans (hb.mono hB.size)
        replace kg := kg.later hb
        replace hSz := Nat.le_trans hSz hb.size
        clear hb
        have cg0 := kg.cell 0 rfl
        have cg1 := kg.cell 1 rfl
        have cg2 := kg.cell 2 rfl
        have cg3 := kg.cell 3 rfl
        have cg4 := kg.cell 4 rfl
        have cg5 := kg.cell 5 rfl
        have cg6 := kg.cell 6 rfl
        go_wp2_with fail
        refine (he.out _).mono ?_
        rintro e' w2 ⟨rfl, hb⟩
        clear cg0 cg1 cg2 cg3 cg4 cg5 cg6
        replace hB := hB.trans (hb.mono hB.size)
        replace kg := kg.later hb
        replace hSz := Nat.le_trans hSz hb.size
        clear hb
        have cg0 := kg.cell 0 rfl
        have cg1 := kg.cell 1 rfl
        have cg2 := kg.cell 2 rfl
        have cg3 := kg.cell 3 rfl
        have cg4 := kg.cell 4 rfl
        have cg5 := kg.cell 5 rfl
        have cg6 := kg.cell 6 rfl
        go_wp2_with fail
        refine (hvol.out _).mono ?_
        rintro e' w3 ⟨rfl, hb⟩
        clear cg0 cg1 cg2 cg3 cg4 cg5 cg6
        replace hB := hB.trans (hb.mono hB.size)
        replace kg := kg.later hb
        replace hSz := Nat.le_trans hSz hb.size
        clear hb
        have cg0 := kg.cell 0 rfl
        have cg1 := kg.cell 1 rfl
        have cg2 := kg.cell 2 rfl
        have cg3 := kg.cell 3 rfl
        have cg4 := kg.cell 4 rfl
        have cg5 := kg.cell 5 rfl
        have cg6 := kg.cell 6 rfl
        go_wp2_with fail
        go_ret
        exact ⟨ret_bool (by rw [hV.out]; simp [*]), hB⟩
      · have h1' : decide (v ≤ 2097152) = true := by simp; omega
        by_cases h2 : v = (n : Int)
        · have h2' : (v == (n : Int)) = true := by simp [h2]
          have h2d : Bx (decide (v = (n : Int)) = true) := ⟨by simp [h2]⟩
          clear h2
          cases r4
          all_goals
            go_enter Tryz.func23, Tryz.ntmps23
            go_wp2_with fail
            generalize hW : World.alloc w _ = W
            have hSz : w.heap.size + 1 ≤ W.heap.size := by rw [← hW]; simp
            have hB : Below w.heap.size w W := by rw [← hW]; exact (Below.refl _ _).alloc (Nat.le_refl _) _
            have kg : Bk W (w.heap.size) #[.int .i64 a, .int .i64 b, .int .i64 c, .int .i64 d, .int .i64 e, .int .i64 f, .slice sa n cap] 28 := by rw [← hW]; exact blk_new _ _ _ (by simp)
            clear hW
            refine (hr.out _).mono ?_
            rintro e' w1 ⟨rfl, hb⟩
            replace hB := hB.trans (hb.mono hB.size)
            replace kg := kg.later hb
            replace hSz := Nat.le_trans hSz hb.size
            clear hb
            have cg0 := kg.cell 0 rfl
            have cg1 := kg.cell 1 rfl
            have cg2 := kg.cell 2 rfl
            have cg3 := kg.cell 3 rfl
            have cg4 := kg.cell 4 rfl
            have cg5 := kg.cell 5 rfl
            have cg6 := kg.cell 6 rfl
            go_wp2_with fail
            refine (he.out _).mono ?_
            rintro e' w2 ⟨rfl, hb⟩
            clear cg0 cg1 cg2 cg3 cg4 cg5 cg6
            replace hB := hB.trans (hb.mono hB.size)
            replace kg := kg.later hb
            replace hSz := Nat.le_trans hSz hb.size
            clear hb
            have cg0 := kg.cell 0 rfl
            have cg1 := kg.cell 1 rfl
            have cg2 := kg.cell 2 rfl
            have cg3 := kg.cell 3 rfl
            have cg4 := kg.cell 4 rfl
            have cg5 := kg.cell 5 rfl
            have cg6 := kg.cell 6 rfl
            go_wp2_with fail
            refine (hvol.out _).mono ?_
            rintro e' w3 ⟨rfl, hb⟩
            clear cg0 cg1 cg2 cg3 cg4 cg5 cg6
            replace hB := hB.trans (hb.mono hB.size)
            replace kg := kg.later hb
            replace hSz := Nat.le_trans hSz hb.size
            clear hb
            have cg0 := kg.cell 0 rfl
            have cg1 := kg.cell 1 rfl
            have cg2 := kg.cell 2 rfl
            have cg3 := kg.cell 3 rfl
            have cg4 := kg.cell 4 rfl
            have cg5 := kg.cell 5 rfl
            have cg6 := kg.cell 6 rfl
            go_wp2_with fail
            refine (hcon.out _ (h.below hB)).mono ?_
            rintro e' w4 ⟨rfl, rfl⟩
            go_wp2_with fail
            go_ret
            exact ⟨ret_bool (by rw [hV.out, h2d.out]; simp [h1']), hB⟩
        · have h2' : (v == (n : Int)) = false := by simp [h2]
          have h2d : Bx (decide (v = (n : Int)) = false) := ⟨by simp [h2]⟩
          clear h2
          go_enter Tryz.func23, Tryz.ntmps23
          go_wp2_with fail
          generalize hW : World.alloc w _ = W
          have hSz : w.heap.size + 1 ≤ W.heap.size := by rw [← hW]; simp
          have hB : Below w.heap.size w W := by rw [← hW]; exact (Below.refl _ _).alloc (Nat.le_refl _) _
          have kg : Bk W (w.heap.size) #[.int .i64 a, .int .i64 b, .int .i64 c, .int .i64 d, .int .i64 e, .int .i64 f, .slice sa n cap] 28 := by rw [← hW]; exact blk_new _ _ _ (by simp)
          clear hW
          refine (hr.out _).mono ?_
          rintro e' w1 ⟨rfl, hb⟩
          replace hB := hB.trans (hb.mono hB.size)
          replace kg := kg.later hb
          replace hSz := Nat.le_trans hSz hb.size
          clear hb
          have cg0 := kg.cell 0 rfl
          have cg1 := kg.cell 1 rfl
          have cg2 := kg.cell 2 rfl
          have cg3 := kg.cell 3 rfl
          have cg4 := kg.cell 4 rfl
          have cg5 := kg.cell 5 rfl
          have cg6 := kg.cell 6 rfl
          go_wp2_with fail
          refine (he.out _).mono ?_
          rintro e' w2 ⟨rfl, hb⟩
          clear cg0 cg1 cg2 cg3 cg4 cg5 cg6
          replace hB := hB.trans (hb.mono hB.size)
          replace kg := kg.later hb
          replace hSz := Nat.le_trans hSz hb.size
          clear hb
          have cg0 := kg.cell 0 rfl
          have cg1 := kg.cell 1 rfl
          have cg2 := kg.cell 2 rfl
          have cg3 := kg.cell 3 rfl
          have cg4 := kg.cell 4 rfl
          have cg5 := kg.cell 5 rfl
          have cg6 := kg.cell 6 rfl
          go_wp2_with fail
          refine (hvol.out _).mono ?_
          rintro e' w3 ⟨rfl, hb⟩
          clear cg0 cg1 cg2 cg3 cg4 cg5 cg6
          replace hB := hB.trans (hb.mono hB.size)
          replace kg := kg.later hb
          replace hSz := Nat.le_trans hSz hb.size
          clear hb
          have cg0 := kg.cell 0 rfl
          have cg1 := kg.cell 1 rfl
          have cg2 := kg.cell 2 rfl
          have cg3 := kg.cell 3 rfl
          have cg4 := kg.cell 4 rfl
          have cg5 := kg.cell 5 rfl
          have cg6 := kg.cell 6 rfl
          go_wp2_with fail
          go_ret
          exact ⟨ret_bool (by rw [hV.out, h2d.out]; simp), hB⟩
    | true =>
      cases r3 with
      | false =>
        go_enter Tryz.func23, Tryz.ntmps23
        go_wp2_with fail
        generalize hW : World.alloc w _ = W
        have hSz : w.heap.size + 1 ≤ W.heap.size := by rw [← hW]; simp
        have hB : Below w.heap.size w W := by rw [← hW]; exact (Below.refl _ _).alloc (Nat.le_refl _) _
        have kg : Bk W (w.heap.size) #[.int .i64 a, .int .i64 b, .int .i64 c, .int .i64 d, .int .i64 e, .int .i64 f, .slice sa n cap] 28 := by rw [← hW]; exact blk_new _ _ _ (by simp)
        clear hW
        refine (hr.out _).mono ?_
        rintro e' w1 ⟨rfl, hb⟩
        replace hB := hB.trans (hb.mono hB.size)
        replace kg := kg.later hb
        replace hSz := Nat.le_trans hSz hb.size
        clear hb
        have cg0 := kg.cell 0 rfl
        have cg1 := kg.cell 1 rfl
        have cg2 := kg.cell 2 rfl
        have cg3 := kg.cell 3 rfl
        have cg4 := kg.cell 4 rfl
        have cg5 := kg.cell 5 rfl
        have cg6 := kg.cell 6 rfl
        go_wp2_with fail
        refine (he.out _).mono ?_
        rintro e' w2 ⟨rfl, hb⟩
        clear cg0 cg1 cg2 cg3 cg4 cg5 cg6
        replace hB := hB.trans (hb.mono hB.size)
        replace kg := kg.later hb
        replace hSz := Nat.le_trans hSz hb.size
        clear hb
        have cg0 := kg.cell 0 rfl
        have cg1 := kg.cell 1 rfl
        have cg2 := kg.cell 2 rfl
        have cg3 := kg.cell 3 rfl
        have cg4 := kg.cell 4 rfl
        have cg5 := kg.cell 5 rfl
        have cg6 := kg.cell 6 rfl
        go_wp2_with fail
        go_ret
        exact ⟨ret_bool (by rw [hV.out]; simp [*]), hB⟩
      | true =>
        by_cases h1 : 2097152 < v
        · have h1' : decide (v ≤ 2097152) = false := by simp; omega
          go_enter Tryz.func23, Tryz.ntmps23
          go_wp2_with fail
          generalize hW : World.alloc w _ = W
          have hSz : w.heap.size + 1 ≤ W.heap.size := by rw [← hW]; simp
          have hB : Below w.heap.size w W := by rw [← hW]; exact (Below.refl _ _).alloc (Nat.le_refl _) _
          have kg : Bk W (w.heap.size) #[.int .i64 a, .int .i64 b, .int .i64 c, .int .i64 d, .int .i64 e, .int .i64 f, .slice sa n cap] 28 := by rw [← hW]; exact blk_new _ _ _ (by simp)
          clear hW
          refine (hr.out _).mono ?_
          rintro e' w1 ⟨rfl, hb⟩
          replace hB := hB.trans (hb.mono hB.size)
          replace kg := kg.later hb
          replace hSz := Nat.le_trans hSz hb.size
          clear hb
          have cg0 := kg.cell 0 rfl
          have cg1 := kg.cell 1 rfl
          have cg2 := kg.cell 2 rfl
          have cg3 := kg.cell 3 rfl
          have cg4 := kg.cell 4 rfl
          have cg5 := kg.cell 5 rfl
          have cg6 := kg.cell 6 rfl
          go_wp2_with fail
          refine (he.out _).mono ?_
          rintro e' w2 ⟨rfl, hb⟩
          clear cg0 cg1 cg2 cg3 cg4 cg5 cg6
          replace hB := hB.trans (hb.mono hB.size)
          replace kg := kg.later hb
          replace hSz := Nat.le_trans hSz hb.size
          clear hb
          have cg0 := kg.cell 0 rfl
          have cg1 := kg.cell 1 rfl
          have cg2 := kg.cell 2 rfl
          have cg3 := kg.cell 3 rfl
          have cg4 := kg.cell 4 rfl
          have cg5 := kg.cell 5 rfl
          have cg6 := kg.cell 6 rfl
          go_wp2_with fail
          refine (hvol.out _).mono ?_
          rintro e' w3 ⟨rfl, hb⟩
          clear cg0 cg1 cg2 cg3 cg4 cg5 cg6
          replace hB := hB.trans (hb.mono hB.size)
          replace kg := kg.later hb
          replace hSz := Nat.le_trans hSz hb.size
          clear hb
          have cg0 := kg.cell 0 rfl
          have cg1 := kg.cell 1 rfl
          have cg2 := kg.cell 2 rfl
          have cg3 := kg.cell 3 rfl
          have cg4 := kg.cell 4 rfl
          have cg5 := kg.cell 5 rfl
          have cg6 := kg.cell 6 rfl
          go_wp2_with fail
          go_ret
          exact ⟨ret_bool (by rw [hV.out]; simp [*]), hB⟩
        · have h1' : decide (v ≤ 2097152) = true := by simp; omega
          by_cases h2 : v = (n : Int)
          · have h2' : (v == (n : Int)) = true := by simp [h2]
            have h2d : Bx (decide (v = (n : Int)) = true) := ⟨by simp [h2]⟩
            clear h2
            cases r4
            all_goals
              go_enter Tryz.func23, Tryz.ntmps23
              go_wp2_with fail
              generalize hW : World.alloc w _ = W
              have hSz : w.heap.size + 1 ≤ W.heap.size := by rw [← hW]; simp
              have hB : Below w.heap.size w W := by rw [← hW]; exact (Below.refl _ _).alloc (Nat.le_refl _) _
              have kg : Bk W (w.heap.size) #[.int .i64 a, .int .i64 b, .int .i64 c, .int .i64 d, .int .i64 e, .int .i64 f, .slice sa n cap] 28 := by rw [← hW]; exact blk_new _ _ _ (by simp)
              clear hW
              refine (hr.out _).mono ?_
              rintro e' w1 ⟨rfl, hb⟩
              replace hB := hB.trans (hb.mono hB.size)
              replace kg := kg.later hb
              replace hSz := Nat.le_trans hSz hb.size
              clear hb
              have cg0 := kg.cell 0 rfl
              have cg1 := kg.cell 1 rfl
              have cg2 := kg.cell 2 rfl
              have cg3 := kg.cell 3 rfl
              have cg4 := kg.cell 4 rfl
              have cg5 := kg.cell 5 rfl
              have cg6 := kg.cell 6 rfl
              go_wp2_with fail
              refine (he.out _).mono ?_
              rintro e' w2 ⟨rfl, hb⟩
              clear cg0 cg1 cg2 cg3 cg4 cg5 cg6
              replace hB := hB.trans (hb.mono hB.size)
              replace kg := kg.later hb
              replace hSz := Nat.le_trans hSz hb.size
              clear hb
              have cg0 := kg.cell 0 rfl
              have cg1 := kg.cell 1 rfl
              have cg2 := kg.cell 2 rfl
              have cg3 := kg.cell 3 rfl
              have cg4 := kg.cell 4 rfl
              have cg5 := kg.cell 5 rfl
              have cg6 := kg.cell 6 rfl
              go_wp2_with fail
              refine (hvol.out _).mono ?_
              rintro e' w3 ⟨rfl, hb⟩
              clear cg0 cg1 cg2 cg3 cg4 cg5 cg6
              replace hB := hB.trans (hb.mono hB.size)
              replace kg := kg.later hb
              replace hSz := Nat.le_trans hSz hb.size
              clear hb
              have cg0 := kg.cell 0 rfl
              have cg1 := kg.cell 1 rfl
              have cg2 := kg.cell 2 rfl
              have cg3 := kg.cell 3 rfl
              have cg4 := kg.cell 4 rfl
              have cg5 := kg.cell 5 rfl
              have cg6 := kg.cell 6 rfl
              go_wp2_with fail
              refine (hcon.out _ (h.below hB)).mono ?_
              rintro e' w4 ⟨rfl, rfl⟩
              go_wp2_with fail
              go_ret
              exact ⟨ret_bool (by rw [hV.out, h2d.out]; simp [h1']), hB⟩
          · have h2' : (v == (n : Int)) = false := by simp [h2]
            have h2d : Bx (decide (v = (n : Int)) = false) := ⟨by simp [h2]⟩
            clear h2
            go_enter Tryz.func23, Tryz.ntmps23
            go_wp2_with fail
            generalize hW : World.alloc w _ = W
            have hSz : w.heap.size + 1 ≤ W.heap.size := by rw [← hW]; simp
            have hB : Below w.heap.size w W := by rw [← hW]; exact (Below.refl _ _).alloc (Nat.le_refl _) _
            have kg : Bk W (w.heap.size) #[.int .i64 a, .int .i64 b, .int .i64 c, .int .i64 d, .int .i64 e, .int .i64 f, .slice sa n cap] 28 := by rw [← hW]; exact blk_new _ _ _ (by simp)
            clear hW
            refine (hr.out _).mono ?_
            rintro e' w1 ⟨rfl, hb⟩
            replace hB := hB.trans (hb.mono hB.size)
            replace kg := kg.later hb
            replace hSz := Nat.le_trans hSz hb.size
            clear hb
            have cg0 := kg.cell 0 rfl
            have cg1 := kg.cell 1 rfl
            have cg2 := kg.cell 2 rfl
            have cg3 := kg.cell 3 rfl
            have cg4 := kg.cell 4 rfl
            have cg5 := kg.cell 5 rfl
            have cg6 := kg.cell 6 rfl
            go_wp2_with fail
            refine (he.out _).mono ?_
            rintro e' w2 ⟨rfl, hb⟩
            clear cg0 cg1 cg2 cg3 cg4 cg5 cg6
            replace hB := hB.trans (hb.mono hB.size)
            replace kg := kg.later hb
            replace hSz := Nat.le_trans hSz hb.size
            clear hb
            have cg0 := kg.cell 0 rfl
            have cg1 := kg.cell 1 rfl
            have cg2 := kg.cell 2 rfl
            have cg3 := kg.cell 3 rfl
            have cg4 := kg.cell 4 rfl
            have cg5 := kg.cell 5 rfl
            have cg6 := kg.cell 6 rfl
            go_wp2_with fail
            refine (hvol.out _).mono ?_
            rintro e' w3 ⟨rfl, hb⟩
            clear cg0 cg1 cg2 cg3 cg4 cg5 cg6
            replace hB := hB.trans (hb.mono hB.size)
            replace kg := kg.later hb
            replace hSz := Nat.le_trans hSz hb.size
            clear hb
            have cg0 := kg.cell 0 rfl
            have cg1 := kg.cell 1 rfl
            have cg2 := kg.cell 2 rfl
            have cg3 := kg.cell 3 rfl
            have cg4 := kg.cell 4 rfl
            have cg5 := kg.cell 5 rfl
            have cg6 := kg.cell 6 rfl
            go_wp2_with fail
            go_ret
            exact ⟨ret_bool (by rw [hV.out, h2d.out]; simp), hB⟩
end Go.Proofs.YtabclecmehdeoaaGreat
end
