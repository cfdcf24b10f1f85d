/- trial -/
import Derived.Test.YtcgieiocbjkdlaaBase
import Derived.Test.YtcgieiocbjkdlaaPal
namespace Go.Proofs.Ytcgieiocbjkdlaa
open Go.RowKit


theorem ref_cell (c : Int) (w : World) : Calls Try.prog 43 #[.int .i64 c] w fun e w' => e = .returned (.bool (Pal.cell c)) ∧ w = w' := by
  by_cases h1 : 0 ≤ c <;> by_cases h2 : c ≤ 255
  all_goals
    have hr : Bx (Pal.cell c = (decide (0 ≤ c) && decide (c ≤ 255))) := ⟨rfl⟩
    go_enter Try.func43, Try.ntmps43
    go_wp2
    go_ret
    exact ⟨ret_bool (by rw [hr.out]; simp [*]), rfl⟩

theorem valid1 (c : Int) (w : World) : Calls Try.prog 42 #[.int .i64 c] w fun e w' => e = .returned (.bool (!Pal.cell c)) ∧ w = w' := by
  by_cases h1 : 0 ≤ c <;> by_cases h2 : c ≤ 255
  all_goals
    have hr : Bx (Pal.cell c = (decide (0 ≤ c) && decide (c ≤ 255))) := ⟨rfl⟩
    go_enter Try.func42, Try.ntmps42
    go_wp2
    go_ret
    exact ⟨ret_bool (by rw [hr.out]; simp [*]), rfl⟩

theorem width_ref (m : Nat) (w : World) (hm : m ≤ 1000000) : Calls Try.prog 35 #[.int .i64 (m : Int)] w fun e w' => e = .returned (.int .i64 (Pal.width m : Nat)) ∧ w = w' := by
  have hr : Bx (Pal.width m = if m ≤ 1 then 0 else if m ≤ 2 then 1 else if m ≤ 4 then 2 else if m ≤ 16 then 4 else 8) := ⟨rfl⟩
  go_enter Try.func35, Try.ntmps35
  go_wp2
  all_goals
    go_ret
    exact ⟨ret_int (by rw [hr.out]; split <;> (try split) <;> (try split) <;> (try split) <;> omega), rfl⟩

theorem width_pal (m : Nat) (w : World) (hm : m ≤ 64) : Calls Try.prog 30 #[.int .i64 (m : Int)] w fun e w' => e = .returned (.int .i64 (Pal.width m : Nat)) ∧ Below w.heap.size w w' := by
  have hr : Bx (Pal.width m = if m ≤ 1 then 0 else if m ≤ 2 then 1 else if m ≤ 4 then 2 else if m ≤ 16 then 4 else 8) := ⟨rfl⟩
  have i0 : ∀ w, (Instr.index 54 (.agg #[.int .i64 1, .int .i64 0, .int .i64 2, .int .i64 1, .int .i64 4, .int .i64 2, .int .i64 16, .int .i64 4, .int .i64 64, .int .i64 8]) (.int .i64 0)).run Try.prog w = .ok (.agg #[.int .i64 1, .int .i64 0]) w := fun _ => by kernel_rfl
  have i1 : ∀ w, (Instr.index 54 (.agg #[.int .i64 1, .int .i64 0, .int .i64 2, .int .i64 1, .int .i64 4, .int .i64 2, .int .i64 16, .int .i64 4, .int .i64 64, .int .i64 8]) (.int .i64 1)).run Try.prog w = .ok (.agg #[.int .i64 2, .int .i64 1]) w := fun _ => by kernel_rfl
  have i2 : ∀ w, (Instr.index 54 (.agg #[.int .i64 1, .int .i64 0, .int .i64 2, .int .i64 1, .int .i64 4, .int .i64 2, .int .i64 16, .int .i64 4, .int .i64 64, .int .i64 8]) (.int .i64 2)).run Try.prog w = .ok (.agg #[.int .i64 4, .int .i64 2]) w := fun _ => by kernel_rfl
  have i3 : ∀ w, (Instr.index 54 (.agg #[.int .i64 1, .int .i64 0, .int .i64 2, .int .i64 1, .int .i64 4, .int .i64 2, .int .i64 16, .int .i64 4, .int .i64 64, .int .i64 8]) (.int .i64 3)).run Try.prog w = .ok (.agg #[.int .i64 16, .int .i64 4]) w := fun _ => by kernel_rfl
  have i4 : ∀ w, (Instr.index 54 (.agg #[.int .i64 1, .int .i64 0, .int .i64 2, .int .i64 1, .int .i64 4, .int .i64 2, .int .i64 16, .int .i64 4, .int .i64 64, .int .i64 8]) (.int .i64 4)).run Try.prog w = .ok (.agg #[.int .i64 64, .int .i64 8]) w := fun _ => by kernel_rfl
  go_enter Try.func30, Try.ntmps30
  go_wp2
  go_loopw [3, 12] (fun v i wr => ((i = .int .i64 0) ∨ (i = .int .i64 1 ∧ 1 < m) ∨ (i = .int .i64 2 ∧ 2 < m) ∨ (i = .int .i64 3 ∧ 4 < m) ∨ (i = .int .i64 4 ∧ 16 < m)) ∧ Below w.heap.size w wr) (fun _ i _ => 5 - (intOf i).toNat)
  case atStart => exact ⟨.inl rfl, Below.refl _ _⟩
  case round =>
    obtain ⟨hrel, hbel⟩ := hrel
    have hs := hbel.size
    rcases hrel with rfl | ⟨rfl, hm1⟩ | ⟨rfl, hm1⟩ | ⟨rfl, hm1⟩ | ⟨rfl, hm1⟩
    · by_cases hle : m ≤ 1
      · go_wp2
        go_ret
        exact ⟨ret_int (by rw [hr.out]; split <;> (try split) <;> (try split) <;> (try split) <;> omega), hbel.alloc hs _⟩
      · go_wp2
        go_roundw
        case rel => exact ⟨by simp; omega, hbel.alloc hs _⟩
        case measure => simp [intOf]
    · by_cases hle : m ≤ 2
      · go_wp2
        go_ret
        exact ⟨ret_int (by rw [hr.out]; split <;> (try split) <;> (try split) <;> (try split) <;> omega), hbel.alloc hs _⟩
      · go_wp2
        go_roundw
        case rel => exact ⟨by simp; omega, hbel.alloc hs _⟩
        case measure => simp [intOf]
    · by_cases hle : m ≤ 4
      · go_wp2
        go_ret
        exact ⟨ret_int (by rw [hr.out]; split <;> (try split) <;> (try split) <;> (try split) <;> omega), hbel.alloc hs _⟩
      · go_wp2
        go_roundw
        case rel => exact ⟨by simp; omega, hbel.alloc hs _⟩
        case measure => simp [intOf]
    · by_cases hle : m ≤ 16
      · go_wp2
        go_ret
        exact ⟨ret_int (by rw [hr.out]; split <;> (try split) <;> (try split) <;> (try split) <;> omega), hbel.alloc hs _⟩
      · go_wp2
        go_roundw
        case rel => exact ⟨by simp; omega, hbel.alloc hs _⟩
        case measure => simp [intOf]
    · by_cases hle : m ≤ 64
      · go_wp2
        go_ret
        exact ⟨ret_int (by rw [hr.out]; split <;> (try split) <;> (try split) <;> (try split) <;> omega), hbel.alloc hs _⟩
      · omega
end Go.Proofs.Ytcgieiocbjkdlaa
