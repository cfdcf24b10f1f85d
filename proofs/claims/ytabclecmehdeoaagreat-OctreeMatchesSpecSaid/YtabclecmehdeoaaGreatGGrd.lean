import Derived.Test.YtabclecmehdeoaaGreatGOct
import Derived.Deep.QuietTactic
import Derived.BigQuiet
section
/- Grids: what is permitted, by the program. -/
namespace Go.Proofs.YtabclecmehdeoaaGreat
open Go.RowKit Go.Sort

theorem okB_list (a b c d e f : Int) : okB ⟨⟨a, b, c⟩, ⟨d, e, f⟩⟩ = [a, b, c, d, e, f].all okC := by simp [okB, okP, Bool.and_assoc]
theorem material_any (c : Int) (w : World) :
    Calls Tryz.prog 55 #[.int .i64 c] w fun e w' => e = .returned (.bool (decide (0 ≤ c ∧ c ≤ 255))) ∧ w = w' := by
  go_enter Tryz.func55, Tryz.ntmps55
  go_wp2
  all_goals
    go_ret
    exact ⟨ret_bool (by rw [Bool.eq_iff_iff]; simp; omega), rfl⟩
theorem valid1_any (c : Int) (w : World) :
    Calls Tryz.prog 54 #[.int .i64 c] w fun e w' => e = .returned (.bool (!decide (0 ≤ c ∧ c ≤ 255))) ∧ w = w' := by
  have hm := Bx.mk (material_any c)
  generalize decide (0 ≤ c ∧ c ≤ 255) = r at *
  go_enter Tryz.func54, Tryz.ntmps54
  go_wp2_with fail
  refine (hm.out _).mono ?_
  rintro e w1 ⟨rfl, rfl⟩
  go_wp2
  go_ret
  exact ⟨rfl, rfl⟩
set_option maxHeartbeats 1000000 in
theorem ranged_any (a b c d e f : Int) (w : World) :
    Calls Tryz.prog 51 #[.agg #[.int .i64 a, .int .i64 b, .int .i64 c, .int .i64 d, .int .i64 e, .int .i64 f]] w fun e' w' => e' = .returned (.bool (okB ⟨⟨a, b, c⟩, ⟨d, e, f⟩⟩)) ∧ Below w.heap.size w w' := by
  have hl := Bx.mk (okB_list a b c d e f)
  go_enter Tryz.func51, Tryz.ntmps51
  go_wp2_with fail
  generalize hW : World.alloc w _ = W
  have hSz : w.heap.size + 1 ≤ W.heap.size := by rw [← hW]; simp
  have hB : Below w.heap.size w W := by rw [← hW]; exact (Below.refl _ _).alloc (Nat.le_refl _) _
  have kb : Bk W (w.heap.size) #[.int .i64 a, .int .i64 b, .int .i64 c, .int .i64 d, .int .i64 e, .int .i64 f] 25 := by rw [← hW]; exact blk_new _ _ _ (by simp)
  clear hW
  go_loopw [24] (fun i wr => ∃ k : Nat, k ≤ 6 ∧ i = .int .i64 k ∧ ([a, b, c, d, e, f].take k).all okC = true ∧ wr = W) (fun i _ => 6 - (intOf i).toNat)
  case atStart => exact ⟨0, by omega, rfl, by simp, rfl⟩
  case round =>
    obtain ⟨k, hk, hi, hall, rfl⟩ := hrel
    have Hall := Bx.mk hall
    clear hall
    by_cases hlt : k < 6
    · obtain rfl | rfl | rfl | rfl | rfl | rfl : k = 0 ∨ k = 1 ∨ k = 2 ∨ k = 3 ∨ k = 4 ∨ k = 5 := by omega
      · replace hi : _ = Value.int .i64 0 := hi
        subst hi
        have hix : ∀ w, (Instr.index 111 (.agg #[.int .i64 a, .int .i64 b, .int .i64 c, .int .i64 d, .int .i64 e, .int .i64 f]) (.int .i64 0)).run Tryz.prog w = .ok (.int .i64 a) w := fun _ => by kernel_rfl
        by_cases hlo : a < -1048575
        · have hf : Bx (okB ⟨⟨a, b, c⟩, ⟨d, e, f⟩⟩ = false) := ⟨by rw [hl.out]; simp [okC]; omega⟩
          go_wp2_with fail
          go_ret
          exact ⟨ret_bool hf.out.symm, hB⟩
        · by_cases hhi : 1048575 < a
          · have hf : Bx (okB ⟨⟨a, b, c⟩, ⟨d, e, f⟩⟩ = false) := ⟨by rw [hl.out]; simp [okC]; omega⟩
            go_wp2_with fail
            go_ret
            exact ⟨ret_bool hf.out.symm, hB⟩
          · have hn : Bx (([a, b, c, d, e, f].take 1).all okC = true) := ⟨by have := Hall.out; simp [okC] at this ⊢; omega⟩
            go_wp2_with fail
            go_roundw
            case rel => exact ⟨1, by omega, by go_num, hn.out, by trivial⟩
            case measure => simp [intOf]
      · replace hi : _ = Value.int .i64 1 := hi
        subst hi
        have hix : ∀ w, (Instr.index 111 (.agg #[.int .i64 a, .int .i64 b, .int .i64 c, .int .i64 d, .int .i64 e, .int .i64 f]) (.int .i64 1)).run Tryz.prog w = .ok (.int .i64 b) w := fun _ => by kernel_rfl
        by_cases hlo : b < -1048575
        · have hf : Bx (okB ⟨⟨a, b, c⟩, ⟨d, e, f⟩⟩ = false) := ⟨by rw [hl.out]; simp [okC]; omega⟩
          go_wp2_with fail
          go_ret
          exact ⟨ret_bool hf.out.symm, hB⟩
        · by_cases hhi : 1048575 < b
          · have hf : Bx (okB ⟨⟨a, b, c⟩, ⟨d, e, f⟩⟩ = false) := ⟨by rw [hl.out]; simp [okC]; omega⟩
            go_wp2_with fail
            go_ret
            exact ⟨ret_bool hf.out.symm, hB⟩
          · have hn : Bx (([a, b, c, d, e, f].take 2).all okC = true) := ⟨by have := Hall.out; simp [okC] at this ⊢; omega⟩
            go_wp2_with fail
            go_roundw
            case rel => exact ⟨2, by omega, by go_num, hn.out, by trivial⟩
            case measure => simp [intOf]
      · replace hi : _ = Value.int .i64 2 := hi
        subst hi
        have hix : ∀ w, (Instr.index 111 (.agg #[.int .i64 a, .int .i64 b, .int .i64 c, .int .i64 d, .int .i64 e, .int .i64 f]) (.int .i64 2)).run Tryz.prog w = .ok (.int .i64 c) w := fun _ => by kernel_rfl
        by_cases hlo : c < -1048575
        · have hf : Bx (okB ⟨⟨a, b, c⟩, ⟨d, e, f⟩⟩ = false) := ⟨by rw [hl.out]; simp [okC]; omega⟩
          go_wp2_with fail
          go_ret
          exact ⟨ret_bool hf.out.symm, hB⟩
        · by_cases hhi : 1048575 < c
          · have hf : Bx (okB ⟨⟨a, b, c⟩, ⟨d, e, f⟩⟩ = false) := ⟨by rw [hl.out]; simp [okC]; omega⟩
            go_wp2_with fail
            go_ret
            exact ⟨ret_bool hf.out.symm, hB⟩
          · have hn : Bx (([a, b, c, d, e, f].take 3).all okC = true) := ⟨by have := Hall.out; simp [okC] at this ⊢; omega⟩
            go_wp2_with fail
            go_roundw
            case rel => exact ⟨3, by omega, by go_num, hn.out, by trivial⟩
            case measure => simp [intOf]
      · replace hi : _ = Value.int .i64 3 := hi
        subst hi
        have hix : ∀ w, (Instr.index 111 (.agg #[.int .i64 a, .int .i64 b, .int .i64 c, .int .i64 d, .int .i64 e, .int .i64 f]) (.int .i64 3)).run Tryz.prog w = .ok (.int .i64 d) w := fun _ => by kernel_rfl
        by_cases hlo : d < -1048575
        · have hf : Bx (okB ⟨⟨a, b, c⟩, ⟨d, e, f⟩⟩ = false) := ⟨by rw [hl.out]; simp [okC]; omega⟩
          go_wp2_with fail
          go_ret
          exact ⟨ret_bool hf.out.symm, hB⟩
        · by_cases hhi : 1048575 < d
          · have hf : Bx (okB ⟨⟨a, b, c⟩, ⟨d, e, f⟩⟩ = false) := ⟨by rw [hl.out]; simp [okC]; omega⟩
            go_wp2_with fail
            go_ret
            exact ⟨ret_bool hf.out.symm, hB⟩
          · have hn : Bx (([a, b, c, d, e, f].take 4).all okC = true) := ⟨by have := Hall.out; simp [okC] at this ⊢; omega⟩
            go_wp2_with fail
            go_roundw
            case rel => exact ⟨4, by omega, by go_num, hn.out, by trivial⟩
            case measure => simp [intOf]
      · replace hi : _ = Value.int .i64 4 := hi
        subst hi
        have hix : ∀ w, (Instr.index 111 (.agg #[.int .i64 a, .int .i64 b, .int .i64 c, .int .i64 d, .int .i64 e, .int .i64 f]) (.int .i64 4)).run Tryz.prog w = .ok (.int .i64 e) w := fun _ => by kernel_rfl
        by_cases hlo : e < -1048575
        · have hf : Bx (okB ⟨⟨a, b, c⟩, ⟨d, e, f⟩⟩ = false) := ⟨by rw [hl.out]; simp [okC]; omega⟩
          go_wp2_with fail
          go_ret
          exact ⟨ret_bool hf.out.symm, hB⟩
        · by_cases hhi : 1048575 < e
          · have hf : Bx (okB ⟨⟨a, b, c⟩, ⟨d, e, f⟩⟩ = false) := ⟨by rw [hl.out]; simp [okC]; omega⟩
            go_wp2_with fail
            go_ret
            exact ⟨ret_bool hf.out.symm, hB⟩
          · have hn : Bx (([a, b, c, d, e, f].take 5).all okC = true) := ⟨by have := Hall.out; simp [okC] at this ⊢; omega⟩
            go_wp2_with fail
            go_roundw
            case rel => exact ⟨5, by omega, by go_num, hn.out, by trivial⟩
            case measure => simp [intOf]
      · replace hi : _ = Value.int .i64 5 := hi
        subst hi
        have hix : ∀ w, (Instr.index 111 (.agg #[.int .i64 a, .int .i64 b, .int .i64 c, .int .i64 d, .int .i64 e, .int .i64 f]) (.int .i64 5)).run Tryz.prog w = .ok (.int .i64 f) w := fun _ => by kernel_rfl
        by_cases hlo : f < -1048575
        · have hf : Bx (okB ⟨⟨a, b, c⟩, ⟨d, e, f⟩⟩ = false) := ⟨by rw [hl.out]; simp [okC]; omega⟩
          go_wp2_with fail
          go_ret
          exact ⟨ret_bool hf.out.symm, hB⟩
        · by_cases hhi : 1048575 < f
          · have hf : Bx (okB ⟨⟨a, b, c⟩, ⟨d, e, f⟩⟩ = false) := ⟨by rw [hl.out]; simp [okC]; omega⟩
            go_wp2_with fail
            go_ret
            exact ⟨ret_bool hf.out.symm, hB⟩
          · have hn : Bx (([a, b, c, d, e, f].take 6).all okC = true) := ⟨by have := Hall.out; simp [okC] at this ⊢; omega⟩
            go_wp2_with fail
            go_roundw
            case rel => exact ⟨6, by omega, by go_num, hn.out, by trivial⟩
            case measure => simp [intOf]
    · obtain rfl : k = 6 := by omega
      replace hi : _ = Value.int .i64 6 := hi
      subst hi
      go_wp2_with fail
      go_ret
      exact ⟨ret_bool (by rw [hl.out]; have := Hall.out; simpa using this.symm), hB⟩
end Go.Proofs.YtabclecmehdeoaaGreat
end
section
/- Lists of materials: searched, compared. -/
namespace Go.Proofs.YtabclecmehdeoaaGreat
open Go.RowKit
namespace Pal
def cell (c : Int) : Bool := decide (0 ≤ c) && decide (c ≤ 255)
def brick (l : List Int) : Bool := decide (l.length = 64) && l.all cell
theorem cell_eq (c : Int) : cell c = decide (0 ≤ c ∧ c ≤ 255) := by simp [cell]
end Pal
theorem all_step {xs : List Int} {k : Nat} {x : Int} {f : Int → Bool} (hx : xs[k]? = some x) (h : (xs.take k).all f = true) (hf : f x = true) : (xs.take (k + 1)).all f = true := by
  rw [List.take_add_one, hx]; simp [h, hf]
theorem all_stop {xs : List Int} {k : Nat} {x : Int} {f : Int → Bool} (hx : xs[k]? = some x) (hf : f x = false) : xs.all f = false := by
  obtain ⟨hl, rfl⟩ := List.getElem?_eq_some_iff.1 hx
  rw [List.all_eq_false]; exact ⟨_, List.getElem_mem hl, by simp [hf]⟩
theorem all_end {xs : List Int} {n : Nat} {f : Int → Bool} (hn : Bx (xs.length = n)) (h : (xs.take n).all f = true) : xs.all f = true := by
  rw [← hn.out, List.take_length] at h; exact h
theorem clo_valid (c : Int) (w : World) : Calls Tryz.prog 54 #[.int .i64 c] w fun e w' => e = .returned (.bool (!Pal.cell c)) ∧ w = w' := by
  rw [Pal.cell_eq]; exact valid1_any c w
theorem clo_brick (c : Int) (w : World) : Calls Tryz.prog 64 #[.int .i64 c] w fun e w' => e = .returned (.bool (!Pal.cell c)) ∧ w = w' := by
  have hm := Bx.mk (isCell_any c)
  rw [Pal.cell_eq]
  generalize decide (0 ≤ c ∧ c ≤ 255) = r at *
  go_enter Tryz.func64, Tryz.ntmps64
  go_wp2_with fail
  refine (hm.out _).mono ?_
  rintro e w1 ⟨rfl, rfl⟩
  go_wp2
  go_ret
  exact ⟨rfl, rfl⟩
set_option maxHeartbeats 400000 in
theorem index_v (a : Option Addr) (cap : Nat) (xs : List Int) (w : World) (hl : xs.length ≤ 1000000000) (h : Sl w .i64 a xs) :
    Calls Tryz.prog 84 #[.slice a xs.length cap, .func (.func 54) #[] #[]] w fun e w' => (∃ r : Int, e = .returned (.int .i64 r) ∧ (decide (0 ≤ r) = !xs.all Pal.cell)) ∧ w = w' := by
  generalize hn : xs.length = n at hl
  have Hn := Bx.mk hn; clear hn
  go_enter Tryz.func84, Tryz.ntmps84
  go_wp2
  go_loop [8] (fun i => ∃ k : Nat, k ≤ n ∧ i = .int .i64 k ∧ (xs.take k).all Pal.cell = true) (fun i => n - (intOf i).toNat)
  case atStart => exact ⟨0, Nat.zero_le _, rfl, by simp⟩
  case round =>
    obtain ⟨k, hk, rfl, hall⟩ := hrel
    have Hall := Bx.mk hall; clear hall
    by_cases hlt : k < n
    · obtain ⟨x, hx⟩ := at_lt Hn hlt
      obtain ⟨b, off, rfl, hc⟩ := h k x hx
      have Hx := Bx.mk hx; clear h hx
      cases hcx : Pal.cell x with
      | false =>
        have hf := Bx.mk (all_stop Hx.out hcx)
        go_wp2_with (go_at_call 54; refine (clo_valid x _).mono ?_; rintro e w' ⟨rfl, rfl⟩)
        go_ret
        exact ⟨⟨_, rfl, by rw [hf.out]; simp⟩, rfl⟩
      | true =>
        have hf := Bx.mk (all_step Hx.out Hall.out hcx)
        go_wp2_with (go_at_call 54; refine (clo_valid x _).mono ?_; rintro e w' ⟨rfl, rfl⟩)
        go_round
        case rel => exact ⟨k+1, by omega, by go_num, hf.out⟩
        case measure => simp [intOf]; omega
    · have hkn : k = n := by omega
      have hf := Bx.mk (all_end Hn (hkn ▸ Hall.out))
      clear hkn
      go_wp2
      go_ret
      exact ⟨⟨_, rfl, by rw [hf.out]; simp⟩, rfl⟩
theorem contains_v (a : Option Addr) (cap : Nat) (xs : List Int) (w : World) (hl : xs.length ≤ 1000000000) (h : Sl w .i64 a xs) :
    Calls Tryz.prog 53 #[.slice a xs.length cap, .func (.func 54) #[] #[]] w fun e w' => e = .returned (.bool (!xs.all Pal.cell)) ∧ w = w' := by
  go_enter Tryz.func53, Tryz.ntmps53
  go_wp2_with (go_at_call 84; refine (index_v a cap xs _ hl h).mono ?_; rintro e w' ⟨⟨r, rfl, hr⟩, rfl⟩; have Hr := Bx.mk hr; clear hr)
  go_ret
  exact ⟨ret_bool Hr.out, rfl⟩
set_option maxHeartbeats 400000 in
theorem index_b (a : Option Addr) (cap : Nat) (xs : List Int) (w : World) (hl : xs.length ≤ 1000000000) (h : Sl w .i64 a xs) :
    Calls Tryz.prog 84 #[.slice a xs.length cap, .func (.func 64) #[] #[]] w fun e w' => (∃ r : Int, e = .returned (.int .i64 r) ∧ (decide (0 ≤ r) = !xs.all Pal.cell)) ∧ w = w' := by
  generalize hn : xs.length = n at hl
  have Hn := Bx.mk hn; clear hn
  go_enter Tryz.func84, Tryz.ntmps84
  go_wp2
  go_loop [8] (fun i => ∃ k : Nat, k ≤ n ∧ i = .int .i64 k ∧ (xs.take k).all Pal.cell = true) (fun i => n - (intOf i).toNat)
  case atStart => exact ⟨0, Nat.zero_le _, rfl, by simp⟩
  case round =>
    obtain ⟨k, hk, rfl, hall⟩ := hrel
    have Hall := Bx.mk hall; clear hall
    by_cases hlt : k < n
    · obtain ⟨x, hx⟩ := at_lt Hn hlt
      obtain ⟨b, off, rfl, hc⟩ := h k x hx
      have Hx := Bx.mk hx; clear h hx
      cases hcx : Pal.cell x with
      | false =>
        have hf := Bx.mk (all_stop Hx.out hcx)
        go_wp2_with (go_at_call 64; refine (clo_brick x _).mono ?_; rintro e w' ⟨rfl, rfl⟩)
        go_ret
        exact ⟨⟨_, rfl, by rw [hf.out]; simp⟩, rfl⟩
      | true =>
        have hf := Bx.mk (all_step Hx.out Hall.out hcx)
        go_wp2_with (go_at_call 64; refine (clo_brick x _).mono ?_; rintro e w' ⟨rfl, rfl⟩)
        go_round
        case rel => exact ⟨k+1, by omega, by go_num, hf.out⟩
        case measure => simp [intOf]; omega
    · have hkn : k = n := by omega
      have hf := Bx.mk (all_end Hn (hkn ▸ Hall.out))
      clear hkn
      go_wp2
      go_ret
      exact ⟨⟨_, rfl, by rw [hf.out]; simp⟩, rfl⟩
theorem contains_b (a : Option Addr) (cap : Nat) (xs : List Int) (w : World) (hl : xs.length ≤ 1000000000) (h : Sl w .i64 a xs) :
    Calls Tryz.prog 53 #[.slice a xs.length cap, .func (.func 64) #[] #[]] w fun e w' => e = .returned (.bool (!xs.all Pal.cell)) ∧ w = w' := by
  go_enter Tryz.func53, Tryz.ntmps53
  go_wp2_with (go_at_call 84; refine (index_b a cap xs _ hl h).mono ?_; rintro e w' ⟨⟨r, rfl, hr⟩, rfl⟩; have Hr := Bx.mk hr; clear hr)
  go_ret
  exact ⟨ret_bool Hr.out, rfl⟩
theorem take_eq_step {xs ys : List Int} {k : Nat} {x : Int} (hx : xs[k]? = some x) (hy : ys[k]? = some x) (h : xs.take k = ys.take k) : xs.take (k + 1) = ys.take (k + 1) := by
  rw [List.take_add_one, List.take_add_one, hx, hy, h]
theorem take_eq_stop {xs ys : List Int} {k : Nat} {x y : Int} (hx : xs[k]? = some x) (hy : ys[k]? = some y) (h : ¬ x = y) : xs ≠ ys := by
  rintro rfl; rw [hx] at hy; exact h (by injection hy)
set_option maxHeartbeats 400000 in
theorem ref_same (a b : Option Addr) (ca cb : Nat) (xs ys : List Int) (w : World) (hl : xs.length ≤ 1000000) (_hl2 : ys.length ≤ 1000000) (h : Sl w .i64 a xs) (h' : Sl w .i64 b ys) :
    Calls Tryz.prog 48 #[.slice a xs.length ca, .slice b ys.length cb] w fun e w' => e = .returned (.bool (decide (xs = ys))) ∧ Below w.heap.size w w' := by
  by_cases hlen : xs.length = ys.length
  · generalize hn : xs.length = n at hl
    have Hn := Bx.mk hn
    have Hm := Bx.mk (hlen.symm.trans hn)
    rw [Hm.out]
    clear hlen hn
    have hnn : ((n : Int) != (n : Int)) = false := by simp
    go_enter Tryz.func48, Tryz.ntmps48
    go_wp2
    go_loopw [5] (fun i wr => ∃ k : Nat, k ≤ n ∧ i = .int .i64 k ∧ xs.take k = ys.take k ∧ Below w.heap.size w wr) (fun i _ => n - (intOf i).toNat)
    case atStart => exact ⟨0, Nat.zero_le _, rfl, by simp, Below.refl _ _⟩
    case round =>
      obtain ⟨k, hk, rfl, heq, hbel⟩ := hrel
      have Heq := Bx.mk heq; clear heq
      by_cases hlt : k < n
      · obtain ⟨x, hx⟩ := at_lt Hn hlt
        obtain ⟨y, hy⟩ := at_lt Hm hlt
        obtain ⟨b1, off1, rfl, hc⟩ := h.below hbel k x hx
        obtain ⟨b2, off2, rfl, hc2⟩ := h'.below hbel k y hy
        clear h h'
        have Hx := Bx.mk hx
        have Hy := Bx.mk hy
        clear hx hy
        have hlt1 : (k : Int) < (n : Int) := by omega
        have hlt0 : (0 : Int) ≤ (k : Int) := by omega
        by_cases hxy : x = y
        · have hb : (x != y) = false := by simp [hxy]
          have hst := Bx.mk (take_eq_step Hx.out (hxy ▸ Hy.out) Heq.out)
          clear hxy
          go_wp2_with fail
          go_quiet (fail)
          go_wp2
          go_roundw
          case rel => exact ⟨k+1, by omega, by go_num, hst.out, below_drewN hbel _⟩
          case measure => simp [intOf]; omega
        · have hb : (x != y) = true := by simp [hxy]
          have hst := Bx.mk (take_eq_stop Hx.out Hy.out hxy)
          clear hxy
          go_wp2_with fail
          go_quiet (fail)
          go_wp2
          go_ret
          exact ⟨ret_bool (by simp [hst.out]), below_drewN hbel _⟩
      · have hkn : k = n := by omega
        have hf : Bx (xs = ys) := Bx.mk (by have := Heq.out; rw [hkn] at this; rw [← List.take_length (l := xs), ← List.take_length (l := ys), Hn.out, Hm.out]; exact this)
        clear hkn
        go_wp2
        go_ret
        exact ⟨ret_bool (by simp [hf.out]), hbel⟩
  · have hb : ((xs.length : Int) != (ys.length : Int)) = true := by simp; omega
    have hne := Bx.mk (show ¬ xs = ys from fun e => hlen (by rw [e]))
    clear hlen
    go_enter Tryz.func48, Tryz.ntmps48
    go_wp2
    go_ret
    exact ⟨ret_bool (by simp [hne.out]), Below.refl _ _⟩
end Go.Proofs.YtabclecmehdeoaaGreat
end
