/- trial -/
import Derived.Test.YtcgieiocbjkdlaaT1
import Derived.Test.YtcgieiocbjkdlaaT2
namespace Go.Proofs.Ytcgieiocbjkdlaa
open Go.RowKit

theorem all_step {xs : List Int} {k : Nat} {x : Int} {f : Int → Bool} (hx : xs[k]? = some x) (h : (xs.take k).all f = true) (hf : f x = true) : (xs.take (k + 1)).all f = true := by
  rw [List.take_add_one, hx]; simp [h, hf]
theorem all_stop {xs : List Int} {k : Nat} {x : Int} {f : Int → Bool} (hx : xs[k]? = some x) (hf : f x = false) : xs.all f = false := by
  obtain ⟨hl, rfl⟩ := List.getElem?_eq_some_iff.1 hx
  rw [List.all_eq_false]; exact ⟨_, List.getElem_mem hl, by simp [hf]⟩
theorem all_end {xs : List Int} {n : Nat} {f : Int → Bool} (hn : Bx (xs.length = n)) (h : (xs.take n).all f = true) : xs.all f = true := by
  rw [← hn.out, List.take_length] at h; exact h

set_option maxHeartbeats 400000 in
theorem ref_cells (a : Option Addr) (cap : Nat) (xs : List Int) (w : World) (hl : xs.length ≤ 1000000000) (h : Sl w .i64 a xs) :
    Calls Try.prog 33 #[.slice a xs.length cap] w fun e w' => e = .returned (.bool (xs.all Pal.cell)) ∧ w = w' := by
  generalize hn : xs.length = n at hl
  have Hn := Bx.mk hn; clear hn
  go_enter Try.func33, Try.ntmps33
  go_wp2
  go_loop [3] (fun i => ∃ k : Nat, k ≤ n ∧ i = .int .i64 k ∧ (xs.take k).all Pal.cell = true) (fun i => n - (intOf i).toNat)
  case atStart => exact ⟨0, Nat.zero_le _, rfl, by simp⟩
  case round =>
    obtain ⟨k, hk, rfl, hall⟩ := hrel
    have Hall := Bx.mk hall; clear hall
    by_cases hlt : k < n
    · obtain ⟨x, hx⟩ := at_lt Hn hlt
      obtain ⟨b, off, rfl, hc⟩ := h k x hx
      have Hx := Bx.mk hx; clear h hx
      cases hcx : Pal.cell x with
      | false =>
        have hf := Bx.mk (all_stop Hx.out hcx)
        go_wp2_with (go_at_call 43; refine (ref_cell x _).mono ?_; rintro e w' ⟨rfl, rfl⟩)
        go_ret
        exact ⟨ret_bool hf.out.symm, rfl⟩
      | true =>
        have hf := Bx.mk (all_step Hx.out Hall.out hcx)
        go_wp2_with (go_at_call 43; refine (ref_cell x _).mono ?_; rintro e w' ⟨rfl, rfl⟩)
        go_round
        case rel => exact ⟨k+1, by omega, by go_num, hf.out⟩
        case measure => simp [intOf]; omega
    · have hkn : k = n := by omega
      have hf := Bx.mk (all_end Hn (hkn ▸ Hall.out))
      clear hkn
      go_wp2
      go_ret
      exact ⟨ret_bool hf.out.symm, rfl⟩

set_option maxHeartbeats 400000 in
theorem index_func (a : Option Addr) (cap : Nat) (xs : List Int) (w : World) (hl : xs.length ≤ 1000000000) (h : Sl w .i64 a xs) :
    Calls Try.prog 44 #[.slice a xs.length cap, .func (.func 42) #[] #[]] w fun e w' => (∃ r : Int, e = .returned (.int .i64 r) ∧ (decide (0 ≤ r) = !xs.all Pal.cell)) ∧ w = w' := by
  generalize hn : xs.length = n at hl
  have Hn := Bx.mk hn; clear hn
  go_enter Try.func44, Try.ntmps44
  go_wp2
  go_loop [8] (fun i => ∃ k : Nat, k ≤ n ∧ i = .int .i64 k ∧ (xs.take k).all Pal.cell = true) (fun i => n - (intOf i).toNat)
  case atStart => exact ⟨0, Nat.zero_le _, rfl, by simp⟩
  case round =>
    obtain ⟨k, hk, rfl, hall⟩ := hrel
    have Hall := Bx.mk hall; clear hall
    by_cases hlt : k < n
    · obtain ⟨x, hx⟩ := at_lt Hn hlt
      obtain ⟨b, off, rfl, hc⟩ := h k x hx
      have Hx := Bx.mk hx; clear h hx
      cases hcx : Pal.cell x with
      | false =>
        have hf := Bx.mk (all_stop Hx.out hcx)
        go_wp2_with (go_at_call 42; refine (valid1 x _).mono ?_; rintro e w' ⟨rfl, rfl⟩)
        go_ret
        exact ⟨⟨_, rfl, by rw [hf.out]; simp⟩, rfl⟩
      | true =>
        have hf := Bx.mk (all_step Hx.out Hall.out hcx)
        go_wp2_with (go_at_call 42; refine (valid1 x _).mono ?_; rintro e w' ⟨rfl, rfl⟩)
        go_round
        case rel => exact ⟨k+1, by omega, by go_num, hf.out⟩
        case measure => simp [intOf]; omega
    · have hkn : k = n := by omega
      have hf := Bx.mk (all_end Hn (hkn ▸ Hall.out))
      clear hkn
      go_wp2
      go_ret
      exact ⟨⟨_, rfl, by rw [hf.out]; simp⟩, rfl⟩

theorem contains_func (a : Option Addr) (cap : Nat) (xs : List Int) (w : World) (hl : xs.length ≤ 1000000000) (h : Sl w .i64 a xs) :
    Calls Try.prog 41 #[.slice a xs.length cap, .func (.func 42) #[] #[]] w fun e w' => e = .returned (.bool (!xs.all Pal.cell)) ∧ w = w' := by
  go_enter Try.func41, Try.ntmps41
  go_wp2_with (go_at_call 44; refine (index_func a cap xs _ hl h).mono ?_; rintro e w' ⟨⟨r, rfl, hr⟩, rfl⟩; have Hr := Bx.mk hr; clear hr)
  go_ret
  exact ⟨ret_bool Hr.out, rfl⟩

theorem valid_pal (a : Option Addr) (cap : Nat) (xs : List Int) (w : World) (hl : xs.length ≤ 1000000000) (h : Sl w .i64 a xs) :
    Calls Try.prog 27 #[.slice a xs.length cap] w fun e w' => e = .returned (.bool (xs.all Pal.cell)) ∧ w = w' := by
  go_enter Try.func27, Try.ntmps27
  go_wp2_with (go_at_call 41; refine (contains_func a cap xs _ hl h).mono ?_; rintro e w' ⟨rfl, rfl⟩)
  go_ret
  exact ⟨ret_bool (by simp), rfl⟩

set_option maxHeartbeats 400000 in
theorem slices_index (a : Option Addr) (cap : Nat) (xs : List Int) (c : Int) (w : World) (hl : xs.length ≤ 1000000000) (h : Sl w .i64 a xs) :
    Calls Try.prog 32 #[.slice a xs.length cap, .int .i64 c] w fun e w' => e = .returned (.int .i64 (Pal.find xs c)) ∧ w = w' := by
  generalize hn : xs.length = n at hl
  have Hn := Bx.mk hn; clear hn
  go_enter Try.func32, Try.ntmps32
  go_wp2
  go_loop [8] (fun i => ∃ k : Nat, k ≤ n ∧ i = .int .i64 k ∧ c ∉ xs.take k) (fun i => n - (intOf i).toNat)
  case atStart => exact ⟨0, Nat.zero_le _, rfl, by simp⟩
  case round =>
    obtain ⟨k, hk, rfl, hno⟩ := hrel
    have Hno := Bx.mk hno; clear hno
    by_cases hlt : k < n
    · obtain ⟨x, hx⟩ := at_lt Hn hlt
      obtain ⟨b, off, rfl, hc⟩ := h k x hx
      have Hx := Bx.mk hx; clear h hx
      by_cases hec : x = c
      · have hb : (x == c) = true := by simp [hec]
        have hb' : (c == x) = true := by simp [hec]
        have hf := Bx.mk (idx_stop (hec ▸ Hx.out) Hno.out)
        have hm : Bx (c ∈ xs) := ⟨by have := Hx.out; rw [hec] at this; exact List.mem_of_getElem? this⟩
        clear hec
        go_wp2
        go_ret
        exact ⟨ret_int (by rw [Pal.find_pos hm.out, hf.out]), rfl⟩
      · have hb : (x == c) = false := by simp [hec]
        have hb' : (c == x) = false := by simp; exact fun e => hec e.symm
        have hno' := Bx.mk (not_mem_snoc Hx.out Hno.out hec)
        clear hec
        go_wp2
        go_round
        case rel => exact ⟨k+1, by omega, by go_num, hno'.out⟩
        case measure => simp [intOf]; omega
    · have hkn : k = n := by omega
      have hf : Bx (c ∉ xs) := Bx.mk (by have := Hno.out; rw [hkn, ← Hn.out] at this; simpa using this)
      clear hkn
      go_wp2
      go_ret
      exact ⟨ret_int (by rw [Pal.find_neg hf.out]), rfl⟩

theorem slices_contains (a : Option Addr) (cap : Nat) (xs : List Int) (c : Int) (w : World) (hl : xs.length ≤ 1000000000) (h : Sl w .i64 a xs) :
    Calls Try.prog 37 #[.slice a xs.length cap, .int .i64 c] w fun e w' => e = .returned (.bool (decide (c ∈ xs))) ∧ w = w' := by
  by_cases hm : c ∈ xs
  all_goals
    have Hm := Bx.mk hm; clear hm
    go_enter Try.func37, Try.ntmps37
    go_wp2_with (go_at_call 32; refine (slices_index a cap xs c _ hl h).mono ?_; rintro e w' ⟨rfl, rfl⟩; first | rw [Pal.find_pos Hm.out] | rw [Pal.find_neg Hm.out])
    go_ret
    exact ⟨ret_bool (by have := Hm.out; simp [this]), rfl⟩
end Go.Proofs.Ytcgieiocbjkdlaa
