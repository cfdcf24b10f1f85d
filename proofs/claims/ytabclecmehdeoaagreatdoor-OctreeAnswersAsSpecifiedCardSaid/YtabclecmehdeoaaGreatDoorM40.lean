/- ET3, ET4: joined by program, for one claim. -/
import Derived.Test.YtabclecmehdeoaaGreatDoorM39
import Derived.Deep.QuietTactic
import Derived.BigQuiet
section
namespace Go.Proofs.YtabclecmehdeoaaGreatDoor.PalE
set_option maxRecDepth 100000
open Go.RowKit
theorem all_step {xs : List Int} {k : Nat} {x : Int} {f : Int → Bool} (hx : xs[k]? = some x) (h : (xs.take k).all f = true) (hf : f x = true) : (xs.take (k + 1)).all f = true := by
 rw [List.take_add_one, hx]; simp [h, hf]
theorem all_stop {xs : List Int} {k : Nat} {x : Int} {f : Int → Bool} (hx : xs[k]? = some x) (hf : f x = false) : xs.all f = false := by
 obtain ⟨hl, rfl⟩ := List.getElem?_eq_some_iff.1 hx
 rw [List.all_eq_false]; exact ⟨_, List.getElem_mem hl, by simp [hf]⟩
theorem all_end {xs : List Int} {n : Nat} {f : Int → Bool} (hn : Bx (xs.length = n)) (h : (xs.take n).all f = true) : xs.all f = true := by
 rw [← hn.out, List.take_length] at h; exact h
set_option maxHeartbeats 400000 in
theorem ref_cells (a : Option Addr) (cap : Nat) (xs : List Int) (w : World) (hl : xs.length ≤ 1000000000) (h : Sl w .i64 a xs) :
 Calls Tryz.prog 130 #[.slice a xs.length cap] w fun e w' => e = .returned (.bool (xs.all Pal.cell)) ∧ w = w' := by
 generalize hn : xs.length = n at hl
 have Hn := Bx.mk hn; clear hn
 go_enter Tryz.func130, Tryz.ntmps130
 go_wp2
 go_loop [3] (fun i => ∃ k : Nat, k ≤ n ∧ i = .int .i64 k ∧ (xs.take k).all Pal.cell = true) (fun i => n - (intOf i).toNat)
 case atStart => exact ⟨0, Nat.zero_le _, rfl, by simp⟩
 case round =>
  obtain ⟨k, hk, rfl, hall⟩ := hrel
  have Hall := Bx.mk hall; clear hall
  by_cases hlt : k < n
  · obtain ⟨x, hx⟩ := at_lt Hn hlt
    obtain ⟨b, off, rfl, hc⟩ := h k x hx
    have Hx := Bx.mk hx; clear h hx
    cases hcx : Pal.cell x with
    | false =>
      have hf := Bx.mk (all_stop Hx.out hcx)
      go_wp2_with (go_at_call 156; refine (ref_cell x _).mono ?_; rintro e w' ⟨rfl, rfl⟩)
      go_ret
      exact ⟨ret_bool hf.out.symm, rfl⟩
    | true =>
      have hf := Bx.mk (all_step Hx.out Hall.out hcx)
      go_wp2_with (go_at_call 156; refine (ref_cell x _).mono ?_; rintro e w' ⟨rfl, rfl⟩)
      go_round
      case rel => exact ⟨k+1, by omega, by go_num, hf.out⟩
      case measure => simp [intOf]; omega
  · have hkn : k = n := by omega
    have hf := Bx.mk (all_end Hn (hkn ▸ Hall.out))
    clear hkn
    go_wp2
    go_ret
    exact ⟨ret_bool hf.out.symm, rfl⟩
set_option maxHeartbeats 400000 in
theorem index_func (a : Option Addr) (cap : Nat) (xs : List Int) (w : World) (hl : xs.length ≤ 1000000000) (h : Sl w .i64 a xs) :
 Calls Tryz.prog 134 #[.slice a xs.length cap, .func (.func 151) #[] #[]] w fun e w' => (∃ r : Int, e = .returned (.int .i64 r) ∧ (decide (0 ≤ r) = !xs.all Pal.cell)) ∧ w = w' := by
 generalize hn : xs.length = n at hl
 have Hn := Bx.mk hn; clear hn
 go_enter Tryz.func134, Tryz.ntmps134
 go_wp2
 go_loop [8] (fun i => ∃ k : Nat, k ≤ n ∧ i = .int .i64 k ∧ (xs.take k).all Pal.cell = true) (fun i => n - (intOf i).toNat)
 case atStart => exact ⟨0, Nat.zero_le _, rfl, by simp⟩
 case round =>
  obtain ⟨k, hk, rfl, hall⟩ := hrel
  have Hall := Bx.mk hall; clear hall
  by_cases hlt : k < n
  · obtain ⟨x, hx⟩ := at_lt Hn hlt
    obtain ⟨b, off, rfl, hc⟩ := h k x hx
    have Hx := Bx.mk hx; clear h hx
    cases hcx : Pal.cell x with
    | false =>
      have hf := Bx.mk (all_stop Hx.out hcx)
      go_wp2_with (go_at_call 151; refine (valid1 x _).mono ?_; rintro e w' ⟨rfl, rfl⟩)
      go_ret
      exact ⟨⟨_, rfl, by rw [hf.out]; simp⟩, rfl⟩
    | true =>
      have hf := Bx.mk (all_step Hx.out Hall.out hcx)
      go_wp2_with (go_at_call 151; refine (valid1 x _).mono ?_; rintro e w' ⟨rfl, rfl⟩)
      go_round
      case rel => exact ⟨k+1, by omega, by go_num, hf.out⟩
      case measure => simp [intOf]; omega
  · have hkn : k = n := by omega
    have hf := Bx.mk (all_end Hn (hkn ▸ Hall.out))
    clear hkn
    go_wp2
    go_ret
    exact ⟨⟨_, rfl, by rw [hf.out]; simp⟩, rfl⟩
theorem contains_func (a : Option Addr) (cap : Nat) (xs : List Int) (w : World) (hl : xs.length ≤ 1000000000) (h : Sl w .i64 a xs) :
 Calls Tryz.prog 103 #[.slice a xs.length cap, .func (.func 151) #[] #[]] w fun e w' => e = .returned (.bool (!xs.all Pal.cell)) ∧ w = w' := by
 go_enter Tryz.func103, Tryz.ntmps103
 go_wp2_with (go_at_call 134; refine (index_func a cap xs _ hl h).mono ?_; rintro e w' ⟨⟨r, rfl, hr⟩, rfl⟩; have Hr := Bx.mk hr; clear hr)
 go_ret
 exact ⟨ret_bool Hr.out, rfl⟩
theorem valid_pal (a : Option Addr) (cap : Nat) (xs : List Int) (w : World) (hl : xs.length ≤ 1000000000) (h : Sl w .i64 a xs) :
 Calls Tryz.prog 122 #[.slice a xs.length cap] w fun e w' => e = .returned (.bool (xs.all Pal.cell)) ∧ w = w' := by
 go_enter Tryz.func122, Tryz.ntmps122
 go_wp2_with (go_at_call 103; refine (contains_func a cap xs _ hl h).mono ?_; rintro e w' ⟨rfl, rfl⟩)
 go_ret
 exact ⟨ret_bool (by simp), rfl⟩
set_option maxHeartbeats 400000 in
theorem slices_index (a : Option Addr) (cap : Nat) (xs : List Int) (c : Int) (w : World) (hl : xs.length ≤ 1000000000) (h : Sl w .i64 a xs) :
 Calls Tryz.prog 127 #[.slice a xs.length cap, .int .i64 c] w fun e w' => e = .returned (.int .i64 (Pal.find xs c)) ∧ w = w' := by
 generalize hn : xs.length = n at hl
 have Hn := Bx.mk hn; clear hn
 go_enter Tryz.func127, Tryz.ntmps127
 go_wp2
 go_loop [8] (fun i => ∃ k : Nat, k ≤ n ∧ i = .int .i64 k ∧ c ∉ xs.take k) (fun i => n - (intOf i).toNat)
 case atStart => exact ⟨0, Nat.zero_le _, rfl, by simp⟩
 case round =>
  obtain ⟨k, hk, rfl, hno⟩ := hrel
  have Hno := Bx.mk hno; clear hno
  by_cases hlt : k < n
  · obtain ⟨x, hx⟩ := at_lt Hn hlt
    obtain ⟨b, off, rfl, hc⟩ := h k x hx
    have Hx := Bx.mk hx; clear h hx
    by_cases hec : x = c
    · have hb : (x == c) = true := by simp [hec]
      have hb' : (c == x) = true := by simp [hec]
      have hf := Bx.mk (idx_stop (hec ▸ Hx.out) Hno.out)
      have hm : Bx (c ∈ xs) := ⟨by have := Hx.out; rw [hec] at this; exact List.mem_of_getElem? this⟩
      clear hec
      go_wp2
      go_ret
      exact ⟨ret_int (by rw [Pal.find_pos hm.out, hf.out]), rfl⟩
    · have hb : (x == c) = false := by simp [hec]
      have hb' : (c == x) = false := by simp; exact fun e => hec e.symm
      have hno' := Bx.mk (not_mem_snoc Hx.out Hno.out hec)
      clear hec
      go_wp2
      go_round
      case rel => exact ⟨k+1, by omega, by go_num, hno'.out⟩
      case measure => simp [intOf]; omega
  · have hkn : k = n := by omega
    have hf : Bx (c ∉ xs) := Bx.mk (by have := Hno.out; rw [hkn, ← Hn.out] at this; simpa using this)
    clear hkn
    go_wp2
    go_ret
    exact ⟨ret_int (by rw [Pal.find_neg hf.out]), rfl⟩
theorem slices_contains (a : Option Addr) (cap : Nat) (xs : List Int) (c : Int) (w : World) (hl : xs.length ≤ 1000000000) (h : Sl w .i64 a xs) :
 Calls Tryz.prog 152 #[.slice a xs.length cap, .int .i64 c] w fun e w' => e = .returned (.bool (decide (c ∈ xs))) ∧ w = w' := by
 by_cases hm : c ∈ xs
 all_goals
  have Hm := Bx.mk hm; clear hm
  go_enter Tryz.func152, Tryz.ntmps152
  go_wp2_with (go_at_call 127; refine (slices_index a cap xs c _ hl h).mono ?_; rintro e w' ⟨rfl, rfl⟩; first | rw [Pal.find_pos Hm.out] | rw [Pal.find_neg Hm.out])
  go_ret
  exact ⟨ret_bool (by have := Hm.out; simp [this]), rfl⟩
end Go.Proofs.YtabclecmehdeoaaGreatDoor.PalE
end
section
namespace Go.Proofs.YtabclecmehdeoaaGreatDoor.PalE
set_option maxRecDepth 100000
open Go.RowKit
set_option maxHeartbeats 400000 in
theorem different_pal (a : Option Addr) (cap : Nat) (xs : List Int) (w : World) (hl : xs.length ≤ 1000000) (h : Sl w .i64 a xs) :
 Calls Tryz.prog 123 #[.slice a xs.length cap] w fun e w' =>
  ∃ v, e = .returned v ∧ Own w' w.heap.size 3 .i64 v (Pal.diff xs) ∧ Below w.heap.size w w' := by
 generalize hn : xs.length = n at hl
 have Hn := Bx.mk hn; clear hn
 go_enter Tryz.func123, Tryz.ntmps123
 go_wp2
 go_loopw [2, 7] (fun v i wr => ∃ k : Nat, k ≤ n ∧ i = .int .i64 k ∧ Own wr w.heap.size 3 .i64 v (Pal.diff (xs.take k)) ∧ Below w.heap.size w wr) (fun _ i _ => n - (intOf i).toNat)
 case atStart => exact ⟨0, Nat.zero_le _, rfl, Own.nil _ _ _ _, Below.refl _ _⟩
 case round =>
  obtain ⟨k, hk, rfl, hown, hbel⟩ := hrel
  by_cases hlt : k < n
  · obtain ⟨x, hx⟩ := at_lt Hn hlt
    have hrec := Bx.mk (Pal.diff_take xs k x hx)
    have hpl := Pal.diff_length_take xs k
    obtain ⟨b, off, rfl, hc⟩ := h.below hbel k x hx
    clear h hx
    generalize Pal.diff (xs.take k) = p at *
    obtain ⟨pa, pc, rfl, hsl⟩ := hown.form
    by_cases hmem : x ∈ p
    · have hadd := Bx.mk (show Pal.add p x = p by simp [Pal.add, hmem])
      have hd := Bx.mk (show decide (x ∈ p) = true by simp [hmem])
      clear hmem
      go_wp2_with (go_at_call 152; refine (slices_contains pa pc p x _ (by omega) hsl).mono ?_; rintro e w' ⟨rfl, rfl⟩; rw [hd.out])
      go_roundw
      case rel => exact ⟨k+1, by omega, by go_num, by rw [hrec.out, hadd.out]; exact hown, hbel⟩
      case measure => simp [intOf]; omega
    · have hadd := Bx.mk (show Pal.add p x = p ++ [x] by simp [Pal.add, hmem])
      have hd := Bx.mk (show decide (x ∈ p) = false by simp [hmem])
      clear hmem
      go_wp2_with (first
       | (go_at_call 152; refine (slices_contains pa pc p x _ (by omega) hsl).mono ?_; rintro e w' ⟨rfl, rfl⟩; rw [hd.out])
       | (at_builtin
          refine wpList_append_int rfl _ _ 26 rfl 3 .i64 (.int .i64 0) 8 (by omega) Tryz.underlying26 (by kernel_rfl) rfl w.heap.size _ p rfl (hown.alloc _) x ⟨wr.heap.size, 0, none⟩ 1 rfl (cell_new _ _ _) (by omega) (le_alloc hbel.size _) ?_
          intro v1 w1 hown1 hg1 _))
      go_roundw
      case rel => exact ⟨k+1, by omega, by go_num, by rw [hrec.out, hadd.out]; exact hown1, (hbel.alloc hbel.size _).grown hg1 (le_alloc hbel.size _) (fun g hg => (hown.lt g hg).1)⟩
      case measure => simp [intOf]; omega
  · have hkn : k = n := by omega
    rw [hkn, ← Hn.out, List.take_length] at hown
    clear hkn
    go_wp2
    go_ret
    exact ⟨_, rfl, hown, hbel⟩
theorem take_eq_step {xs ys : List Int} {k : Nat} {x : Int} (hx : xs[k]? = some x) (hy : ys[k]? = some x) (h : xs.take k = ys.take k) : xs.take (k + 1) = ys.take (k + 1) := by
 rw [List.take_add_one, List.take_add_one, hx, hy, h]
theorem take_eq_stop {xs ys : List Int} {k : Nat} {x y : Int} (hx : xs[k]? = some x) (hy : ys[k]? = some y) (h : ¬ x = y) : xs ≠ ys := by
 rintro rfl; rw [hx] at hy; exact h (by injection hy)
set_option maxHeartbeats 400000 in
theorem ref_same (a b : Option Addr) (ca cb : Nat) (xs ys : List Int) (w : World) (hl : xs.length ≤ 1000000) (_hl2 : ys.length ≤ 1000000) (h : Sl w .i64 a xs) (h' : Sl w .i64 b ys) :
 Calls Tryz.prog 43 #[.slice a xs.length ca, .slice b ys.length cb] w fun e w' => e = .returned (.bool (decide (xs = ys))) ∧ Below w.heap.size w w' := by
 by_cases hlen : xs.length = ys.length
 · generalize hn : xs.length = n at hl
   have Hn := Bx.mk hn
   have Hm := Bx.mk (hlen.symm.trans hn)
   rw [Hm.out]
   clear hlen hn
   have hnn : ((n : Int) != (n : Int)) = false := by simp
   go_enter Tryz.func43, Tryz.ntmps43
   go_wp2
   go_loopw [5] (fun i wr => ∃ k : Nat, k ≤ n ∧ i = .int .i64 k ∧ xs.take k = ys.take k ∧ Below w.heap.size w wr) (fun i _ => n - (intOf i).toNat)
   case atStart => exact ⟨0, Nat.zero_le _, rfl, by simp, Below.refl _ _⟩
   case round =>
    obtain ⟨k, hk, rfl, heq, hbel⟩ := hrel
    have Heq := Bx.mk heq; clear heq
    by_cases hlt : k < n
    · obtain ⟨x, hx⟩ := at_lt Hn hlt
      obtain ⟨y, hy⟩ := at_lt Hm hlt
      obtain ⟨b1, off1, rfl, hc⟩ := h.below hbel k x hx
      obtain ⟨b2, off2, rfl, hc2⟩ := h'.below hbel k y hy
      clear h h'
      have Hx := Bx.mk hx
      have Hy := Bx.mk hy
      clear hx hy
      have hlt1 : (k : Int) < (n : Int) := by omega
      have hlt0 : (0 : Int) ≤ (k : Int) := by omega
      by_cases hxy : x = y
      · have hb : (x != y) = false := by simp [hxy]
        have hst := Bx.mk (take_eq_step Hx.out (hxy ▸ Hy.out) Heq.out)
        clear hxy
        go_wp2_with fail
        go_quiet (fail)
        go_wp2
        go_roundw
        case rel => exact ⟨k+1, by omega, by go_num, hst.out, below_drewN hbel _⟩
        case measure => simp [intOf]; omega
      · have hb : (x != y) = true := by simp [hxy]
        have hst := Bx.mk (take_eq_stop Hx.out Hy.out hxy)
        clear hxy
        go_wp2_with fail
        go_quiet (fail)
        go_wp2
        go_ret
        exact ⟨ret_bool (by simp [hst.out]), below_drewN hbel _⟩
    · have hkn : k = n := by omega
      have hf : Bx (xs = ys) := Bx.mk (by have := Heq.out; rw [hkn] at this; rw [← List.take_length (l := xs), ← List.take_length (l := ys), Hn.out, Hm.out]; exact this)
      clear hkn
      go_wp2
      go_ret
      exact ⟨ret_bool (by simp [hf.out]), hbel⟩
 · have hb : ((xs.length : Int) != (ys.length : Int)) = true := by simp; omega
   have hne := Bx.mk (show ¬ xs = ys from fun e => hlen (by rw [e]))
   clear hlen
   go_enter Tryz.func43, Tryz.ntmps43
   go_wp2
   go_ret
   exact ⟨ret_bool (by simp [hne.out]), Below.refl _ _⟩
end Go.Proofs.YtabclecmehdeoaaGreatDoor.PalE
end
