/- trial -/
import Derived.Test.YtcgieiocbjkdlaaBase
import Derived.Test.YtcgieiocbjkdlaaPal
namespace Go.Proofs.Ytcgieiocbjkdlaa
open Go.RowKit

theorem idx_lt {xs : List Int} {c : Int} (h : c ∈ xs) : xs.idxOf c < xs.length := List.idxOf_lt_length_of_mem h
theorem idx_not {xs : List Int} {c : Int} (h : c ∉ xs) : xs.idxOf c = xs.length := List.idxOf_eq_length h
theorem idx_stop {xs : List Int} {c : Int} {k : Nat} (hk : xs[k]? = some c) (h : c ∉ xs.take k) : xs.idxOf c = k := by
  obtain ⟨hl, rfl⟩ := List.getElem?_eq_some_iff.1 hk
  have hs : xs = xs.take k ++ xs[k] :: xs.drop (k + 1) := by simp
  have hlen : (xs.take k).length = k := by simp; omega
  generalize hc : xs[k] = c at *
  rw [hs, List.idxOf_append, if_neg h]; simp [hlen]
theorem not_mem_snoc {xs : List Int} {c x : Int} {k : Nat} (hk : xs[k]? = some x) (h : c ∉ xs.take k) (hne : ¬ x = c) : c ∉ xs.take (k + 1) := by
  rw [List.take_add_one, hk]; simp [h]; exact fun e => hne e.symm

set_option maxHeartbeats 400000 in
theorem ref_index (a : Option Addr) (cap : Nat) (xs : List Int) (c : Int) (w : World) (hl : xs.length ≤ 1000000000) (h : Sl w .i64 a xs) :
    Calls Try.prog 36 #[.slice a xs.length cap, .int .i64 c] w fun e w' => e = .returned (.int .i64 (xs.idxOf c : Nat)) ∧ w = w' := by
  generalize hn : xs.length = n at hl
  have Hn := Bx.mk hn; clear hn
  go_enter Try.func36, Try.ntmps36
  go_wp2
  go_loop [5] (fun i => ∃ k : Nat, k ≤ n ∧ i = .int .i64 k ∧ c ∉ xs.take k) (fun i => n - (intOf i).toNat)
  case atStart => exact ⟨0, Nat.zero_le _, rfl, by simp⟩
  case round =>
    obtain ⟨k, hk, rfl, hno⟩ := hrel
    have Hno := Bx.mk hno; clear hno
    by_cases hlt : k < n
    · obtain ⟨x, hx⟩ := at_lt Hn hlt
      obtain ⟨b, off, rfl, hc⟩ := h k x hx
      have Hx := Bx.mk hx; clear h hx
      by_cases hec : x = c
      · have hb : (x == c) = true := by simp [hec]
        have hf := Bx.mk (idx_stop (hec ▸ Hx.out) Hno.out)
        clear hec
        go_wp2
        go_ret
        exact ⟨ret_nat hf.out.symm, rfl⟩
      · have hb : (x == c) = false := by simp [hec]
        have hno' := Bx.mk (not_mem_snoc Hx.out Hno.out hec)
        clear hec
        go_wp2
        go_round
        case rel => exact ⟨k+1, by omega, by go_num, hno'.out⟩
        case measure => simp [intOf]; omega
    · have hkn : k = n := by omega
      have hf := Bx.mk (show xs.idxOf c = n by rw [← Hn.out]; exact idx_not (by have := Hno.out; rw [hkn, ← Hn.out] at this; simpa using this))
      clear hkn
      go_wp2
      go_ret
      exact ⟨ret_nat hf.out.symm, rfl⟩

set_option maxHeartbeats 400000 in
theorem ref_palette (a : Option Addr) (cap : Nat) (xs : List Int) (w : World) (hl : xs.length ≤ 1000000) (h : Sl w .i64 a xs) :
    Calls Try.prog 34 #[.slice a xs.length cap] w fun e w' =>
      ∃ v, e = .returned v ∧ Own w' w.heap.size 3 .i64 v (Pal.diff xs) ∧ Below w.heap.size w w' := by
  generalize hn : xs.length = n at hl
  have Hn := Bx.mk hn; clear hn
  have hB : ∃ B, B = w.heap.size := ⟨_, rfl⟩
  go_enter Try.func34, Try.ntmps34
  go_wp2
  go_loopw [3, 4] (fun v i wr => ∃ k : Nat, k ≤ n ∧ i = .int .i64 k ∧ Own wr w.heap.size 3 .i64 v (Pal.diff (xs.take k)) ∧ Below w.heap.size w wr) (fun _ i _ => n - (intOf i).toNat)
  case atStart => exact ⟨0, Nat.zero_le _, rfl, Own.nil _ _ _ _, Below.refl _ _⟩
  case round =>
    obtain ⟨k, hk, rfl, hown, hbel⟩ := hrel
    by_cases hlt : k < n
    · obtain ⟨x, hx⟩ := at_lt Hn hlt
      have hrec := Bx.mk (Pal.diff_take xs k x hx)
      have hpl := Pal.diff_length_take xs k
      obtain ⟨b, off, rfl, hc⟩ := h.below hbel k x hx
      clear h hx
      generalize Pal.diff (xs.take k) = p at *
      obtain ⟨pa, pc, rfl, hsl⟩ := hown.form
      by_cases hmem : x ∈ p
      · have hb : (((p.idxOf x : Nat) : Int) == (p.length : Int)) = false := by have := idx_lt hmem; simp; omega
        have hadd := Bx.mk (show Pal.add p x = p by simp [Pal.add, hmem])
        clear hmem
        go_wp2_with (go_at_call 36; refine (ref_index pa pc p x _ (by omega) hsl).mono ?_; rintro e w' ⟨rfl, rfl⟩)
        go_roundw
        case rel => exact ⟨k+1, by omega, by go_num, by rw [hrec.out, hadd.out]; exact hown, hbel⟩
        case measure => simp [intOf]; omega
      · have hb : (((p.idxOf x : Nat) : Int) == (p.length : Int)) = true := by rw [idx_not hmem]; simp
        have hadd := Bx.mk (show Pal.add p x = p ++ [x] by simp [Pal.add, hmem])
        clear hmem
        go_wp2_with (first
          | (go_at_call 36; refine (ref_index pa pc p x _ (by omega) hsl).mono ?_; rintro e w' ⟨rfl, rfl⟩)
          | (at_builtin
             refine wpList_append_int rfl _ _ 22 rfl 3 .i64 (.int .i64 0) 8 (by omega) Try.underlying22 (by kernel_rfl) rfl w.heap.size _ p rfl (hown.alloc _) x ⟨wr.heap.size, 0, none⟩ 1 rfl (cell_new _ _ _) (by omega) (le_alloc hbel.size _) ?_
             intro v1 w1 hown1 hg1 _))
        go_roundw
        case rel => exact ⟨k+1, by omega, by go_num, by rw [hrec.out, hadd.out]; exact hown1, (hbel.alloc hbel.size _).grown hg1 (le_alloc hbel.size _) (fun g hg => (hown.lt g hg).1)⟩
        case measure => simp [intOf]; omega
    · have hkn : k = n := by omega
      rw [hkn, ← Hn.out, List.take_length] at hown
      clear hkn
      go_wp2
      go_ret
      exact ⟨_, rfl, hown, hbel⟩
end Go.Proofs.Ytcgieiocbjkdlaa
