/- palette.indices: the cells of a palette, whose indices a text holds. -/
import Derived.Test.YtcgieiocbjkdlaaPPack
import Derived.Test.YtcgieiocbjkdlaaStr
namespace Go.Proofs.Ytcgieiocbjkdlaa
open Go.RowKit

def RetSl (k : IntKind) (xs : List Int) (r : Int) (w : World) (e : Ending) (w' : World) : Prop :=
  ∃ a cap, e = .returned (.tuple #[.slice a xs.length cap, .int .i64 r]) ∧ Sl w' k a xs ∧ Below w.heap.size w w'
theorem ret_sl {k : IntKind} {xs : List Int} {r r' : Int} {w w' : World} {v : Value} {B : Nat} {e : TypeId} (h : Own w' B e k v xs) (hb : Below w.heap.size w w') (hr : r = r') : RetSl k xs r' w (.returned (.tuple #[v, .int .i64 r])) w' := by
  obtain ⟨a, cap, rfl, hs⟩ := h.form
  exact ⟨a, cap, by rw [hr], hs, hb⟩
theorem ret_sl_nil {k : IntKind} {xs : List Int} {r r' : Int} {w w' : World} (hx : xs = []) (hb : Below w.heap.size w w') (hr : r = r') : RetSl k xs r' w (.returned (.tuple #[.slice none 0 0, .int .i64 r])) w' := by
  subst hx; exact ⟨none, 0, by rw [hr]; rfl, Sl.nil _ _ _, hb⟩

set_option maxRecDepth 100000 in
set_option maxHeartbeats 8000000 in
theorem pal_indices (t p : List Int) (pa : Option Addr) (pc n : Nat) (w : World) (hb : Byt t) (ht : t.length ≤ 1000000) (hp : Sl w .i64 pa p) (hm1 : 1 ≤ p.length) (hmn : p.length ≤ n) (hn : n ≤ 64) :
    Calls Try.prog 38 #[.string (strOfNums t), .slice pa p.length pc, .int .i64 (n : Int)] w (RetSl .i64 (Pal.inds t p n).1 (Pal.inds t p n).2 w) := by
  generalize hr : Pal.inds t p n = res
  have Hr : Bx (Pal.rd t p p.length n (Pal.width p.length) n 0 0 [] = res) := Bx.mk hr
  clear hr
  have hwref := Bx.mk (fun W => width_pal p.length W (by omega))
  have hw8 : Pal.width p.length ≤ 8 := by unfold Pal.width; repeat (split <;> try omega)
  have hwz := Bx.mk (show Pal.width p.length = 0 → p.length = 1 from fun h => by unfold Pal.width at h; split at h <;> (try split at h) <;> (try split at h) <;> (try split at h) <;> omega)
  have hwd := Bx.mk (show 0 < Pal.width p.length → Pal.Wd (Pal.width p.length) from fun h => Pal.width_wd (by unfold Pal.width at h; split at h <;> omega))
  generalize hmd : p.length = m at *
  have Hm := Bx.mk hmd
  clear hmd
  generalize Pal.width m = wd at *
  have hsz := strOfNums_size t
  have hidx := fun (k : Nat) (x : Int) (h : t[k]? = some x) => idx_str (P := Try.prog) 9 Try.underlying9 hb h
  have Hidx := Bx.mk hidx
  clear hidx
  generalize strOfNums t = S at *
  generalize htl : t.length = tl at *
  have Htl := Bx.mk htl
  clear htl
  go_enter Try.func38, Try.ntmps38
  go_wp2_with (first | (go_at_call 30; refine (hwref.out _).mono ?_; rintro e w1 ⟨rfl, hb1⟩))
  have hp1 := hp.below hb1
  clear hp
  go_loopw [6, 9, 17] (fun v s i wr => ∃ (k seen : Nat) (acc : List Int), k ≤ n ∧ i = .int .i64 k ∧ s = .int .i64 seen ∧ seen ≤ k ∧ acc.length ≤ k ∧ Own wr w1.heap.size 3 .i64 v acc ∧ Below w1.heap.size w1 wr ∧ Pal.rd t p m n wd (n - k) k seen acc = res) (fun _ _ i _ => n - (intOf i).toNat)
  case atStart => exact ⟨0, 0, [], Nat.zero_le _, rfl, rfl, Nat.le_refl _, Nat.le_refl _, Own.nil _ _ _ _, Below.refl _ _, Hr.out⟩
  case round =>
    clear Hr
    obtain ⟨k, seen, acc, hk, rfl, rfl, hse, hac, hown, hbel, hrd⟩ := hrel
    have Hrd := Bx.mk hrd
    clear hrd
    by_cases hlt : k < n
    · by_cases hw0 : 0 < wd
      · have hWd := Bx.mk (hwd.out hw0)
        obtain ⟨q, hq, hq9⟩ : ∃ q, q = k * wd ∧ q ≤ 600 := ⟨k * wd, rfl, by have : k * wd ≤ k * 8 := Nat.mul_le_mul_left _ hw8; omega⟩
        have eq1 : IntKind.i64.wrap ((k : Int) * (wd : Int)) = (q : Int) := by rw [hq, Int.natCast_mul]; exact IntWalk.i64_in _ (by rw [← Int.natCast_mul, ← hq]; omega)
        have Hq := Bx.mk hq
        clear hq
        obtain ⟨j, hj1, hj2, hj⟩ : ∃ j, 8 * j ≤ q ∧ q < 8 * j + 8 ∧ j = q / 8 := ⟨q / 8, by omega, by omega, rfl⟩
        obtain ⟨s, hs1, hs⟩ : ∃ s, s < 8 ∧ s = q % 8 := ⟨q % 8, by omega, rfl⟩
        have eq2 : (q : Int) / 8 = (j : Int) := by omega
        have eq3 : (q : Int) % 8 = (s : Int) := by omega
        have Hj := Bx.mk hj
        have Hs := Bx.mk hs
        clear hj hs
        by_cases hjl : j < tl
        · obtain ⟨x0, hx0⟩ := at_lt Htl hjl
          obtain ⟨hb0, hb255⟩ := hb.get hx0
          obtain ⟨b, rfl⟩ := Int.eq_ofNat_of_zero_le hb0
          have hi := Hidx.out j _ hx0
          obtain ⟨y, hy⟩ : ∃ y, y = b / 2 ^ s := ⟨_, rfl⟩
          have hyb : y ≤ b := by rw [hy]; exact Nat.div_le_self _ _
          have ey1 : (b : Int) / 2 ^ s = (y : Int) := by rw [hy]; simp
          obtain ⟨Q, hQ, hQ2, hQ3⟩ : ∃ Q, Q = 2 ^ wd ∧ 2 ≤ Q ∧ Q ≤ 256 := ⟨2 ^ wd, rfl, by rcases hWd.out with h | h | h | h <;> rw [h] <;> decide, by rcases hWd.out with h | h | h | h <;> rw [h] <;> decide⟩
          have eQ : IntKind.i64.wrap (2 ^ wd) = (Q : Int) := by rw [show ((2 : Int) ^ wd) = (Q : Int) by rw [hQ]; simp]; exact IntWalk.i64_in _ (by omega)
          obtain ⟨x, hx⟩ : ∃ x, x = y % Q := ⟨_, rfl⟩
          have hxQ : x < Q := by rw [hx]; exact Nat.mod_lt _ (by omega)
          have ex : (y : Int).tmod (Q : Int) = (x : Int) := by rw [hx]; exact IntWalk.rem_in _ _ (by omega)
          have ex' : (y : Int) % (Q : Int) = (x : Int) := by rw [hx]; rfl
          obtain ⟨r, hr⟩ : ∃ r, r = y / Q := ⟨_, rfl⟩
          have er : (y : Int) / 2 ^ wd = (r : Int) := by rw [hr, hQ]; simp
          have hdg : Bx (Pal.dg t wd k = some (x, r)) := Bx.mk (by
            unfold Pal.dg
            rw [if_neg (by omega), ← Hq.out, ← Hj.out, ← Hs.out, hx0, Option.map_some, Int.toNat_natCast, hx, hr, hQ, hy])
          clear hx hr hQ hy hx0
          go_wp2_with fail
          go_quiet (fail)
          have hbb : Below w.heap.size w wr := hb1.trans (hbel.mono hb1.size)
          by_cases hxs : x = seen
          · have hb1' : ((x : Int) == (seen : Int)) = true := beq_iff_eq.2 (by omega)
            have hnx : Bx (Pal.nxt seen x = seen + 1) := Bx.mk (by unfold Pal.nxt; rw [if_pos hxs])
            clear hxs
            cases hwr : Pal.wrong m n k seen x r with
            | true =>
              have hres : Bx (([], 6) = res) := Bx.mk (by have := Hrd.out; rw [show n - k = (n - (k + 1)) + 1 by omega, Pal.rd_wrong hdg.out hwr] at this; exact this)
              have hw2 : seen + 1 ≤ x ∨ m ≤ x ∨ n - 1 - k < m - (seen + 1) ∨ (k = n - 1 ∧ r ≠ 0) := by
                unfold Pal.wrong at hwr
                rw [hnx.out] at hwr
                simpa [or_assoc] using hwr
              clear hwr
              have hw4 : (seen + 1 ≤ x) ∨ (x < seen + 1 ∧ m ≤ x) ∨ (x < seen + 1 ∧ x < m ∧ n < m - (seen + 1) + 1 + k) ∨ (x < seen + 1 ∧ x < m ∧ m - (seen + 1) + 1 + k ≤ n ∧ k = n - 1 ∧ r ≠ 0) := by omega
              clear hw2
              rcases hw4 with hx1 | ⟨hx1, hx2⟩ | ⟨hx1, hx2, hx3⟩ | ⟨hx1, hx2, hx3, hx4, hx5⟩
              · go_wp2
                all_goals
                  go_ret2
                  exact ret_sl_nil (by rw [← hres.out]) (below_drewN hbb _) (by rw [← hres.out])
              · go_wp2
                all_goals
                  go_ret2
                  exact ret_sl_nil (by rw [← hres.out]) (below_drewN hbb _) (by rw [← hres.out])
              · go_wp2
                all_goals
                  go_ret2
                  exact ret_sl_nil (by rw [← hres.out]) (below_drewN hbb _) (by rw [← hres.out])
              · have hb2 : ((k : Int) == (n : Int) - 1) = true := beq_iff_eq.2 (by omega)
                have hb3 : ((r : Int) != 0) = true := by simp [hx5]
                clear hx4 hx5
                go_wp2
                all_goals
                  go_ret2
                  exact ret_sl_nil (by rw [← hres.out]) (below_drewN hbb _) (by rw [← hres.out])
            | false =>
              have hnext := Bx.mk (show Pal.rd t p m n wd (n - (k + 1)) (k + 1) (seen + 1) (acc ++ [p.getD x 0]) = res by
                have := Hrd.out; rw [show n - k = (n - (k + 1)) + 1 by omega, Pal.rd_go hdg.out hwr, hnx.out] at this; exact this)
              have hw2 : x < seen + 1 ∧ x < m ∧ m - (seen + 1) ≤ n - 1 - k ∧ (k = n - 1 → r = 0) := by
                unfold Pal.wrong at hwr
                rw [hnx.out] at hwr
                simp only [Bool.or_eq_false_iff, Bool.and_eq_false_iff, decide_eq_false_iff_not] at hwr
                omega
              clear hwr
              obtain ⟨hx1, hx2, hx3, hx4⟩ := hw2
              have hx3' : m - (seen + 1) + 1 + k ≤ n := by omega
              clear hx3
              obtain ⟨pv, hpv⟩ := at_lt Hm hx2
              obtain ⟨pb, poff, rfl, hpc⟩ := (hp1.below hbel) x pv hpv
              have hpv' := Bx.mk (show p.getD x 0 = pv by simp [hpv])
              clear hpv
              by_cases hkn : k = n - 1
              · have hb2 : ((k : Int) == (n : Int) - 1) = true := beq_iff_eq.2 (by omega)
                have hb3 : ((r : Int) != 0) = false := by simp [hx4 hkn]
                clear hx4 hkn
                go_wp2_with (first | (
                  at_builtin
                  refine wpList_append_int rfl _ _ 22 rfl 3 .i64 (.int .i64 0) 8 (by omega) Try.underlying22 (by kernel_rfl) rfl w1.heap.size _ _ rfl ((hown.drewN nq).alloc _) pv ⟨wr.heap.size, 0, none⟩ 1 rfl (cell_new _ _ _) (by omega) (le_alloc hbel.size _) ?_
                  intro v1 w2 hown3 hg1 _))
                all_goals
                  go_roundw
                  case rel => exact ⟨k + 1, seen + 1, acc ++ [pv], by omega, by go_num, by go_num, by omega, by rw [List.length_append]; simp; omega, hown3, ((below_drewN hbel nq).alloc hbel.size _).grown hg1 (le_alloc hbel.size _) (fun g hg => (hown.lt g hg).1), by rw [← hpv'.out]; exact hnext.out⟩
                  case measure => simp [intOf]; omega
              · have hb2 : ((k : Int) == (n : Int) - 1) = false := beq_eq_false_iff_ne.2 (by omega)
                clear hx4 hkn
                go_wp2_with (first | (
                  at_builtin
                  refine wpList_append_int rfl _ _ 22 rfl 3 .i64 (.int .i64 0) 8 (by omega) Try.underlying22 (by kernel_rfl) rfl w1.heap.size _ _ rfl ((hown.drewN nq).alloc _) pv ⟨wr.heap.size, 0, none⟩ 1 rfl (cell_new _ _ _) (by omega) (le_alloc hbel.size _) ?_
                  intro v1 w2 hown3 hg1 _))
                all_goals
                  go_roundw
                  case rel => exact ⟨k + 1, seen + 1, acc ++ [pv], by omega, by go_num, by go_num, by omega, by rw [List.length_append]; simp; omega, hown3, ((below_drewN hbel nq).alloc hbel.size _).grown hg1 (le_alloc hbel.size _) (fun g hg => (hown.lt g hg).1), by rw [← hpv'.out]; exact hnext.out⟩
                  case measure => simp [intOf]; omega
          · have hb1' : ((x : Int) == (seen : Int)) = false := beq_eq_false_iff_ne.2 (by omega)
            have hnx : Bx (Pal.nxt seen x = seen) := Bx.mk (by unfold Pal.nxt; rw [if_neg hxs])
            clear hxs
            cases hwr : Pal.wrong m n k seen x r with
            | true =>
              have hres : Bx (([], 6) = res) := Bx.mk (by have := Hrd.out; rw [show n - k = (n - (k + 1)) + 1 by omega, Pal.rd_wrong hdg.out hwr] at this; exact this)
              have hw2 : seen ≤ x ∨ m ≤ x ∨ n - 1 - k < m - (seen) ∨ (k = n - 1 ∧ r ≠ 0) := by
                unfold Pal.wrong at hwr
                rw [hnx.out] at hwr
                simpa [or_assoc] using hwr
              clear hwr
              have hw4 : (seen ≤ x) ∨ (x < seen ∧ m ≤ x) ∨ (x < seen ∧ x < m ∧ n < m - (seen) + 1 + k) ∨ (x < seen ∧ x < m ∧ m - (seen) + 1 + k ≤ n ∧ k = n - 1 ∧ r ≠ 0) := by omega
              clear hw2
              rcases hw4 with hx1 | ⟨hx1, hx2⟩ | ⟨hx1, hx2, hx3⟩ | ⟨hx1, hx2, hx3, hx4, hx5⟩
              · go_wp2
                all_goals
                  go_ret2
                  exact ret_sl_nil (by rw [← hres.out]) (below_drewN hbb _) (by rw [← hres.out])
              · go_wp2
                all_goals
                  go_ret2
                  exact ret_sl_nil (by rw [← hres.out]) (below_drewN hbb _) (by rw [← hres.out])
              · go_wp2
                all_goals
                  go_ret2
                  exact ret_sl_nil (by rw [← hres.out]) (below_drewN hbb _) (by rw [← hres.out])
              · have hb2 : ((k : Int) == (n : Int) - 1) = true := beq_iff_eq.2 (by omega)
                have hb3 : ((r : Int) != 0) = true := by simp [hx5]
                clear hx4 hx5
                go_wp2
                all_goals
                  go_ret2
                  exact ret_sl_nil (by rw [← hres.out]) (below_drewN hbb _) (by rw [← hres.out])
            | false =>
              have hnext := Bx.mk (show Pal.rd t p m n wd (n - (k + 1)) (k + 1) (seen) (acc ++ [p.getD x 0]) = res by
                have := Hrd.out; rw [show n - k = (n - (k + 1)) + 1 by omega, Pal.rd_go hdg.out hwr, hnx.out] at this; exact this)
              have hw2 : x < seen ∧ x < m ∧ m - (seen) ≤ n - 1 - k ∧ (k = n - 1 → r = 0) := by
                unfold Pal.wrong at hwr
                rw [hnx.out] at hwr
                simp only [Bool.or_eq_false_iff, Bool.and_eq_false_iff, decide_eq_false_iff_not] at hwr
                omega
              clear hwr
              obtain ⟨hx1, hx2, hx3, hx4⟩ := hw2
              have hx3' : m - (seen) + 1 + k ≤ n := by omega
              clear hx3
              obtain ⟨pv, hpv⟩ := at_lt Hm hx2
              obtain ⟨pb, poff, rfl, hpc⟩ := (hp1.below hbel) x pv hpv
              have hpv' := Bx.mk (show p.getD x 0 = pv by simp [hpv])
              clear hpv
              by_cases hkn : k = n - 1
              · have hb2 : ((k : Int) == (n : Int) - 1) = true := beq_iff_eq.2 (by omega)
                have hb3 : ((r : Int) != 0) = false := by simp [hx4 hkn]
                clear hx4 hkn
                go_wp2_with (first | (
                  at_builtin
                  refine wpList_append_int rfl _ _ 22 rfl 3 .i64 (.int .i64 0) 8 (by omega) Try.underlying22 (by kernel_rfl) rfl w1.heap.size _ _ rfl ((hown.drewN nq).alloc _) pv ⟨wr.heap.size, 0, none⟩ 1 rfl (cell_new _ _ _) (by omega) (le_alloc hbel.size _) ?_
                  intro v1 w2 hown3 hg1 _))
                all_goals
                  go_roundw
                  case rel => exact ⟨k + 1, seen, acc ++ [pv], by omega, by go_num, by go_num, by omega, by rw [List.length_append]; simp; omega, hown3, ((below_drewN hbel nq).alloc hbel.size _).grown hg1 (le_alloc hbel.size _) (fun g hg => (hown.lt g hg).1), by rw [← hpv'.out]; exact hnext.out⟩
                  case measure => simp [intOf]; omega
              · have hb2 : ((k : Int) == (n : Int) - 1) = false := beq_eq_false_iff_ne.2 (by omega)
                clear hx4 hkn
                go_wp2_with (first | (
                  at_builtin
                  refine wpList_append_int rfl _ _ 22 rfl 3 .i64 (.int .i64 0) 8 (by omega) Try.underlying22 (by kernel_rfl) rfl w1.heap.size _ _ rfl ((hown.drewN nq).alloc _) pv ⟨wr.heap.size, 0, none⟩ 1 rfl (cell_new _ _ _) (by omega) (le_alloc hbel.size _) ?_
                  intro v1 w2 hown3 hg1 _))
                all_goals
                  go_roundw
                  case rel => exact ⟨k + 1, seen, acc ++ [pv], by omega, by go_num, by go_num, by omega, by rw [List.length_append]; simp; omega, hown3, ((below_drewN hbel nq).alloc hbel.size _).grown hg1 (le_alloc hbel.size _) (fun g hg => (hown.lt g hg).1), by rw [← hpv'.out]; exact hnext.out⟩
                  case measure => simp [intOf]; omega
        · have hres : Bx (([], 5) = res) := Bx.mk (by
            have := Hrd.out
            rw [show n - k = (n - (k + 1)) + 1 by omega, Pal.rd_short (by
              unfold Pal.dg
              rw [if_neg (by omega), ← Hq.out, ← Hj.out, List.getElem?_eq_none (by rw [Htl.out]; omega)]; rfl)] at this
            exact this)
          have hbb : Below w.heap.size w wr := hb1.trans (hbel.mono hb1.size)
          go_wp2_with fail
          go_ret2
          exact ret_sl_nil (by rw [← hres.out]) hbb (by rw [← hres.out])
      · have hw00 : wd = 0 := by omega
        have hm11 : m = 1 := hwz.out hw00
        have hdg : Bx (Pal.dg t wd k = some (0, 0)) := Bx.mk (by unfold Pal.dg; rw [if_pos hw00])
        have hm1' : m ≤ 1 := by omega
        clear hm11 hw00
        obtain ⟨pv, hpv⟩ := at_lt Hm (show 0 < m by omega)
        obtain ⟨pb, poff, rfl, hpc⟩ := (hp1.below hbel) 0 pv hpv
        rw [Nat.add_zero] at hpc
        have hpv' := Bx.mk (show p.getD 0 0 = pv by simp [hpv])
        clear hpv
        by_cases hxs : 0 = seen
        · have hb1' : ((0 : Int) == (seen : Int)) = true := beq_iff_eq.2 (by omega)
          have hnx : Bx (Pal.nxt seen 0 = seen + 1) := Bx.mk (by unfold Pal.nxt; rw [if_pos hxs])
          have hwr : Pal.wrong m n k seen 0 0 = false := by
            unfold Pal.wrong
            rw [hnx.out]
            simp only [Bool.or_eq_false_iff, Bool.and_eq_false_iff, decide_eq_false_iff_not]
            omega
          have hnext := Bx.mk (show Pal.rd t p m n wd (n - (k + 1)) (k + 1) (seen + 1) (acc ++ [p.getD 0 0]) = res by
            have := Hrd.out; rw [show n - k = (n - (k + 1)) + 1 by omega, Pal.rd_go hdg.out hwr, hnx.out] at this; exact this)
          have hns : 1 ≤ seen + 1 := by omega
          clear hxs hwr
          by_cases hkn : k = n - 1
          · have hb2 : ((k : Int) == (n : Int) - 1) = true := beq_iff_eq.2 (by omega)
            clear hkn
            go_wp2_with (first | (
              at_builtin
              refine wpList_append_int rfl _ _ 22 rfl 3 .i64 (.int .i64 0) 8 (by omega) Try.underlying22 (by kernel_rfl) rfl w1.heap.size _ _ rfl (hown.alloc _) pv ⟨wr.heap.size, 0, none⟩ 1 rfl (cell_new _ _ _) (by omega) (le_alloc hbel.size _) ?_
              intro v1 w2 hown3 hg1 _))
            all_goals
              go_roundw
              case rel => exact ⟨k + 1, seen + 1, acc ++ [pv], by omega, by go_num, by go_num, by omega, by rw [List.length_append]; simp; omega, hown3, (hbel.alloc hbel.size _).grown hg1 (le_alloc hbel.size _) (fun g hg => (hown.lt g hg).1), by rw [← hpv'.out]; exact hnext.out⟩
              case measure => simp [intOf]; omega
          · have hb2 : ((k : Int) == (n : Int) - 1) = false := beq_eq_false_iff_ne.2 (by omega)
            clear hkn
            go_wp2_with (first | (
              at_builtin
              refine wpList_append_int rfl _ _ 22 rfl 3 .i64 (.int .i64 0) 8 (by omega) Try.underlying22 (by kernel_rfl) rfl w1.heap.size _ _ rfl (hown.alloc _) pv ⟨wr.heap.size, 0, none⟩ 1 rfl (cell_new _ _ _) (by omega) (le_alloc hbel.size _) ?_
              intro v1 w2 hown3 hg1 _))
            all_goals
              go_roundw
              case rel => exact ⟨k + 1, seen + 1, acc ++ [pv], by omega, by go_num, by go_num, by omega, by rw [List.length_append]; simp; omega, hown3, (hbel.alloc hbel.size _).grown hg1 (le_alloc hbel.size _) (fun g hg => (hown.lt g hg).1), by rw [← hpv'.out]; exact hnext.out⟩
              case measure => simp [intOf]; omega
        · have hb1' : ((0 : Int) == (seen : Int)) = false := beq_eq_false_iff_ne.2 (by omega)
          have hnx : Bx (Pal.nxt seen 0 = seen) := Bx.mk (by unfold Pal.nxt; rw [if_neg hxs])
          have hwr : Pal.wrong m n k seen 0 0 = false := by
            unfold Pal.wrong
            rw [hnx.out]
            simp only [Bool.or_eq_false_iff, Bool.and_eq_false_iff, decide_eq_false_iff_not]
            omega
          have hnext := Bx.mk (show Pal.rd t p m n wd (n - (k + 1)) (k + 1) (seen) (acc ++ [p.getD 0 0]) = res by
            have := Hrd.out; rw [show n - k = (n - (k + 1)) + 1 by omega, Pal.rd_go hdg.out hwr, hnx.out] at this; exact this)
          have hns : 1 ≤ seen := by omega
          clear hxs hwr
          by_cases hkn : k = n - 1
          · have hb2 : ((k : Int) == (n : Int) - 1) = true := beq_iff_eq.2 (by omega)
            clear hkn
            go_wp2_with (first | (
              at_builtin
              refine wpList_append_int rfl _ _ 22 rfl 3 .i64 (.int .i64 0) 8 (by omega) Try.underlying22 (by kernel_rfl) rfl w1.heap.size _ _ rfl (hown.alloc _) pv ⟨wr.heap.size, 0, none⟩ 1 rfl (cell_new _ _ _) (by omega) (le_alloc hbel.size _) ?_
              intro v1 w2 hown3 hg1 _))
            all_goals
              go_roundw
              case rel => exact ⟨k + 1, seen, acc ++ [pv], by omega, by go_num, by go_num, by omega, by rw [List.length_append]; simp; omega, hown3, (hbel.alloc hbel.size _).grown hg1 (le_alloc hbel.size _) (fun g hg => (hown.lt g hg).1), by rw [← hpv'.out]; exact hnext.out⟩
              case measure => simp [intOf]; omega
          · have hb2 : ((k : Int) == (n : Int) - 1) = false := beq_eq_false_iff_ne.2 (by omega)
            clear hkn
            go_wp2_with (first | (
              at_builtin
              refine wpList_append_int rfl _ _ 22 rfl 3 .i64 (.int .i64 0) 8 (by omega) Try.underlying22 (by kernel_rfl) rfl w1.heap.size _ _ rfl (hown.alloc _) pv ⟨wr.heap.size, 0, none⟩ 1 rfl (cell_new _ _ _) (by omega) (le_alloc hbel.size _) ?_
              intro v1 w2 hown3 hg1 _))
            all_goals
              go_roundw
              case rel => exact ⟨k + 1, seen, acc ++ [pv], by omega, by go_num, by go_num, by omega, by rw [List.length_append]; simp; omega, hown3, (hbel.alloc hbel.size _).grown hg1 (le_alloc hbel.size _) (fun g hg => (hown.lt g hg).1), by rw [← hpv'.out]; exact hnext.out⟩
              case measure => simp [intOf]; omega
    · have hkn : n - k = 0 := by omega
      have hres := Hrd.out
      rw [hkn, Pal.rd_end] at hres
      have Hres := Bx.mk hres
      clear hres hkn
      have hbb : Below w.heap.size w wr := hb1.trans (hbel.mono hb1.size)
      go_wp2
      go_ret2
      rw [← Hres.out]
      exact ret_sl hown hbb rfl
end Go.Proofs.Ytcgieiocbjkdlaa
