/- ref.Unpack. -/
import Derived.Test.YtcgieiocbjkdlaaPUnp
import Derived.Deep.LoopGhost
import Derived.Deep.DeepCutAuto
namespace Go.Proofs.Ytcgieiocbjkdlaa
open Go.RowKit

def RetAgg (k : IntKind) (r : List Int × Int × Int) (w : World) (e : Ending) (w' : World) : Prop :=
  ∃ a cap, e = .returned (.agg #[.slice a r.1.length cap, .int .i64 r.2.1, .int .i64 r.2.2]) ∧ Sl w' k a r.1 ∧ Below w.heap.size w w'
theorem ret_agg_nil {k : IntKind} {res : List Int × Int × Int} {r s : Int} {w w' : World} (hr : res = ([], r, s)) (hb : Below w.heap.size w w') : RetAgg k res w (.returned (.agg #[.slice none 0 0, .int .i64 r, .int .i64 s])) w' := by
  subst hr; exact ⟨none, 0, rfl, Sl.nil _ _ _, hb⟩

set_option maxRecDepth 100000 in
set_option maxHeartbeats 2000000 in
theorem ref_unpack2 (t : List Int) (w : World) (hb : Byt t) (n m tl : Nat) (ht : tl ≤ 1000000) (Htl : Bx (t.length = tl)) (hx0 : t[0]? = some (n : Int)) (hx1 : t[1]? = some (m : Int)) (hm1 : 1 ≤ m) (hmn1 : m ≤ n) (hn64 : n ≤ 64) (htl2 : 2 ≤ tl) (res : List Int × Int × Int)
    (hr : (if ¬ ((t.drop 2).take m).Nodup then ([], 0, 6) else if tl < 2 + m then ([], 0, 5) else if (Pal.inds (t.drop (2 + m)) ((t.drop 2).take m) n).2 ≠ 0 then ([], 0, (Pal.inds (t.drop (2 + m)) ((t.drop 2).take m) n).2)
      else ((Pal.inds (t.drop (2 + m)) ((t.drop 2).take m) n).1, ((2 + m + (n * Pal.width m + 7) / 8 : Nat) : Int), 0)) = res) :
    Calls Try.prog 14 #[.string (strOfNums t)] w (RetAgg .i64 res w) := by
  have hz : ((n : Int) == 0) = false := beq_eq_false_iff_ne.2 (by omega)
  have hemp := str_isEmpty (t := t) (by have := Htl.out; omega)
  have hsz := (strOfNums_size t).trans Htl.out
  have Hidx := Bx.mk (fun (k : Nat) (x : Int) (h : t[k]? = some x) => idx_str (P := Try.prog) 9 Try.underlying9 hb h)
  have Hext := Bx.mk (fun (i j : Nat) => str_extract t i j)
  have hi0 : ∀ w, (Instr.index 9 (.string (strOfNums t)) (.int .i64 0)).run Try.prog w = .ok (.int .u8 (n : Int)) w := Hidx.out 0 _ hx0
  have hi1 : ∀ w, (Instr.index 9 (.string (strOfNums t)) (.int .i64 1)).run Try.prog w = .ok (.int .u8 (m : Int)) w := Hidx.out 1 _ hx1
  have hb255 : (n : Int) ≤ 255 := by omega
  have hb1255 : (m : Int) ≤ 255 := by omega
  clear hx0 hx1
  generalize strOfNums t = S at *
  have hd1 : decide (n < m) = false := by simp; omega
  have hd2 : decide ((m : Int) < 1) = false := by simp; omega
  have hd3 : decide ((tl : Int) < 2) = false := by simp; omega
  obtain ⟨T2, hT2⟩ : ∃ T2, T2 = (t.drop 2).take m := ⟨_, rfl⟩
  rw [← hT2] at hr
  have hl2 : T2.length = min m (tl - 2) := by rw [hT2, List.length_take, List.length_drop, Htl.out]
  have hbyte := Bx.mk (show Byt T2 by rw [hT2]; exact (hb.drop 2).take m)
  have HidT : Bx (∀ (k : Nat) (x : Int), T2[k]? = some x → ∀ w, (Instr.index 9 (.string S) (.int .i64 (2 + (k : Int)))).run Try.prog w = .ok (.int .u8 x) w) := Bx.mk (fun k x h => Hidx.out (2 + k) x (by
    rw [hT2, List.getElem?_take] at h
    split at h
    · rwa [List.getElem?_drop] at h
    · cases h))
  have Hid3 : Bx (∀ (k : Nat) (x : Int), (t.drop (2 + m))[k]? = some x → ∀ w, (Instr.index 9 (.string S) (.int .i64 (2 + (m : Int) + (k : Int)))).run Try.prog w = .ok (.int .u8 x) w) := Bx.mk (fun k x h => Hidx.out (2 + m + k) x (by rwa [List.getElem?_drop] at h))
  generalize hl2d : T2.length = l2 at *
  have Hl2 := Bx.mk hl2d
  have hl2a : l2 ≤ m := by omega
  have hl2b : l2 + 2 ≤ tl := by omega
  have hl2c : l2 < m → l2 + 2 = tl := by omega
  have Hl2c := Bx.mk hl2c
  have Hr := Bx.mk hr
  have HT2 := Bx.mk hT2
  clear hl2d hl2 hl2c hr hT2 Hidx Hext
  have hW0 : Below w.heap.size w (w.alloc (.cells #[.slice none 0 0, .int .i64 0, .int .i64 0] 30)) := (Below.refl _ _).alloc (Nat.le_refl _) _
  have hc0 : ∀ i v, (#[.slice none 0 0, .int .i64 0, .int .i64 0] : Array Value)[i]? = some v → (w.alloc (.cells #[.slice none 0 0, .int .i64 0, .int .i64 0] 30)).cell? ⟨w.heap.size, i, none⟩ = some v := fun i v h => cells_new _ _ _ i v h
  have hf0 : ∀ i, (w.alloc (.cells #[.slice none 0 0, .int .i64 0, .int .i64 0] 30)).frozen? ⟨w.heap.size, i, none⟩ = false := fun i => frozen_new _ _ _ i
  have hsz0 : (w.alloc (.cells #[.slice none 0 0, .int .i64 0, .int .i64 0] 30)).heap.size = w.heap.size + 1 := by simp
  have HC0 := Bx.mk hc0
  have HF0 := Bx.mk hf0
  clear hc0 hf0
  go_enter Try.func14, Try.ntmps14
  go_wp2
  generalize w.alloc (.cells #[.slice none 0 0, .int .i64 0, .int .i64 0] 30) = w0 at *
  have Hsz0 := Bx.mk hsz0
  clear hsz0
  go_loopw [5, 6] (fun v i wr => ∃ k : Nat, k ≤ l2 ∧ i = .int .i64 k ∧ (T2.take k).Nodup ∧ Own wr w0.heap.size 3 .i64 v (T2.take k) ∧ Below w0.heap.size w0 wr) (fun _ i _ => m - (intOf i).toNat)
  case atStart => exact ⟨0, Nat.zero_le _, rfl, by simp, Own.nil _ _ _ _, Below.refl _ _⟩
  case round =>
    obtain ⟨k, hk, rfl, hnd, hown, hbel⟩ := hrel
    have hbw : Below w.heap.size w wr := hW0.trans (hbel.mono hW0.size)
    have hr0 := (hbel.cell (p := ⟨w.heap.size, 0, none⟩) (by have := Hsz0.out; simp; omega)).trans (HC0.out 0 _ rfl)
    have hr1 := (hbel.cell (p := ⟨w.heap.size, 1, none⟩) (by have := Hsz0.out; simp; omega)).trans (HC0.out 1 _ rfl)
    have hr2 := (hbel.cell (p := ⟨w.heap.size, 2, none⟩) (by have := Hsz0.out; simp; omega)).trans (HC0.out 2 _ rfl)
    have hq0 := (hbel.frozen (p := ⟨w.heap.size, 0, none⟩) (by have := Hsz0.out; simp; omega)).trans (HF0.out 0)
    have hq1 := (hbel.frozen (p := ⟨w.heap.size, 1, none⟩) (by have := Hsz0.out; simp; omega)).trans (HF0.out 1)
    have hq2 := (hbel.frozen (p := ⟨w.heap.size, 2, none⟩) (by have := Hsz0.out; simp; omega)).trans (HF0.out 2)
    by_cases hlt : k < l2
    · obtain ⟨x, hx⟩ := at_lt Hl2 hlt
      obtain ⟨hx0, hx255⟩ := hbyte.out.get hx
      have hix := HidT.out k x hx
      have hpl : (T2.take k).length ≤ k := List.length_take_le _ _
      have hrec := Bx.mk (show T2.take (k + 1) = T2.take k ++ [x] by rw [List.take_add_one, hx]; rfl)
      have hin := Bx.mk (fun h : x ∈ T2.take k => dup_stop hx h)
      have hout := Bx.mk (fun h : x ∉ T2.take k => dup_step hx hnd h)
      clear hx hnd
      generalize T2.take k = p at *
      obtain ⟨pa, pc, rfl, hsl⟩ := hown.form
      by_cases hmem : x ∈ p
      · have hd := idx_lt hmem
        have hres := Hr.out
        rw [if_pos (hin.out hmem)] at hres
        have Hres := Bx.mk hres
        clear hmem hres
        go_wp2_with (first
          | (go_at_call 36; refine (ref_index pa pc p x _ (by omega) hsl).mono ?_; rintro e w' ⟨rfl, rfl⟩))
        exact bodyPost_ret (v := .agg #[.slice none 0 0, .int .i64 0, .int .i64 6]) (by simp [results, Try.results14, go_sem, *]) rfl (ret_agg_nil Hres.out.symm ((((hbw).setCell (Nat.le_refl _) _).setCell (Nat.le_refl _) _).setCell (Nat.le_refl _) _))
      · have hd := Bx.mk (idx_not hmem)
        have hnd2 := Bx.mk (hout.out hmem)
        clear hmem
        go_wp2_with (first
          | (go_at_call 36; refine (ref_index pa pc p x _ (by omega) hsl).mono ?_; rintro e w' ⟨rfl, rfl⟩; rw [hd.out])
          | (at_builtin
             refine wpList_append_int rfl _ _ 22 rfl 3 .i64 (.int .i64 0) 8 (by omega) Try.underlying22 (by kernel_rfl) rfl w0.heap.size _ p rfl (hown.alloc _) x ⟨wr.heap.size, 0, none⟩ 1 rfl (cell_new _ _ _) (by omega) (le_alloc hbel.size _) ?_
             intro v1 w1 hown1 hg1 _))
        go_roundw
        case rel => exact ⟨k+1, by omega, by go_num, hnd2.out, by rw [hrec.out]; exact hown1, (hbel.alloc hbel.size _).grown hg1 (le_alloc hbel.size _) (fun g hg => (hown.lt g hg).1)⟩
        case measure => simp [intOf]; omega
    · have hkn : k = l2 := by omega
      rw [hkn, ← Hl2.out, List.take_length] at hown hnd
      have hres := Hr.out
      rw [if_neg (fun h => h hnd)] at hres
      clear hnd
      by_cases htm : tl < 2 + m
      · rw [if_pos htm] at hres
        have Hres := Bx.mk hres
        have hkm : k < m := by omega
        have hktl : (tl : Int) ≤ 2 + (k : Int) := by have := Hl2c.out (by omega); omega
        clear hkn hres
        go_wp2_with fail
        exact bodyPost_ret (v := .agg #[.slice none 0 0, .int .i64 0, .int .i64 5]) (by simp [results, Try.results14, go_sem, *]) rfl (ret_agg_nil Hres.out.symm ((((hbw).setCell (Nat.le_refl _) _).setCell (Nat.le_refl _) _).setCell (Nat.le_refl _) _))
      · rw [if_neg htm] at hres
        have Hres := Bx.mk hres
        have hlm : m = l2 := by have h := Hl2c.out; omega
        have hkm : k = m := by omega
        subst hlm
        clear hkn hres hkm
        obtain ⟨pa, pc, rfl, hp1⟩ := hown.form
        rw [Hl2.out]
        have hwref := Bx.mk (fun W => width_ref m W (by omega))
        generalize hir : Pal.inds (t.drop (2 + m)) T2 n = ir at Hres
        have Hir : Bx (Pal.rd (t.drop (2 + m)) T2 m n (Pal.width m) n 0 0 [] = ir) := Bx.mk (by rw [← hir]; unfold Pal.inds; rw [Hl2.out])
        clear hir
        have hwq : Pal.width m ≤ 8 := by unfold Pal.width; repeat (split <;> try omega)
        have hwz := Bx.mk (show Pal.width m = 0 → m = 1 from fun h => by unfold Pal.width at h; split at h <;> (try split at h) <;> (try split at h) <;> (try split at h) <;> omega)
        have hwd := Bx.mk (show 0 < Pal.width m → Pal.Wd (Pal.width m) from fun h => Pal.width_wd (by unfold Pal.width at h; split at h <;> omega))
        have ht3 : (t.drop (2 + m)).length + 2 + m = tl := by rw [List.length_drop, Htl.out]; omega
        generalize hl3d : (t.drop (2 + m)).length = l3 at *
        have Hl3 := Bx.mk hl3d
        have Hbt3 := Bx.mk (hb.drop (2 + m))
        have hl3a : l3 + 2 + m ≤ tl := by omega
        have hl3b : tl ≤ l3 + 2 + m := by omega
        clear hl3d ht3
        generalize t.drop (2 + m) = t3 at *
        have hq600 := Bx.mk (show ∀ k, k ≤ n → k * Pal.width m ≤ 600 from fun k hk => by have : k * Pal.width m ≤ k * 8 := Nat.mul_le_mul_left _ hwq; omega)
        generalize Pal.width m = wd at *
        obtain ⟨wp, rfl⟩ : ∃ W : World, W = wr := ⟨_, rfl⟩
        go_wp2_with (first | (go_at_call 35; refine (hwref.out _).mono ?_; rintro e w' ⟨rfl, rfl⟩))
        clear hbel hown hwref hi0 hi1 hemp
        go_loopg [9, 10, 11] n (fun g s v i wr => ∃ (k seen : Nat) (acc : List Int), g = n - k ∧ k ≤ n ∧ i = .int .i64 k ∧ s = .int .i64 seen ∧ seen ≤ k ∧ acc.length ≤ k ∧ Own wr wp.heap.size 3 .i64 v acc ∧ Below wp.heap.size wp wr ∧ Pal.rd t3 T2 m n wd (n - k) k seen acc = ir)
        case atStart => exact ⟨0, 0, [], rfl, Nat.zero_le _, rfl, rfl, Nat.le_refl _, Nat.le_refl _, Own.nil _ _ _ _, Below.refl _ _, Hir.out⟩
        case round =>
          clear Hir
          obtain ⟨k, seen, acc, rfl, hk, rfl, rfl, hse, hac, hown, hbel, hrd⟩ := hrel
          have Hrd := Bx.mk hrd
          clear hrd
          have hbw2 : Below w.heap.size w wr := hbw.trans (hbel.mono hbw.size)
          have hlt0 : w.heap.size < wp.heap.size := by have := World.block_lt_of_cell? wp _ hr0; simpa using this
          have hr0 := (hbel.cell (p := ⟨w.heap.size, 0, none⟩) hlt0).trans hr0
          have hr1 := (hbel.cell (p := ⟨w.heap.size, 1, none⟩) hlt0).trans hr1
          have hr2 := (hbel.cell (p := ⟨w.heap.size, 2, none⟩) hlt0).trans hr2
          have hq0 := (hbel.frozen (p := ⟨w.heap.size, 0, none⟩) hlt0).trans hq0
          have hq1 := (hbel.frozen (p := ⟨w.heap.size, 1, none⟩) hlt0).trans hq1
          have hq2 := (hbel.frozen (p := ⟨w.heap.size, 2, none⟩) hlt0).trans hq2
          by_cases hlt : k < n
          · go_upto_if 76 with fail
            go_cut [12] (fun v wc => ∃ x r : Nat, v = .int .i64 x ∧ Pal.dg t3 wd k = some (x, r) ∧ ¬ (k = n - 1 ∧ r ≠ 0) ∧ x ≤ 255 ∧ ∃ nq, wc = wr.drewN nq)
            case first =>
              by_cases hw0 : 0 < wd
              · have hWd := Bx.mk (hwd.out hw0)
                obtain ⟨q, hq, hq9⟩ : ∃ q, q = k * wd ∧ q ≤ 600 := ⟨k * wd, rfl, hq600.out k hk⟩
                have eq1 : IntKind.i64.wrap ((k : Int) * (wd : Int)) = (q : Int) := by rw [hq, Int.natCast_mul]; exact IntWalk.i64_in _ (by rw [← Int.natCast_mul, ← hq]; omega)
                have Hq := Bx.mk hq
                clear hq
                obtain ⟨j, hj1, hj2, hj⟩ : ∃ j, 8 * j ≤ q ∧ q < 8 * j + 8 ∧ j = q / 8 := ⟨q / 8, by omega, by omega, rfl⟩
                obtain ⟨s, hs1, hs⟩ : ∃ s, s < 8 ∧ s = q % 8 := ⟨q % 8, by omega, rfl⟩
                have eq2 : (q : Int) / 8 = (j : Int) := by omega
                have eq3 : (q : Int) % 8 = (s : Int) := by omega
                have eq3' : (q : Int).tmod 8 = (s : Int) := by rw [IntWalk.rem_in _ _ (by omega)]; omega
                have Hj := Bx.mk hj
                have Hs := Bx.mk hs
                clear hj hs
                by_cases hjl : j < l3
                · obtain ⟨x0, hx0⟩ := at_lt Hl3 hjl
                  obtain ⟨hb0, hb255'⟩ := Hbt3.out.get hx0
                  obtain ⟨b, rfl⟩ := Int.eq_ofNat_of_zero_le hb0
                  have hi := Hid3.out j _ hx0
                  have eb : IntKind.i64.wrap (b : Int) = (b : Int) := IntWalk.i64_in _ (by omega)
                  obtain ⟨y, hy⟩ : ∃ y, y = b / 2 ^ s := ⟨_, rfl⟩
                  have hyb : y ≤ b := by rw [hy]; exact Nat.div_le_self _ _
                  have ey1 : (b : Int) / 2 ^ s = (y : Int) := by rw [hy]; simp
                  obtain ⟨Q, hQ, hQ2, hQ3⟩ : ∃ Q, Q = 2 ^ wd ∧ 2 ≤ Q ∧ Q ≤ 256 := ⟨2 ^ wd, rfl, by rcases hWd.out with h | h | h | h <;> rw [h] <;> decide, by rcases hWd.out with h | h | h | h <;> rw [h] <;> decide⟩
                  have eQ : IntKind.i64.wrap (2 ^ wd) = (Q : Int) := by rw [show ((2 : Int) ^ wd) = (Q : Int) by rw [hQ]; simp]; exact IntWalk.i64_in _ (by omega)
                  obtain ⟨x, hx⟩ : ∃ x, x = y % Q := ⟨_, rfl⟩
                  have hxQ : x < Q := by rw [hx]; exact Nat.mod_lt _ (by omega)
                  have hxy : x ≤ y := by rw [hx]; exact Nat.mod_le _ _
                  have ex : (y : Int).tmod (Q : Int) = (x : Int) := by rw [hx]; exact IntWalk.rem_in _ _ (by omega)
                  have ex' : (y : Int) % (Q : Int) = (x : Int) := by rw [hx]; rfl
                  obtain ⟨r, hr⟩ : ∃ r, r = y / Q := ⟨_, rfl⟩
                  have hdg : Bx (Pal.dg t3 wd k = some (x, r)) := Bx.mk (by
                    unfold Pal.dg
                    rw [if_neg (by omega), ← Hq.out, ← Hj.out, ← Hs.out, hx0, Option.map_some, Int.toNat_natCast, hx, hr, hQ, hy])
                  have HrQ := Bx.mk (show r = 0 ↔ y < Q by rw [hr]; exact ⟨fun h => (Nat.div_eq_zero_iff.1 h).resolve_left (by omega), fun h => Nat.div_eq_of_lt h⟩)
                  clear hx hr hQ hy hx0
                  by_cases hkn : k = n - 1
                  · have hb2 : ((k : Int) == (n : Int) - 1) = true := beq_iff_eq.2 (by omega)
                    by_cases hr0 : r = 0
                    · have hyQ : (y : Int) < (Q : Int) := by have := HrQ.out.1 hr0; omega
                      have hyQd : decide ((Q : Int) ≤ (y : Int)) = false := by simp; omega
                      have Hr0 := Bx.mk hr0
                      clear hkn hr0
                      go_wp2_with fail
                      go_quiet (fail)
                      go_wp2_with fail
                      go_quiet (fail)
                      go_wp2
                      go_meet
                      exact ⟨x, r, rfl, hdg.out, fun h => h.2 Hr0.out, by omega, _, World.drewN_drewN _ _ _⟩
                    · have hyQ : (Q : Int) ≤ (y : Int) := by
                        rcases Nat.lt_or_ge y Q with h | h
                        · exact absurd (HrQ.out.2 h) hr0
                        · omega
                      have hyQd : decide ((Q : Int) ≤ (y : Int)) = true := by simp; omega
                      have hres : ir = ([], 6) := by
                        have := Hrd.out
                        rw [show n - k = (n - (k + 1)) + 1 by omega, Pal.rd_wrong hdg.out (by unfold Pal.wrong; simp [hkn, hr0])] at this
                        exact this.symm
                      have Hres2 : Bx ((([], 0, 6) : List Int × Int × Int) = res) := Bx.mk (by have := Hres.out; rw [hres] at this; simpa using this)
                      clear hkn hr0 hres
                      go_wp2_with fail
                      go_quiet (fail)
                      go_wp2_with fail
                      go_quiet (fail)
                      go_wp2
                      exact bodyPost_ret (v := .agg #[.slice none 0 0, .int .i64 0, .int .i64 6]) (by simp [results, Try.results14, go_sem, *]) rfl (ret_agg_nil Hres2.out.symm ((((below_drewN hbw2 _).setCell (Nat.le_refl _) _).setCell (Nat.le_refl _) _).setCell (Nat.le_refl _) _))
                  · have hb2 : ((k : Int) == (n : Int) - 1) = false := beq_eq_false_iff_ne.2 (by omega)
                    have Hkn := Bx.mk hkn
                    clear hkn
                    go_wp2_with fail
                    go_quiet (fail)
                    go_wp2_with fail
                    go_quiet (fail)
                    go_wp2
                    go_meet
                    exact ⟨x, r, rfl, hdg.out, fun h => Hkn.out h.1, by omega, _, World.drewN_drewN _ _ _⟩
                · have hres : ir = ([], 5) := by
                    have := Hrd.out
                    rw [show n - k = (n - (k + 1)) + 1 by omega, Pal.rd_short (by
                      unfold Pal.dg
                      rw [if_neg (by omega), ← Hq.out, ← Hj.out, List.getElem?_eq_none (by rw [Hl3.out]; omega)]; rfl)] at this
                    exact this.symm
                  have Hres2 : Bx ((([], 0, 5) : List Int × Int × Int) = res) := Bx.mk (by have := Hres.out; rw [hres] at this; simpa using this)
                  clear hres
                  go_wp2_with fail
                  exact bodyPost_ret (v := .agg #[.slice none 0 0, .int .i64 0, .int .i64 5]) (by simp [results, Try.results14, go_sem, *]) rfl (ret_agg_nil Hres2.out.symm ((((hbw2).setCell (Nat.le_refl _) _).setCell (Nat.le_refl _) _).setCell (Nat.le_refl _) _))
              · have hw00 : wd = 0 := by omega
                have hdg : Bx (Pal.dg t3 wd k = some (0, 0)) := Bx.mk (by unfold Pal.dg; rw [if_pos hw00])
                clear hw00
                go_wp2_with fail
                go_meet
                exact ⟨0, 0, rfl, hdg.out, fun h => h.2 rfl, by omega, 0, rfl⟩
            case rest =>
              obtain ⟨x, r, rfl, hdg, hne1, hx255, nq, rfl⟩ := hcut
              have Hdg := Bx.mk hdg
              have Hne1 := Bx.mk hne1
              clear hdg hne1
              cases hwr : Pal.wrong m n k seen x r with
              | true =>
                have hres : ir = ([], 6) := by have := Hrd.out; rw [show n - k = (n - (k + 1)) + 1 by omega, Pal.rd_wrong Hdg.out hwr] at this; exact this.symm
                have Hres2 : Bx ((([], 0, 6) : List Int × Int × Int) = res) := Bx.mk (by have := Hres.out; rw [hres] at this; simpa using this)
                have hw4 : seen < x ∨ (x ≤ seen ∧ m ≤ x) ∨ (x = seen ∧ x < m ∧ n < m - (seen + 1) + 1 + k) ∨ (x < seen ∧ x < m ∧ n < m - seen + 1 + k) := by
                  have h1 := Hne1.out
                  unfold Pal.wrong Pal.nxt at hwr
                  by_cases hxs : x = seen
                  · rw [if_pos hxs] at hwr
                    simp at hwr
                    omega
                  · rw [if_neg hxs] at hwr
                    simp at hwr
                    omega
                clear hwr hres
                rcases hw4 with hx1 | ⟨hx1, hx2⟩ | ⟨hx0, hx1, hx2⟩ | ⟨hx0, hx1, hx2⟩
                · go_wp2
                  exact bodyPost_ret (v := .agg #[.slice none 0 0, .int .i64 0, .int .i64 6]) (by simp [results, Try.results14, go_sem, *]) rfl (ret_agg_nil Hres2.out.symm ((((below_drewN hbw2 _).setCell (Nat.le_refl _) _).setCell (Nat.le_refl _) _).setCell (Nat.le_refl _) _))
                · go_wp2
                  exact bodyPost_ret (v := .agg #[.slice none 0 0, .int .i64 0, .int .i64 6]) (by simp [results, Try.results14, go_sem, *]) rfl (ret_agg_nil Hres2.out.symm ((((below_drewN hbw2 _).setCell (Nat.le_refl _) _).setCell (Nat.le_refl _) _).setCell (Nat.le_refl _) _))
                · have hb1' : ((x : Int) == (seen : Int)) = true := beq_iff_eq.2 (by omega)
                  have hx3 : x ≤ seen := by omega
                  clear hx0
                  go_wp2
                  exact bodyPost_ret (v := .agg #[.slice none 0 0, .int .i64 0, .int .i64 6]) (by simp [results, Try.results14, go_sem, *]) rfl (ret_agg_nil Hres2.out.symm ((((below_drewN hbw2 _).setCell (Nat.le_refl _) _).setCell (Nat.le_refl _) _).setCell (Nat.le_refl _) _))
                · have hb1' : ((x : Int) == (seen : Int)) = false := beq_eq_false_iff_ne.2 (by omega)
                  go_wp2
                  exact bodyPost_ret (v := .agg #[.slice none 0 0, .int .i64 0, .int .i64 6]) (by simp [results, Try.results14, go_sem, *]) rfl (ret_agg_nil Hres2.out.symm ((((below_drewN hbw2 _).setCell (Nat.le_refl _) _).setCell (Nat.le_refl _) _).setCell (Nat.le_refl _) _))
              | false =>
                have hnext := Bx.mk (show Pal.rd t3 T2 m n wd (n - (k + 1)) (k + 1) (Pal.nxt seen x) (acc ++ [T2.getD x 0]) = ir by
                  have := Hrd.out; rw [show n - k = (n - (k + 1)) + 1 by omega, Pal.rd_go Hdg.out hwr] at this; exact this)
                have hw4 : x ≤ seen ∧ x < m ∧ (x = seen → m - (seen + 1) + 1 + k ≤ n) ∧ (x ≠ seen → m - seen + 1 + k ≤ n) := by
                  unfold Pal.wrong Pal.nxt at hwr
                  by_cases hxs : x = seen
                  · rw [if_pos hxs] at hwr
                    simp at hwr
                    omega
                  · rw [if_neg hxs] at hwr
                    simp at hwr
                    omega
                clear hwr
                obtain ⟨hx1, hx2, hx3, hx4⟩ := hw4
                obtain ⟨pv, hpv⟩ := at_lt Hl2 hx2
                obtain ⟨pb, poff, rfl, hpc⟩ := (hp1.below hbel) x pv hpv
                have hpv' := Bx.mk (show T2.getD x 0 = pv by simp [hpv])
                clear hpv
                by_cases hxs : x = seen
                · have hb1' : ((x : Int) == (seen : Int)) = true := beq_iff_eq.2 (by omega)
                  have hnx := Bx.mk (show Pal.nxt seen x = seen + 1 by unfold Pal.nxt; rw [if_pos hxs])
                  have hx5 := hx3 hxs
                  clear hxs hx3 hx4
                  go_wp2_with (first | (
                    at_builtin
                    refine wpList_append_int rfl _ _ 22 rfl 3 .i64 (.int .i64 0) 8 (by omega) Try.underlying22 (by kernel_rfl) rfl wp.heap.size _ _ rfl ((hown.drewN nq).alloc _) pv ⟨wr.heap.size, 0, none⟩ 1 rfl (cell_new _ _ _) (by omega) (le_alloc hbel.size _) ?_
                    intro v1 w2 hown3 hg1 _))
                  go_roundg (n - (k + 1))
                  case measure => omega
                  case rel => exact ⟨k + 1, seen + 1, acc ++ [pv], rfl, by omega, by go_num, by go_num, by omega, by rw [List.length_append]; simp; omega, hown3, ((below_drewN hbel nq).alloc hbel.size _).grown hg1 (le_alloc hbel.size _) (fun g hg => (hown.lt g hg).1), by rw [← hpv'.out, ← hnx.out]; exact hnext.out⟩
                · have hb1' : ((x : Int) == (seen : Int)) = false := beq_eq_false_iff_ne.2 (by omega)
                  have hnx := Bx.mk (show Pal.nxt seen x = seen by unfold Pal.nxt; rw [if_neg hxs])
                  have hx5 := hx4 hxs
                  clear hxs hx3 hx4
                  go_wp2_with (first | (
                    at_builtin
                    refine wpList_append_int rfl _ _ 22 rfl 3 .i64 (.int .i64 0) 8 (by omega) Try.underlying22 (by kernel_rfl) rfl wp.heap.size _ _ rfl ((hown.drewN nq).alloc _) pv ⟨wr.heap.size, 0, none⟩ 1 rfl (cell_new _ _ _) (by omega) (le_alloc hbel.size _) ?_
                    intro v1 w2 hown3 hg1 _))
                  go_roundg (n - (k + 1))
                  case measure => omega
                  case rel => exact ⟨k + 1, seen, acc ++ [pv], rfl, by omega, by go_num, by go_num, by omega, by rw [List.length_append]; simp; omega, hown3, ((below_drewN hbel nq).alloc hbel.size _).grown hg1 (le_alloc hbel.size _) (fun g hg => (hown.lt g hg).1), by rw [← hpv'.out, ← hnx.out]; exact hnext.out⟩
          · have hkn : n - k = 0 := by omega
            have hres := Hrd.out
            rw [hkn, Pal.rd_end] at hres
            obtain ⟨q, hq, hq9⟩ : ∃ q, q = n * wd ∧ q ≤ 600 := ⟨n * wd, rfl, hq600.out n (Nat.le_refl _)⟩
            have eq1 : IntKind.i64.wrap ((n : Int) * (wd : Int)) = (q : Int) := by rw [hq, Int.natCast_mul]; exact IntWalk.i64_in _ (by rw [← Int.natCast_mul, ← hq]; omega)
            have Hres2 : Bx (((acc, 2 + (m : Int) + ((q : Int) + 7) / 8, 0) : List Int × Int × Int) = res) := Bx.mk (by have := Hres.out; rw [← hres, ← hq] at this; simpa using this)
            clear hkn hres hq
            obtain ⟨aa, ac, rfl, hsa⟩ := hown.form
            go_wp2
            refine bodyPost_ret (v := .agg #[.slice aa acc.length ac, .int .i64 (2 + (m : Int) + ((q : Int) + 7) / 8), .int .i64 0]) (by simp [results, Try.results14, go_sem, *]) rfl ?_
            rw [← Hres2.out]
            refine ⟨aa, ac, rfl, ?_, (((hbw2).setCell (Nat.le_refl _) _).setCell (Nat.le_refl _) _).setCell (Nat.le_refl _) _⟩
            exact (((hown.setBelow hlt0 _).setBelow hlt0 _).setBelow hlt0 _).sl

set_option maxRecDepth 100000 in
set_option maxHeartbeats 8000000 in
theorem ref_unpack (t : List Int) (w : World) (hb : Byt t) (ht : t.length ≤ 1000000) :
    Calls Try.prog 14 #[.string (strOfNums t)] w (RetAgg .i64 (Pal.unp t) w) := by
  by_cases h0 : t.length = 0
  · have hres : Bx (Pal.unp t = ([], 0, 5)) := Bx.mk (by unfold Pal.unp; rw [if_pos h0])
    rw [str_nil h0]
    clear h0
    generalize Pal.unp t = res at *
    go_enter Try.func14, Try.ntmps14
    go_wp2
    exact bodyPost_ret (v := .agg #[.slice none 0 0, .int .i64 0, .int .i64 5]) (by simp [results, Try.results14, go_sem]) rfl (ret_agg_nil hres.out ((Below.refl _ _).alloc (Nat.le_refl _) _))
  generalize hr : Pal.unp t = res
  unfold Pal.unp at hr
  rw [if_neg h0] at hr
  have hemp := str_isEmpty h0
  have hsz := strOfNums_size t
  have Hidx := Bx.mk (fun (k : Nat) (x : Int) (h : t[k]? = some x) => idx_str (P := Try.prog) 9 Try.underlying9 hb h)
  have Hfrom := Bx.mk (fun (k : Nat) (h : k ≤ t.length) => slice_from (P := Try.prog) 9 Try.underlying9 t k h)
  have Hmid := Bx.mk (fun (i j : Nat) (h : i ≤ j) (h' : j ≤ t.length) => slice_mid (P := Try.prog) 9 Try.underlying9 t i j h h')
  have Hext := Bx.mk (fun (i j : Nat) => str_extract t i j)
  generalize hS : strOfNums t = S at *
  have HS := Bx.mk hS
  clear hS
  generalize htl : t.length = tl at *
  have Htl := Bx.mk htl
  clear htl
  obtain ⟨x0, hx0⟩ := at_lt Htl (show 0 < tl by omega)
  obtain ⟨hb0, hb255⟩ := hb.get hx0
  obtain ⟨n, rfl⟩ := Int.eq_ofNat_of_zero_le hb0
  have hi0 : ∀ w, (Instr.index 9 (.string S) (.int .i64 0)).run Try.prog w = .ok (.int .u8 (n : Int)) w := Hidx.out 0 _ hx0
  have hg0 : (t.getD 0 0).toNat = n := by simp [hx0]
  rw [hg0] at hr
  clear hb0 hg0
  by_cases hn64 : 64 < n
  · rw [if_pos hn64] at hr
    have Hr := Bx.mk hr; clear hr hx0
    go_enter Try.func14, Try.ntmps14
    go_wp2
    exact bodyPost_ret (v := .agg #[.slice none 0 0, .int .i64 0, .int .i64 6]) (by simp [results, Try.results14, go_sem]) rfl (ret_agg_nil Hr.out.symm ((Below.refl _ _).alloc (Nat.le_refl _) _))
  rw [if_neg hn64] at hr
  by_cases hn0 : n = 0
  · rw [if_pos hn0] at hr
    have Hr := Bx.mk hr; clear hr hx0
    have hz : ((n : Int) == 0) = true := by simp [hn0]
    clear hn0
    go_enter Try.func14, Try.ntmps14
    go_wp2
    exact bodyPost_ret (v := .agg #[.slice none 0 0, .int .i64 1, .int .i64 0]) (by simp [results, Try.results14, go_sem]) rfl (ret_agg_nil Hr.out.symm ((Below.refl _ _).alloc (Nat.le_refl _) _))
  rw [if_neg hn0] at hr
  have hz : ((n : Int) == 0) = false := beq_eq_false_iff_ne.2 (by omega)
  by_cases htl2 : tl < 2
  · rw [if_pos htl2] at hr
    have Hr := Bx.mk hr; clear hr hx0
    go_enter Try.func14, Try.ntmps14
    go_wp2
    exact bodyPost_ret (v := .agg #[.slice none 0 0, .int .i64 0, .int .i64 5]) (by simp [results, Try.results14, go_sem]) rfl (ret_agg_nil Hr.out.symm ((Below.refl _ _).alloc (Nat.le_refl _) _))
  rw [if_neg htl2] at hr
  obtain ⟨x1, hx1⟩ := at_lt Htl (show 1 < tl by omega)
  obtain ⟨hb1, hb1255⟩ := hb.get hx1
  obtain ⟨m, rfl⟩ := Int.eq_ofNat_of_zero_le hb1
  have hi1 : ∀ w, (Instr.index 9 (.string S) (.int .i64 1)).run Try.prog w = .ok (.int .u8 (m : Int)) w := Hidx.out 1 _ hx1
  have hg1 : (t.getD 1 0).toNat = m := by simp [hx1]
  rw [hg1] at hr
  clear hb1 hg1
  by_cases hmn : m < 1 ∨ n < m
  · rw [if_pos hmn] at hr
    have Hr := Bx.mk hr; clear hr
    rcases Nat.lt_or_ge m 1 with hm1 | hm1
    · clear hmn
      go_enter Try.func14, Try.ntmps14
      go_wp2
      exact bodyPost_ret (v := .agg #[.slice none 0 0, .int .i64 0, .int .i64 6]) (by simp [results, Try.results14, go_sem]) rfl (ret_agg_nil Hr.out.symm ((Below.refl _ _).alloc (Nat.le_refl _) _))
    · have hmn2 : n < m := by omega
      clear hmn
      go_enter Try.func14, Try.ntmps14
      go_wp2
      exact bodyPost_ret (v := .agg #[.slice none 0 0, .int .i64 0, .int .i64 6]) (by simp [results, Try.results14, go_sem]) rfl (ret_agg_nil Hr.out.symm ((Below.refl _ _).alloc (Nat.le_refl _) _))
  rw [if_neg hmn] at hr
  rw [← HS.out]
  exact ref_unpack2 t w hb n m tl ht Htl hx0 hx1 (by omega) (by omega) (by omega) (by omega) res hr
end Go.Proofs.Ytcgieiocbjkdlaa
