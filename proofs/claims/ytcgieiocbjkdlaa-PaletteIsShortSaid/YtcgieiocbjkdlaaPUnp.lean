/- palette.Unpack. -/
import Derived.Test.YtcgieiocbjkdlaaPInd
namespace Go.Proofs.Ytcgieiocbjkdlaa
open Go.RowKit

def RetSl3 (k : IntKind) (r : List Int × Int × Int) (w : World) (e : Ending) (w' : World) : Prop :=
  ∃ a cap, e = .returned (.tuple #[.slice a r.1.length cap, .int .i64 r.2.1, .int .i64 r.2.2]) ∧ Sl w' k a r.1 ∧ Below w.heap.size w w'
theorem ret_sl3_nil {k : IntKind} {res : List Int × Int × Int} {r s : Int} {w w' : World} (hr : res = ([], r, s)) (hb : Below w.heap.size w w') : RetSl3 k res w (.returned (.tuple #[.slice none 0 0, .int .i64 r, .int .i64 s])) w' := by
  subst hr; exact ⟨none, 0, rfl, Sl.nil _ _ _, hb⟩
theorem str_nil {t : List Int} (h : t.length = 0) : strOfNums t = ⟨#[]⟩ := by
  rw [List.eq_nil_of_length_eq_zero h]; rfl
theorem str_isEmpty {t : List Int} (h : t.length ≠ 0) : (strOfNums t).toList.isEmpty = false := by
  rw [ByteArray.toList_eq, strOfNums_data]
  cases t <;> simp_all

theorem dup_stop {l : List Int} {k : Nat} {x : Int} (hx : l[k]? = some x) (h : x ∈ l.take k) : ¬ l.Nodup := by
  intro hn
  obtain ⟨hk, rfl⟩ := List.getElem?_eq_some_iff.1 hx
  obtain ⟨i, hi, he⟩ := List.mem_iff_getElem.1 h
  simp at hi he
  exact List.pairwise_iff_getElem.1 hn i k (by omega) hk (by omega) he
theorem dup_step {l : List Int} {k : Nat} {x : Int} (hx : l[k]? = some x) (hn : (l.take k).Nodup) (h : x ∉ l.take k) : (l.take (k + 1)).Nodup := by
  rw [List.take_add_one, hx]
  simp only [Option.toList_some]
  rw [List.nodup_append]
  refine ⟨hn, by simp, fun a ha b hb e => ?_⟩
  simp at hb; subst hb; subst e; exact h ha

set_option maxRecDepth 100000 in
set_option maxHeartbeats 4000000 in
theorem pal_unpack (t : List Int) (w : World) (hb : Byt t) (ht : t.length ≤ 1000000) :
    Calls Try.prog 13 #[.string (strOfNums t)] w (RetSl3 .i64 (Pal.unp t) w) := by
  by_cases h0 : t.length = 0
  · have hres : Bx (Pal.unp t = ([], 0, 5)) := Bx.mk (by unfold Pal.unp; rw [if_pos h0])
    rw [str_nil h0]
    clear h0
    generalize Pal.unp t = res at *
    go_enter Try.func13, Try.ntmps13
    go_wp2
    go_ret3
    exact ret_sl3_nil hres.out (Below.refl _ _)
  generalize hr : Pal.unp t = res
  unfold Pal.unp at hr
  rw [if_neg h0] at hr
  have hemp := str_isEmpty h0
  have hsz := strOfNums_size t
  have Hidx := Bx.mk (fun (k : Nat) (x : Int) (h : t[k]? = some x) => idx_str (P := Try.prog) 9 Try.underlying9 hb h)
  have Hfrom := Bx.mk (fun (k : Nat) (h : k ≤ t.length) => slice_from (P := Try.prog) 9 Try.underlying9 t k h)
  have Hmid := Bx.mk (fun (i j : Nat) (h : i ≤ j) (h' : j ≤ t.length) => slice_mid (P := Try.prog) 9 Try.underlying9 t i j h h')
  have Hext := Bx.mk (fun (i j : Nat) => str_extract t i j)
  generalize strOfNums t = S at *
  generalize htl : t.length = tl at *
  have Htl := Bx.mk htl
  clear htl
  obtain ⟨x0, hx0⟩ := at_lt Htl (show 0 < tl by omega)
  obtain ⟨hb0, hb255⟩ := hb.get hx0
  obtain ⟨n, rfl⟩ := Int.eq_ofNat_of_zero_le hb0
  have hi0 : ∀ w, (Instr.index 9 (.string S) (.int .i64 0)).run Try.prog w = .ok (.int .u8 (n : Int)) w := Hidx.out 0 _ hx0
  have hg0 : (t.getD 0 0).toNat = n := by simp [hx0]
  rw [hg0] at hr
  clear hb0 hg0
  by_cases hn64 : 64 < n
  · rw [if_pos hn64] at hr
    have Hr := Bx.mk hr; clear hr hx0
    go_enter Try.func13, Try.ntmps13
    go_wp2
    go_ret3
    exact ret_sl3_nil Hr.out.symm (Below.refl _ _)
  rw [if_neg hn64] at hr
  by_cases hn0 : n = 0
  · rw [if_pos hn0] at hr
    have Hr := Bx.mk hr; clear hr hx0
    have hz : ((n : Int) == 0) = true := by simp [hn0]
    clear hn0
    go_enter Try.func13, Try.ntmps13
    go_wp2
    go_ret3
    exact ret_sl3_nil Hr.out.symm (Below.refl _ _)
  rw [if_neg hn0] at hr
  have hz : ((n : Int) == 0) = false := beq_eq_false_iff_ne.2 (by omega)
  by_cases htl2 : tl < 2
  · rw [if_pos htl2] at hr
    have Hr := Bx.mk hr; clear hr hx0
    go_enter Try.func13, Try.ntmps13
    go_wp2
    go_ret3
    exact ret_sl3_nil Hr.out.symm (Below.refl _ _)
  rw [if_neg htl2] at hr
  obtain ⟨x1, hx1⟩ := at_lt Htl (show 1 < tl by omega)
  obtain ⟨hb1, hb1255⟩ := hb.get hx1
  obtain ⟨m, rfl⟩ := Int.eq_ofNat_of_zero_le hb1
  have hi1 : ∀ w, (Instr.index 9 (.string S) (.int .i64 1)).run Try.prog w = .ok (.int .u8 (m : Int)) w := Hidx.out 1 _ hx1
  have hg1 : (t.getD 1 0).toNat = m := by simp [hx1]
  rw [hg1] at hr
  clear hb1 hg1 hx1 hx0 Hidx
  by_cases hmn : m < 1 ∨ n < m
  · rw [if_pos hmn] at hr
    have Hr := Bx.mk hr; clear hr
    rcases Nat.lt_or_ge m 1 with hm1 | hm1
    · clear hmn
      go_enter Try.func13, Try.ntmps13
      go_wp2
      go_ret3
      exact ret_sl3_nil Hr.out.symm (Below.refl _ _)
    · have hmn2 : n < m := by omega
      clear hmn
      go_enter Try.func13, Try.ntmps13
      go_wp2
      go_ret3
      exact ret_sl3_nil Hr.out.symm (Below.refl _ _)
  rw [if_neg hmn] at hr
  have hm1 : 1 ≤ m := by omega
  have hmn1 : m ≤ n := by omega
  clear hmn
  have hd1 : decide (n < m) = false := by simp; omega
  have hd2 : decide ((m : Int) < 1) = false := by simp; omega
  have hd3 : decide ((tl : Int) < 2) = false := by simp; omega
  obtain ⟨T2, hT2⟩ : ∃ T2, T2 = (t.drop 2).take m := ⟨_, rfl⟩
  rw [← hT2] at hr
  have hbT2 : Byt T2 := by rw [hT2]; exact (hb.drop 2).take m
  obtain ⟨cT, WT, hcv, hslT, hbT⟩ := bytes_of_str (P := Try.prog) 9 43 5 Try.underlying9 Try.underlying43 Try.underlying5 hbT2 w
  have hl2 : T2.length = min m (tl - 2) := by rw [hT2, List.length_take, List.length_drop, Htl.out]
  have hbyte := Bx.mk hbT2
  clear hbT2
  by_cases htm : tl < 2 + m
  · rw [if_pos htm] at hr
    have hsl : ∀ w, (Instr.slice 9 (.string S) (some (.int .i64 2)) (some (.int .i64 (tl : Int))) none).run Try.prog w = .ok (.string (strOfNums T2)) w := by
      have := Hmid.out 2 tl (by omega) (Nat.le_refl _)
      rw [show (t.drop 2).take (tl - 2) = T2 by rw [hT2, List.take_of_length_le (by rw [List.length_drop, Htl.out]; omega), List.take_of_length_le (by rw [List.length_drop, Htl.out]; omega)]] at this
      exact this
    have Hr := Bx.mk hr; clear hr
    have HT2 := Bx.mk hT2
    clear hT2 Hmid Hfrom
    generalize strOfNums T2 = S2 at *
    generalize hl2d : T2.length = l2 at *
    have Hl2 := Bx.mk hl2d
    have hl2m : l2 < m := by omega
    clear hl2d hl2
    go_enter Try.func13, Try.ntmps13
    go_wp2
    have HbT := Bx.mk hbT
    clear hcv
    go_loopw [7, 46] (fun v i wr => ∃ k : Nat, k ≤ l2 ∧ i = .int .i64 k ∧ (T2.take k).Nodup ∧ Own wr WT.heap.size 3 .i64 v (T2.take k) ∧ Below WT.heap.size WT wr) (fun _ i _ => l2 - (intOf i).toNat)
    case atStart => exact ⟨0, Nat.zero_le _, rfl, by simp, Own.nil _ _ _ _, Below.refl _ _⟩
    case round =>
      obtain ⟨k, hk, rfl, hnd, hown, hbel⟩ := hrel
      have hbw := HbT.out.trans (hbel.mono HbT.out.size)
      by_cases hlt : k < l2
      · obtain ⟨x, hx⟩ := at_lt Hl2 hlt
        obtain ⟨hx0, hx255⟩ := hbyte.out.get hx
        obtain ⟨b, off, hbo, hcx⟩ := (hslT.below hbel) k x hx
        simp only [Option.some.injEq, Addr.mk.injEq] at hbo
        obtain ⟨rfl, rfl, _⟩ := hbo
        rw [Nat.zero_add] at hcx
        have hpl : (T2.take k).length ≤ k := List.length_take_le _ _
        have hrec := Bx.mk (show T2.take (k + 1) = T2.take k ++ [x] by rw [List.take_add_one, hx]; rfl)
        have hin := Bx.mk (fun h : x ∈ T2.take k => dup_stop hx h)
        have hout := Bx.mk (fun h : x ∉ T2.take k => dup_step hx hnd h)
        clear hx hnd
        generalize T2.take k = p at *
        obtain ⟨pa, pc, rfl, hsl⟩ := hown.form
        by_cases hmem : x ∈ p
        · have hd := Bx.mk (show decide (x ∈ p) = true by simp [hmem])
          have hres := Hr.out
          rw [if_pos (hin.out hmem)] at hres
          have Hres := Bx.mk hres
          clear hmem hres
          go_wp2_with (first
            | (go_at_call 37; refine (slices_contains pa pc p x _ (by omega) hsl).mono ?_; rintro e w' ⟨rfl, rfl⟩; rw [hd.out]))
          go_ret3
          exact ret_sl3_nil Hres.out.symm hbw
        · have hd := Bx.mk (show decide (x ∈ p) = false by simp [hmem])
          have hnd2 := Bx.mk (hout.out hmem)
          clear hmem
          go_wp2_with (first
            | (go_at_call 37; refine (slices_contains pa pc p x _ (by omega) hsl).mono ?_; rintro e w' ⟨rfl, rfl⟩; rw [hd.out])
            | (at_builtin
               refine wpList_append_int rfl _ _ 22 rfl 3 .i64 (.int .i64 0) 8 (by omega) Try.underlying22 (by kernel_rfl) rfl WT.heap.size _ p rfl (hown.alloc _) x ⟨wr.heap.size, 0, none⟩ 1 rfl (cell_new _ _ _) (by omega) (le_alloc hbel.size _) ?_
               intro v1 w1 hown1 hg1 _))
          go_roundw
          case rel => first
            | exact ⟨k+1, by omega, by go_num, hnd2.out, by rw [hrec.out]; exact hown1, (hbel.alloc hbel.size _).grown hg1 (le_alloc hbel.size _) (fun g hg => (hown.lt g hg).1)⟩
            | ((repeat apply Exists.intro); exact ⟨⟨k+1, by omega, by go_num, hnd2.out, by rw [hrec.out]; exact hown1, (hbel.alloc hbel.size _).grown hg1 (le_alloc hbel.size _) (fun g hg => (hown.lt g hg).1)⟩, rfl⟩)
          case measure => simp [intOf]; omega
      · have hkn : k = l2 := by omega
        rw [hkn, ← Hl2.out, List.take_length] at hown hnd
        have hres := Hr.out
        rw [if_neg (fun h => h hnd)] at hres
        have Hres := Bx.mk hres
        clear hkn hnd hres
        obtain ⟨pa, pc, rfl, hsl⟩ := hown.form
        rw [Hl2.out]
        go_wp2_with fail
        go_ret3
        exact ret_sl3_nil Hres.out.symm hbw
  · rw [if_neg htm] at hr
    have hsl : ∀ w, (Instr.slice 9 (.string S) (some (.int .i64 2)) (some (.int .i64 (2 + (m : Int)))) none).run Try.prog w = .ok (.string (strOfNums T2)) w := by
      have := Hmid.out 2 (2 + m) (by omega) (by omega)
      rw [show (t.drop 2).take (2 + m - 2) = T2 by rw [hT2, show 2 + m - 2 = m by omega]] at this
      exact this
    have hext : S.extract 2 (2 + (m : Int)).toNat = strOfNums T2 := by
      rw [show (2 + (m : Int)).toNat = 2 + m by omega, Hext.out, hT2, show 2 + m - 2 = m by omega]
    have Hr := Bx.mk hr; clear hr
    have HT2 := Bx.mk hT2
    clear hT2 Hmid
    generalize strOfNums T2 = S2 at *
    generalize hl2d : T2.length = l2 at *
    have Hl2 := Bx.mk hl2d
    have hl2m : m = l2 := by omega
    clear hl2d hl2
    subst hl2m
    have hext3 : S.extract 2 tl = S2 ∨ 2 + (m : Int) < tl := by
      by_cases h : 2 + m = tl
      · left; rw [← hext]; congr 1; omega
      · right; omega
    rcases hext3 with hext3 | hlt2
    · by_cases hlt2 : 2 + (m : Int) < tl
      · go_enter Try.func13, Try.ntmps13
        go_wp2
        have HbT := Bx.mk hbT
        clear hcv
        go_loopw [7, 46] (fun v i wr => ∃ k : Nat, k ≤ m ∧ i = .int .i64 k ∧ (T2.take k).Nodup ∧ Own wr WT.heap.size 3 .i64 v (T2.take k) ∧ Below WT.heap.size WT wr) (fun _ i _ => m - (intOf i).toNat)
        case atStart => exact ⟨0, Nat.zero_le _, rfl, by simp, Own.nil _ _ _ _, Below.refl _ _⟩
        case round =>
          obtain ⟨k, hk, rfl, hnd, hown, hbel⟩ := hrel
          have hbw := HbT.out.trans (hbel.mono HbT.out.size)
          by_cases hlt : k < m
          · obtain ⟨x, hx⟩ := at_lt Hl2 hlt
            obtain ⟨hx0, hx255⟩ := hbyte.out.get hx
            obtain ⟨b, off, hbo, hcx⟩ := (hslT.below hbel) k x hx
            simp only [Option.some.injEq, Addr.mk.injEq] at hbo
            obtain ⟨rfl, rfl, _⟩ := hbo
            rw [Nat.zero_add] at hcx
            have hpl : (T2.take k).length ≤ k := List.length_take_le _ _
            have hrec := Bx.mk (show T2.take (k + 1) = T2.take k ++ [x] by rw [List.take_add_one, hx]; rfl)
            have hin := Bx.mk (fun h : x ∈ T2.take k => dup_stop hx h)
            have hout := Bx.mk (fun h : x ∉ T2.take k => dup_step hx hnd h)
            clear hx hnd
            generalize T2.take k = p at *
            obtain ⟨pa, pc, rfl, hsl⟩ := hown.form
            by_cases hmem : x ∈ p
            · have hd := Bx.mk (show decide (x ∈ p) = true by simp [hmem])
              have hres := Hr.out
              rw [if_pos (hin.out hmem)] at hres
              have Hres := Bx.mk hres
              clear hmem hres
              go_wp2_with (first
                | (go_at_call 37; refine (slices_contains pa pc p x _ (by omega) hsl).mono ?_; rintro e w' ⟨rfl, rfl⟩; rw [hd.out]))
              go_ret3
              exact ret_sl3_nil Hres.out.symm hbw
            · have hd := Bx.mk (show decide (x ∈ p) = false by simp [hmem])
              have hnd2 := Bx.mk (hout.out hmem)
              clear hmem
              go_wp2_with (first
                | (go_at_call 37; refine (slices_contains pa pc p x _ (by omega) hsl).mono ?_; rintro e w' ⟨rfl, rfl⟩; rw [hd.out])
                | (at_builtin
                   refine wpList_append_int rfl _ _ 22 rfl 3 .i64 (.int .i64 0) 8 (by omega) Try.underlying22 (by kernel_rfl) rfl WT.heap.size _ p rfl (hown.alloc _) x ⟨wr.heap.size, 0, none⟩ 1 rfl (cell_new _ _ _) (by omega) (le_alloc hbel.size _) ?_
                   intro v1 w1 hown1 hg1 _))
              go_roundw
              case rel => first
                | exact ⟨k+1, by omega, by go_num, hnd2.out, by rw [hrec.out]; exact hown1, (hbel.alloc hbel.size _).grown hg1 (le_alloc hbel.size _) (fun g hg => (hown.lt g hg).1)⟩
                | ((repeat apply Exists.intro); exact ⟨⟨k+1, by omega, by go_num, hnd2.out, by rw [hrec.out]; exact hown1, (hbel.alloc hbel.size _).grown hg1 (le_alloc hbel.size _) (fun g hg => (hown.lt g hg).1)⟩, rfl⟩)
              case measure => simp [intOf]; omega
          · have hkn : k = m := by omega
            rw [hkn, ← Hl2.out, List.take_length] at hown hnd
            have hres := Hr.out
            rw [if_neg (fun h => h hnd)] at hres
            have Hres := Bx.mk hres
            clear hkn hnd hres
            obtain ⟨pa, pc, rfl, hsl⟩ := hown.form
            rw [Hl2.out]
            have hind := Bx.mk (fun W h => pal_indices (t.drop (2 + m)) T2 pa pc n W (hb.drop _) (by have := Htl.out; rw [List.length_drop]; omega) h (by rw [Hl2.out]; omega) (by rw [Hl2.out]; omega) (by omega))
            have hfr : ∀ w, (Instr.slice 9 (.string S) (some (.int .i64 (2 + (m : Int)))) none none).run Try.prog w = .ok (.string (strOfNums (t.drop (2 + m)))) w := Hfrom.out (2 + m) (by omega)
            have hext2 : S.extract (2 + (m : Int)).toNat tl = strOfNums (t.drop (2 + m)) := by
              rw [show (2 + (m : Int)).toNat = 2 + m by omega, Hext.out, List.take_of_length_le (by rw [List.length_drop, Htl.out]; omega)]
            have hwref := Bx.mk (fun W => width_pal m W (by omega))
            generalize Pal.inds (t.drop (2 + m)) T2 n = ir at *
            obtain ⟨il, ie⟩ := ir
            have hwq : Pal.width m ≤ 8 := by unfold Pal.width; repeat (split <;> try omega)
            generalize Pal.width m = wd at *
            obtain ⟨q, hq, hq9⟩ : ∃ q, q = n * wd ∧ q ≤ 600 := ⟨n * wd, rfl, by have : n * wd ≤ n * 8 := Nat.mul_le_mul_left _ hwq; omega⟩
            have eq1 : IntKind.i64.wrap ((n : Int) * (wd : Int)) = (q : Int) := by rw [hq, Int.natCast_mul]; exact IntWalk.i64_in _ (by rw [← Int.natCast_mul, ← hq]; omega)
            have Hq := Bx.mk hq
            clear hq
            generalize strOfNums (t.drop (2 + m)) = S3 at *
            rw [Hl2.out] at hind
            by_cases hie : ie = 0
            · have hz1 : (ie != 0) = false := by simp [hie]
              have Hie := Bx.mk hie
              clear hie
              go_wp2_with (first
                | (go_at_call 38; refine (hind.out _ hsl).mono ?_; rintro e w4 ⟨a4, c4, rfl, hsl4, hb4⟩)
                | (go_at_call 30; refine (hwref.out _).mono ?_; rintro e w5 ⟨rfl, hb5⟩))
              go_ret3
              have h3 := Hres.out
              rw [if_neg (by simp [Hie.out])] at h3
              subst h3
              exact ⟨a4, c4, by simp only [← Hq.out]; simp, hsl4.below hb5, (hbw.trans (hb4.mono hbw.size)).trans (hb5.mono (Nat.le_trans hbw.size hb4.size))⟩
            · have hz1 : (ie != 0) = true := by simp [hie]
              have Hie := Bx.mk hie
              clear hie
              go_wp2_with (first
                | (go_at_call 38; refine (hind.out _ hsl).mono ?_; rintro e w4 ⟨a4, c4, rfl, hsl4, hb4⟩))
              go_ret3
              have h3 := Hres.out
              rw [if_pos Hie.out] at h3
              exact ret_sl3_nil h3.symm (hbw.trans (hb4.mono hbw.size))
      · go_enter Try.func13, Try.ntmps13
        go_wp2
        have HbT := Bx.mk hbT
        clear hcv
        go_loopw [7, 46] (fun v i wr => ∃ k : Nat, k ≤ m ∧ i = .int .i64 k ∧ (T2.take k).Nodup ∧ Own wr WT.heap.size 3 .i64 v (T2.take k) ∧ Below WT.heap.size WT wr) (fun _ i _ => m - (intOf i).toNat)
        case atStart => exact ⟨0, Nat.zero_le _, rfl, by simp, Own.nil _ _ _ _, Below.refl _ _⟩
        case round =>
          obtain ⟨k, hk, rfl, hnd, hown, hbel⟩ := hrel
          have hbw := HbT.out.trans (hbel.mono HbT.out.size)
          by_cases hlt : k < m
          · obtain ⟨x, hx⟩ := at_lt Hl2 hlt
            obtain ⟨hx0, hx255⟩ := hbyte.out.get hx
            obtain ⟨b, off, hbo, hcx⟩ := (hslT.below hbel) k x hx
            simp only [Option.some.injEq, Addr.mk.injEq] at hbo
            obtain ⟨rfl, rfl, _⟩ := hbo
            rw [Nat.zero_add] at hcx
            have hpl : (T2.take k).length ≤ k := List.length_take_le _ _
            have hrec := Bx.mk (show T2.take (k + 1) = T2.take k ++ [x] by rw [List.take_add_one, hx]; rfl)
            have hin := Bx.mk (fun h : x ∈ T2.take k => dup_stop hx h)
            have hout := Bx.mk (fun h : x ∉ T2.take k => dup_step hx hnd h)
            clear hx hnd
            generalize T2.take k = p at *
            obtain ⟨pa, pc, rfl, hsl⟩ := hown.form
            by_cases hmem : x ∈ p
            · have hd := Bx.mk (show decide (x ∈ p) = true by simp [hmem])
              have hres := Hr.out
              rw [if_pos (hin.out hmem)] at hres
              have Hres := Bx.mk hres
              clear hmem hres
              go_wp2_with (first
                | (go_at_call 37; refine (slices_contains pa pc p x _ (by omega) hsl).mono ?_; rintro e w' ⟨rfl, rfl⟩; rw [hd.out]))
              go_ret3
              exact ret_sl3_nil Hres.out.symm hbw
            · have hd := Bx.mk (show decide (x ∈ p) = false by simp [hmem])
              have hnd2 := Bx.mk (hout.out hmem)
              clear hmem
              go_wp2_with (first
                | (go_at_call 37; refine (slices_contains pa pc p x _ (by omega) hsl).mono ?_; rintro e w' ⟨rfl, rfl⟩; rw [hd.out])
                | (at_builtin
                   refine wpList_append_int rfl _ _ 22 rfl 3 .i64 (.int .i64 0) 8 (by omega) Try.underlying22 (by kernel_rfl) rfl WT.heap.size _ p rfl (hown.alloc _) x ⟨wr.heap.size, 0, none⟩ 1 rfl (cell_new _ _ _) (by omega) (le_alloc hbel.size _) ?_
                   intro v1 w1 hown1 hg1 _))
              go_roundw
              case rel => first
                | exact ⟨k+1, by omega, by go_num, hnd2.out, by rw [hrec.out]; exact hown1, (hbel.alloc hbel.size _).grown hg1 (le_alloc hbel.size _) (fun g hg => (hown.lt g hg).1)⟩
                | ((repeat apply Exists.intro); exact ⟨⟨k+1, by omega, by go_num, hnd2.out, by rw [hrec.out]; exact hown1, (hbel.alloc hbel.size _).grown hg1 (le_alloc hbel.size _) (fun g hg => (hown.lt g hg).1)⟩, rfl⟩)
              case measure => simp [intOf]; omega
          · have hkn : k = m := by omega
            rw [hkn, ← Hl2.out, List.take_length] at hown hnd
            have hres := Hr.out
            rw [if_neg (fun h => h hnd)] at hres
            have Hres := Bx.mk hres
            clear hkn hnd hres
            obtain ⟨pa, pc, rfl, hsl⟩ := hown.form
            rw [Hl2.out]
            have hind := Bx.mk (fun W h => pal_indices (t.drop (2 + m)) T2 pa pc n W (hb.drop _) (by have := Htl.out; rw [List.length_drop]; omega) h (by rw [Hl2.out]; omega) (by rw [Hl2.out]; omega) (by omega))
            have hfr : ∀ w, (Instr.slice 9 (.string S) (some (.int .i64 (2 + (m : Int)))) none none).run Try.prog w = .ok (.string (strOfNums (t.drop (2 + m)))) w := Hfrom.out (2 + m) (by omega)
            have hext2 : S.extract (2 + (m : Int)).toNat tl = strOfNums (t.drop (2 + m)) := by
              rw [show (2 + (m : Int)).toNat = 2 + m by omega, Hext.out, List.take_of_length_le (by rw [List.length_drop, Htl.out]; omega)]
            have hwref := Bx.mk (fun W => width_pal m W (by omega))
            generalize Pal.inds (t.drop (2 + m)) T2 n = ir at *
            obtain ⟨il, ie⟩ := ir
            have hwq : Pal.width m ≤ 8 := by unfold Pal.width; repeat (split <;> try omega)
            generalize Pal.width m = wd at *
            obtain ⟨q, hq, hq9⟩ : ∃ q, q = n * wd ∧ q ≤ 600 := ⟨n * wd, rfl, by have : n * wd ≤ n * 8 := Nat.mul_le_mul_left _ hwq; omega⟩
            have eq1 : IntKind.i64.wrap ((n : Int) * (wd : Int)) = (q : Int) := by rw [hq, Int.natCast_mul]; exact IntWalk.i64_in _ (by rw [← Int.natCast_mul, ← hq]; omega)
            have Hq := Bx.mk hq
            clear hq
            generalize strOfNums (t.drop (2 + m)) = S3 at *
            rw [Hl2.out] at hind
            by_cases hie : ie = 0
            · have hz1 : (ie != 0) = false := by simp [hie]
              have Hie := Bx.mk hie
              clear hie
              go_wp2_with (first
                | (go_at_call 38; refine (hind.out _ hsl).mono ?_; rintro e w4 ⟨a4, c4, rfl, hsl4, hb4⟩)
                | (go_at_call 30; refine (hwref.out _).mono ?_; rintro e w5 ⟨rfl, hb5⟩))
              go_ret3
              have h3 := Hres.out
              rw [if_neg (by simp [Hie.out])] at h3
              subst h3
              exact ⟨a4, c4, by simp only [← Hq.out]; simp, hsl4.below hb5, (hbw.trans (hb4.mono hbw.size)).trans (hb5.mono (Nat.le_trans hbw.size hb4.size))⟩
            · have hz1 : (ie != 0) = true := by simp [hie]
              have Hie := Bx.mk hie
              clear hie
              go_wp2_with (first
                | (go_at_call 38; refine (hind.out _ hsl).mono ?_; rintro e w4 ⟨a4, c4, rfl, hsl4, hb4⟩))
              go_ret3
              have h3 := Hres.out
              rw [if_pos Hie.out] at h3
              exact ret_sl3_nil h3.symm (hbw.trans (hb4.mono hbw.size))
    · go_enter Try.func13, Try.ntmps13
      go_wp2
      have HbT := Bx.mk hbT
      clear hcv
      go_loopw [7, 46] (fun v i wr => ∃ k : Nat, k ≤ m ∧ i = .int .i64 k ∧ (T2.take k).Nodup ∧ Own wr WT.heap.size 3 .i64 v (T2.take k) ∧ Below WT.heap.size WT wr) (fun _ i _ => m - (intOf i).toNat)
      case atStart => exact ⟨0, Nat.zero_le _, rfl, by simp, Own.nil _ _ _ _, Below.refl _ _⟩
      case round =>
        obtain ⟨k, hk, rfl, hnd, hown, hbel⟩ := hrel
        have hbw := HbT.out.trans (hbel.mono HbT.out.size)
        by_cases hlt : k < m
        · obtain ⟨x, hx⟩ := at_lt Hl2 hlt
          obtain ⟨hx0, hx255⟩ := hbyte.out.get hx
          obtain ⟨b, off, hbo, hcx⟩ := (hslT.below hbel) k x hx
          simp only [Option.some.injEq, Addr.mk.injEq] at hbo
          obtain ⟨rfl, rfl, _⟩ := hbo
          rw [Nat.zero_add] at hcx
          have hpl : (T2.take k).length ≤ k := List.length_take_le _ _
          have hrec := Bx.mk (show T2.take (k + 1) = T2.take k ++ [x] by rw [List.take_add_one, hx]; rfl)
          have hin := Bx.mk (fun h : x ∈ T2.take k => dup_stop hx h)
          have hout := Bx.mk (fun h : x ∉ T2.take k => dup_step hx hnd h)
          clear hx hnd
          generalize T2.take k = p at *
          obtain ⟨pa, pc, rfl, hsl⟩ := hown.form
          by_cases hmem : x ∈ p
          · have hd := Bx.mk (show decide (x ∈ p) = true by simp [hmem])
            have hres := Hr.out
            rw [if_pos (hin.out hmem)] at hres
            have Hres := Bx.mk hres
            clear hmem hres
            go_wp2_with (first
              | (go_at_call 37; refine (slices_contains pa pc p x _ (by omega) hsl).mono ?_; rintro e w' ⟨rfl, rfl⟩; rw [hd.out]))
            go_ret3
            exact ret_sl3_nil Hres.out.symm hbw
          · have hd := Bx.mk (show decide (x ∈ p) = false by simp [hmem])
            have hnd2 := Bx.mk (hout.out hmem)
            clear hmem
            go_wp2_with (first
              | (go_at_call 37; refine (slices_contains pa pc p x _ (by omega) hsl).mono ?_; rintro e w' ⟨rfl, rfl⟩; rw [hd.out])
              | (at_builtin
                 refine wpList_append_int rfl _ _ 22 rfl 3 .i64 (.int .i64 0) 8 (by omega) Try.underlying22 (by kernel_rfl) rfl WT.heap.size _ p rfl (hown.alloc _) x ⟨wr.heap.size, 0, none⟩ 1 rfl (cell_new _ _ _) (by omega) (le_alloc hbel.size _) ?_
                 intro v1 w1 hown1 hg1 _))
            go_roundw
            case rel => first
              | exact ⟨k+1, by omega, by go_num, hnd2.out, by rw [hrec.out]; exact hown1, (hbel.alloc hbel.size _).grown hg1 (le_alloc hbel.size _) (fun g hg => (hown.lt g hg).1)⟩
              | ((repeat apply Exists.intro); exact ⟨⟨k+1, by omega, by go_num, hnd2.out, by rw [hrec.out]; exact hown1, (hbel.alloc hbel.size _).grown hg1 (le_alloc hbel.size _) (fun g hg => (hown.lt g hg).1)⟩, rfl⟩)
            case measure => simp [intOf]; omega
        · have hkn : k = m := by omega
          rw [hkn, ← Hl2.out, List.take_length] at hown hnd
          have hres := Hr.out
          rw [if_neg (fun h => h hnd)] at hres
          have Hres := Bx.mk hres
          clear hkn hnd hres
          obtain ⟨pa, pc, rfl, hsl⟩ := hown.form
          rw [Hl2.out]
          have hind := Bx.mk (fun W h => pal_indices (t.drop (2 + m)) T2 pa pc n W (hb.drop _) (by have := Htl.out; rw [List.length_drop]; omega) h (by rw [Hl2.out]; omega) (by rw [Hl2.out]; omega) (by omega))
          have hfr : ∀ w, (Instr.slice 9 (.string S) (some (.int .i64 (2 + (m : Int)))) none none).run Try.prog w = .ok (.string (strOfNums (t.drop (2 + m)))) w := Hfrom.out (2 + m) (by omega)
          have hext2 : S.extract (2 + (m : Int)).toNat tl = strOfNums (t.drop (2 + m)) := by
            rw [show (2 + (m : Int)).toNat = 2 + m by omega, Hext.out, List.take_of_length_le (by rw [List.length_drop, Htl.out]; omega)]
          have hwref := Bx.mk (fun W => width_pal m W (by omega))
          generalize Pal.inds (t.drop (2 + m)) T2 n = ir at *
          obtain ⟨il, ie⟩ := ir
          have hwq : Pal.width m ≤ 8 := by unfold Pal.width; repeat (split <;> try omega)
          generalize Pal.width m = wd at *
          obtain ⟨q, hq, hq9⟩ : ∃ q, q = n * wd ∧ q ≤ 600 := ⟨n * wd, rfl, by have : n * wd ≤ n * 8 := Nat.mul_le_mul_left _ hwq; omega⟩
          have eq1 : IntKind.i64.wrap ((n : Int) * (wd : Int)) = (q : Int) := by rw [hq, Int.natCast_mul]; exact IntWalk.i64_in _ (by rw [← Int.natCast_mul, ← hq]; omega)
          have Hq := Bx.mk hq
          clear hq
          generalize strOfNums (t.drop (2 + m)) = S3 at *
          rw [Hl2.out] at hind
          by_cases hie : ie = 0
          · have hz1 : (ie != 0) = false := by simp [hie]
            have Hie := Bx.mk hie
            clear hie
            go_wp2_with (first
              | (go_at_call 38; refine (hind.out _ hsl).mono ?_; rintro e w4 ⟨a4, c4, rfl, hsl4, hb4⟩)
              | (go_at_call 30; refine (hwref.out _).mono ?_; rintro e w5 ⟨rfl, hb5⟩))
            go_ret3
            have h3 := Hres.out
            rw [if_neg (by simp [Hie.out])] at h3
            subst h3
            exact ⟨a4, c4, by simp only [← Hq.out]; simp, hsl4.below hb5, (hbw.trans (hb4.mono hbw.size)).trans (hb5.mono (Nat.le_trans hbw.size hb4.size))⟩
          · have hz1 : (ie != 0) = true := by simp [hie]
            have Hie := Bx.mk hie
            clear hie
            go_wp2_with (first
              | (go_at_call 38; refine (hind.out _ hsl).mono ?_; rintro e w4 ⟨a4, c4, rfl, hsl4, hb4⟩))
            go_ret3
            have h3 := Hres.out
            rw [if_pos Hie.out] at h3
            exact ret_sl3_nil h3.symm (hbw.trans (hb4.mono hbw.size))
end Go.Proofs.Ytcgieiocbjkdlaa
