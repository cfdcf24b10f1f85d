/- Patch, of the specification. -/
import Derived.Test.YtcgieiocbjkdlaaPPat
namespace Go.Proofs.Ytcgieiocbjkdlaa
open Go.RowKit

set_option maxRecDepth 100000 in
set_option maxHeartbeats 2000000 in
theorem ref_patch (a : Option Addr) (ca : Nat) (xs t : List Int) (w : World) (hl : xs.length ≤ 1000) (h : Sl w .i64 a xs) (hb : Byt t) (ht : t.length ≤ 1000000) :
    Calls Try.prog 25 #[.slice a xs.length ca, .string (strOfNums t)] w (RetSl .i64 (Pal.pat xs t).1 (Pal.pat xs t).2 w) := by
  have hp : Bx (Pal.pat xs t = if Pal.brick xs = false then ([], 1) else if t.length < 8 then ([], 5) else if (Pal.unp (t.drop 8)).2.2 ≠ 0 then ([], (Pal.unp (t.drop 8)).2.2) else Pal.pfin xs t (Pal.unp (t.drop 8)).1 (Pal.unp (t.drop 8)).2.1) := ⟨rfl⟩
  generalize Pal.pat xs t = res at *
  have hcx := Bx.mk (ref_brick a ca xs w hl h)
  cases hbr : Pal.brick xs with
  | false =>
    have hres := Bx.mk (show res = ([], 1) by rw [hp.out, if_pos hbr])
    rw [hbr] at hcx
    clear hp hbr hb ht h
    generalize strOfNums t = S at *
    generalize xs.length = nx at *
    go_enter Try.func25, Try.ntmps25
    go_wp2_with (first | (go_at_call 39; refine (hcx.out).mono ?_; rintro e w' ⟨rfl, rfl⟩))
    go_ret2
    rw [hres.out]
    exact ret_sl_nil rfl (Below.refl _ _) rfl
  | true =>
    have hx : xs.length = 64 := by unfold Pal.brick at hbr; simp at hbr; exact hbr.1
    rw [hbr] at hcx
    rw [hx] at hcx ⊢
    have hp2 : Bx (res = if t.length < 8 then ([], 5) else if (Pal.unp (t.drop 8)).2.2 ≠ 0 then ([], (Pal.unp (t.drop 8)).2.2) else Pal.pfin xs t (Pal.unp (t.drop 8)).1 (Pal.unp (t.drop 8)).2.1) := ⟨by
      rw [hp.out, if_neg (by simp [hbr])]⟩
    have Hx := Bx.mk hx
    clear hp hx hbr
    have hsz := strOfNums_size t
    have hfr := Bx.mk (fun (h : 8 ≤ t.length) => slice_from (P := Try.prog) 9 Try.underlying9 t 8 h)
    have hex := Bx.mk (fun (h : 8 ≤ t.length) => show (strOfNums t).extract 8 t.length = strOfNums (t.drop 8) by rw [str_extract, List.take_of_length_le (by simp)])
    have Hidx := Bx.mk (fun (k : Nat) (x : Int) (h : t[k]? = some x) => idx_str (P := Try.prog) 9 Try.underlying9 hb h)
    have hun := Bx.mk (fun W => ref_unpack (t.drop 8) W (hb.drop 8) (by simp; omega))
    generalize strOfNums t = S at *
    generalize htl : t.length = tl at *
    have Htl := Bx.mk htl
    clear htl
    by_cases h8 : tl < 8
    · have hres := Bx.mk (show res = ([], 5) by rw [hp2.out, if_pos h8])
      clear hp2 hfr hex Hidx hun
      go_enter Try.func25, Try.ntmps25
      go_wp2_with (first | (go_at_call 39; refine (hcx.out).mono ?_; rintro e w' ⟨rfl, rfl⟩))
      go_ret2
      rw [hres.out]
      exact ret_sl_nil rfl (Below.refl _ _) rfl
    have hfr2 : ∀ w, (Instr.slice 9 (.string S) (some (.int .i64 8)) none none).run Try.prog w = .ok (.string (strOfNums (t.drop 8))) w := hfr.out (by omega)
    have hex2 := hex.out (by omega)
    generalize strOfNums (t.drop 8) = S8 at *
    have hp3 : Bx (res = if (Pal.unp (t.drop 8)).2.2 ≠ 0 then ([], (Pal.unp (t.drop 8)).2.2) else Pal.pfin xs t (Pal.unp (t.drop 8)).1 (Pal.unp (t.drop 8)).2.1) := ⟨by rw [hp2.out, if_neg h8]⟩
    generalize Pal.unp (t.drop 8) = u at *
    obtain ⟨cells, n, e⟩ := u
    clear hp2 hfr hex
    by_cases he : e = 0
    · have hz1 : (e != 0) = false := by simp [he]
      have hp4 : Bx (res = Pal.pfin xs t cells n) := ⟨by rw [hp3.out, if_neg (by simpa using he)]⟩
      clear hp3 he
      by_cases hn : n = (tl : Int) - 8
      rotate_left
      · have hb2 : (n != (tl : Int) - 8) = true := by simp [hn]
        have hres := Bx.mk (show res = ([], 6) by rw [hp4.out, Pal.pfin_n (by rw [Htl.out]; exact hn)])
        clear hn
        go_enter Try.func25, Try.ntmps25
        go_wp2_with (first
          | (go_at_call 39; refine (hcx.out).mono ?_; rintro e w' ⟨rfl, rfl⟩)
          | (go_at_call 14; refine (hun.out _).mono ?_; rintro e w1 ⟨a4, c4, rfl, hsl4, hb1⟩))
        go_ret2
        rw [hres.out]
        exact ret_sl_nil rfl (hb1.alloc hb1.size _) rfl
      have hb2 : (n != (tl : Int) - 8) = false := by simp [hn]
      have Hn := Bx.mk hn
      clear hn
      have hst0 : Bx (Pal.st xs t cells 0 = some (0, [])) := ⟨rfl⟩
      go_enter Try.func25, Try.ntmps25
      go_wp2_with (first
        | (go_at_call 39; refine (hcx.out).mono ?_; rintro e w' ⟨rfl, rfl⟩)
        | (go_at_call 14; refine (hun.out _).mono ?_; rintro e w1 ⟨a4, c4, rfl, hsl4, hb1⟩))
      have hW0 : Below w1.heap.size w1 (w1.alloc (.cells #[.slice a4 cells.length c4, .int .i64 n, .int .i64 e] 30)) := (Below.refl _ _).alloc (Nat.le_refl _) _
      have hcb0 := cells_new w1 #[.slice a4 cells.length c4, .int .i64 n, .int .i64 e] 30 0 _ rfl
      have hcb1 := cells_new w1 #[.slice a4 cells.length c4, .int .i64 n, .int .i64 e] 30 1 _ rfl
      have hsz0 : (w1.alloc (.cells #[.slice a4 cells.length c4, .int .i64 n, .int .i64 e] 30)).heap.size = w1.heap.size + 1 := by simp
      generalize w1.alloc (.cells #[.slice a4 cells.length c4, .int .i64 n, .int .i64 e] 30) = w0 at *
      have Hsz0 := Bx.mk hsz0
      clear hun hcx hfr2 hex2 hsz0
      go_loopw [8, 9, 10] (fun v ks is wr => ∃ (i k : Nat) (out : List Int), i ≤ 64 ∧ is = .int .i64 i ∧ ks = .int .i64 k ∧ k ≤ i ∧ Pal.st xs t cells i = some (k, out) ∧ Own wr w0.heap.size 3 .i64 v out ∧ Below w0.heap.size w0 wr) (fun _ _ is _ => 64 - (intOf is).toNat)
      case atStart => exact ⟨0, 0, [], Nat.zero_le _, rfl, rfl, Nat.le_refl _, hst0.out, Own.nil _ _ _ _, Below.refl _ _⟩
      case round =>
        clear hst0
        obtain ⟨i, k, out, hi, rfl, rfl, hki, hst, hown, hbel⟩ := hrel
        have hol := (Pal.st_length i k out hst).1
        have Hst := Bx.mk hst
        clear hst
        have hb0w : Below w.heap.size w w0 := hb1.trans (hW0.mono hb1.size)
        have hbw : Below w.heap.size w wr := hb0w.trans (hbel.mono hb0w.size)
        have hsl5 := (hsl4.below hW0).below hbel
        have hcb0 := (hbel.cell (p := ⟨w1.heap.size, 0, none⟩) (by have := Hsz0.out; simp; omega)).trans hcb0
        by_cases hlt : i < 64
        · obtain ⟨o, ho⟩ := at_lt Hx hlt
          obtain ⟨b1, off1, rfl, hc1⟩ := h.below hbw i o ho
          have hgo := Bx.mk (show xs.getD i 0 = o by simp [ho])
          clear ho h
          obtain ⟨j, hj1, hj2, hj⟩ : ∃ j, 8 * j ≤ i ∧ i < 8 * j + 8 ∧ j = i / 8 := ⟨i / 8, by omega, by omega, rfl⟩
          obtain ⟨s, hs1, hs⟩ : ∃ s, s < 8 ∧ s = i % 8 := ⟨i % 8, by omega, rfl⟩
          obtain ⟨x0, hx0⟩ := at_lt Htl (show j < tl by omega)
          obtain ⟨hb0, hb255⟩ := hb.get hx0
          obtain ⟨b, rfl⟩ := Int.eq_ofNat_of_zero_le hb0
          have hii := Hidx.out j _ hx0
          have eq1 : (i : Int) / 8 = (j : Int) := by omega
          have eq2 : (i : Int) % 8 = (s : Int) := by omega
          obtain ⟨y, hy⟩ : ∃ y, y = b / 2 ^ s := ⟨_, rfl⟩
          have hyb : y ≤ b := by rw [hy]; exact Nat.div_le_self _ _
          have ey : (b : Int) / 2 ^ s = (y : Int) := by rw [hy]; simp
          have hbit := Bx.mk (show Pal.bit t i = y % 2 by unfold Pal.bit; rw [← hj, ← hs, hy]; simp [hx0])
          have ez := and_one y (by omega)
          clear hj hs hy hx0
          by_cases hz : y % 2 = 0
          · rw [hz] at ez
            have ez' : bits .and .u8 (y : Int) 1 = 0 := ez
            have hst2 := Bx.mk (Pal.st_keep Hst.out (by rw [hbit.out, hz]))
            rw [hgo.out] at hst2
            clear hz ez
            have ez2 : bits .and .u8 (y : Int) 1 = (0 : Int) := ez'
            go_wp2_with (first | (
              at_builtin
              refine wpList_append_int rfl _ _ 22 rfl 3 .i64 (.int .i64 0) 8 (by omega) Try.underlying22 (by kernel_rfl) rfl w0.heap.size _ out rfl (hown.alloc _) o ⟨wr.heap.size, 0, none⟩ 1 rfl (cell_new _ _ _) (by omega) (le_alloc hbel.size _) ?_
              intro v1 w5 hown1 hg1 _))
            go_roundw
            case rel => exact ⟨i + 1, k, out ++ [o], by omega, by go_num, rfl, by omega, hst2.out, hown1, (hbel.alloc hbel.size _).grown hg1 (le_alloc hbel.size _) (fun g hg => (hown.lt g hg).1)⟩
            case measure => simp [intOf]; omega
          · have hz1' : y % 2 = 1 := by omega
            rw [hz1'] at ez
            have ez' : bits .and .u8 (y : Int) 1 = 1 := ez
            have hbn : ¬ Pal.bit t i = 0 := by rw [hbit.out]; omega
            have Hbn := Bx.mk hbn
            clear hz ez hz1' hbn
            by_cases hkc : k < cells.length
            · obtain ⟨c, hc⟩ := at_lt (Bx.mk (rfl : cells.length = cells.length)) hkc
              obtain ⟨b4, o4, rfl, hc4⟩ := hsl5 k c hc
              have hkc' : (k : Int) < (cells.length : Int) := by omega
              have hk0 : (0 : Int) ≤ (k : Int) := by omega
              have hi64 : (i : Int) < 64 := by omega
              have hi0 : (0 : Int) ≤ (i : Int) := by omega
              have hkd : decide ((cells.length : Int) ≤ (k : Int)) = false := by simp; omega
              by_cases hco : c = o
              · have hb3 : (c == o) = true := by simp [hco]
                have hres := Bx.mk (show res = ([], 6) by rw [hp4.out, Pal.pfin_none (Pal.st_none64 (Pal.st_same Hst.out Hbn.out hc (by rw [hgo.out]; exact hco)) hlt)])
                clear hco hc
                go_wp2
                go_ret2
                rw [hres.out]
                exact ret_sl_nil rfl hbw rfl
              · have hb3 : (c == o) = false := by simp [hco]
                have hst2 := Bx.mk (Pal.st_take Hst.out Hbn.out hc (by rw [hgo.out]; exact hco))
                clear hco hc
                go_wp2_with (first | (
                  at_builtin
                  refine wpList_append_int rfl _ _ 22 rfl 3 .i64 (.int .i64 0) 8 (by omega) Try.underlying22 (by kernel_rfl) rfl w0.heap.size _ out rfl (hown.alloc _) c ⟨wr.heap.size, 0, none⟩ 1 rfl (cell_new _ _ _) (by omega) (le_alloc hbel.size _) ?_
                  intro v1 w5 hown1 hg1 _))
                go_roundw
                case rel => exact ⟨i + 1, k + 1, out ++ [c], by omega, by go_num, by go_num, by omega, hst2.out, hown1, (hbel.alloc hbel.size _).grown hg1 (le_alloc hbel.size _) (fun g hg => (hown.lt g hg).1)⟩
                case measure => simp [intOf]; omega
            · have hkd : decide ((cells.length : Int) ≤ (k : Int)) = true := by simp; omega
              have hkc' : (cells.length : Int) ≤ (k : Int) := by omega
              have hres := Bx.mk (show res = ([], 6) by rw [hp4.out, Pal.pfin_none (Pal.st_none64 (Pal.st_short Hst.out Hbn.out (List.getElem?_eq_none (by omega))) hlt)])
              go_wp2
              go_ret2
              rw [hres.out]
              exact ret_sl_nil rfl hbw rfl
        · have hi64 : i = 64 := by omega
          have hst := Hst.out
          rw [hi64] at hst
          clear hi64 hol
          by_cases hk : k = cells.length
          · have hb3 : ((k : Int) != (cells.length : Int)) = false := by simp [hk]
            have hres := Bx.mk (show res = (out, 0) by rw [hp4.out, Pal.pfin_ok (by rw [Htl.out]; exact Hn.out) hst hk])
            clear hk hst
            go_wp2
            go_ret2
            rw [hres.out]
            exact ret_sl hown hbw rfl
          · have hb3 : ((k : Int) != (cells.length : Int)) = true := by simp; omega
            have hres := Bx.mk (show res = ([], 6) by rw [hp4.out, Pal.pfin_k hst hk])
            clear hk hst
            go_wp2
            go_ret2
            rw [hres.out]
            exact ret_sl_nil rfl hbw rfl
    · have hz1 : (e != 0) = true := by simp [he]
      have hres := Bx.mk (show res = ([], e) by rw [hp3.out, if_pos he])
      clear hp3 he
      go_enter Try.func25, Try.ntmps25
      go_wp2_with (first
        | (go_at_call 39; refine (hcx.out).mono ?_; rintro e w' ⟨rfl, rfl⟩)
        | (go_at_call 14; refine (hun.out _).mono ?_; rintro e w1 ⟨a4, c4, rfl, hsl4, hb1⟩))
      go_quiet (fail)
      go_wp2_with fail
      go_ret2
      rw [hres.out]
      exact ret_sl_nil rfl (below_drewN (hb1.alloc hb1.size _) _) rfl
end Go.Proofs.Ytcgieiocbjkdlaa
