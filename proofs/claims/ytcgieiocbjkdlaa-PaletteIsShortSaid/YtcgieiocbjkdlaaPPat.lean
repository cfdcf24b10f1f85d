/- Patch, of the program. -/
import Derived.Test.YtcgieiocbjkdlaaRDel
import Derived.Lib.SliceRun
namespace Go.Proofs.Ytcgieiocbjkdlaa
open Go.RowKit

set_option maxHeartbeats 1000000 in
theorem slices_clone (a : Option Addr) (cap : Nat) (xs : List Int) (w : World) (hl : xs.length ≤ 1000000) (h : Sl w .i64 a xs) :
    Calls Try.prog 40 #[.slice a xs.length cap] w fun e w' => ∃ v, e = .returned v ∧ Own w' w.heap.size 3 .i64 v xs ∧ Below w.heap.size w w' := by
  have heq := fun (W : World) => Lib.run_eql_slice_nil (P := Try.prog) W 22 3 a xs.length cap 0 0 Try.underlying22
  generalize hn : xs.length = n at *
  have Hn := Bx.mk hn
  cases a with
  | none =>
    have hnil : xs = [] := by
      cases xs with
      | nil => rfl
      | cons x l => obtain ⟨b, off, h0, _⟩ := h 0 x rfl; cases h0
    have Hnil := Bx.mk hnil
    clear hnil hn h
    go_enter Try.func40, Try.ntmps40
    go_wp2
    go_ret
    exact ⟨_, rfl, by rw [Hnil.out]; exact Own.nil _ _ _ _, Below.refl _ _⟩
  | some ad =>
    clear hn
    have h0 : Own (w.alloc (.cells #[] 3)) w.heap.size 3 .i64 (.slice (some ⟨w.heap.size, 0, none⟩) 0 0) [] := Own.lit w _ _ _ #[] [] 0 (Nat.le_refl _) (by simp [maxLen]) rfl rfl
    have h1 := h.below ((Below.refl w.heap.size w).alloc (Nat.le_refl _) (.cells #[] 3))
    go_enter Try.func40, Try.ntmps40
    go_wp2_with (first
      | (at_builtin
         refine wpList_append_ints rfl _ _ 22 rfl 3 .i64 (.int .i64 0) 8 (by omega) Try.underlying22 (by kernel_rfl) rfl w.heap.size _ [] rfl h0 xs _ _ cap rfl Hn.out.symm h1 (by have := Hn.out; simp; omega) (le_alloc (Nat.le_refl _) _) ?_
         intro v5 w5 hown5 hg5 _))
    go_ret
    exact ⟨_, rfl, by simpa using hown5, ((Below.refl _ _).alloc (Nat.le_refl _) _).grown hg5 (le_alloc (Nat.le_refl _) _) (fun g hg => (h0.lt g hg).1)⟩

theorem and_one (y : Nat) (h : y < 256) : bits .and .u8 (y : Int) 1 = ((y % 2 : Nat) : Int) := by
  have := u8_and_nat y 1 h (by omega)
  rw [Nat.and_one_is_mod] at this; exact this

theorem drop_at {xs : List Int} {i : Nat} {x : Int} (hx : xs[i]? = some x) : xs.drop i = x :: xs.drop (i + 1) := by
  obtain ⟨hl, rfl⟩ := List.getElem?_eq_some_iff.1 hx
  exact List.drop_eq_getElem_cons hl

set_option maxRecDepth 100000 in
set_option maxHeartbeats 2000000 in
theorem pal_patch (a : Option Addr) (ca : Nat) (xs t : List Int) (w : World) (hl : xs.length ≤ 1000) (h : Sl w .i64 a xs) (hb : Byt t) (ht : t.length ≤ 1000000) :
    Calls Try.prog 24 #[.slice a xs.length ca, .string (strOfNums t)] w (RetSl .i64 (Pal.pat xs t).1 (Pal.pat xs t).2 w) := by
  have hp : Bx (Pal.pat xs t = if Pal.brick xs = false then ([], 1) else if t.length < 8 then ([], 5) else if (Pal.unp (t.drop 8)).2.2 ≠ 0 then ([], (Pal.unp (t.drop 8)).2.2) else Pal.pfin xs t (Pal.unp (t.drop 8)).1 (Pal.unp (t.drop 8)).2.1) := ⟨rfl⟩
  generalize Pal.pat xs t = res at *
  by_cases hx : xs.length = 64
  · have hcx := Bx.mk (valid_pal a ca xs w (by omega) h)
    rw [hx] at hcx ⊢
    cases hvx : xs.all Pal.cell with
    | false =>
      have hres := Bx.mk (show res = ([], 1) by rw [hp.out, if_pos (by simp [Pal.brick, hvx])])
      rw [hvx] at hcx
      clear hp hx hvx hb ht
      generalize strOfNums t = S at *
      go_enter Try.func24, Try.ntmps24
      go_wp2_with (first | (go_at_call 27; refine (hcx.out).mono ?_; rintro e w' ⟨rfl, rfl⟩))
      go_ret2
      rw [hres.out]
      exact ret_sl_nil rfl (Below.refl _ _) rfl
    | true =>
      rw [hvx] at hcx
      have hp2 : Bx (res = if t.length < 8 then ([], 5) else if (Pal.unp (t.drop 8)).2.2 ≠ 0 then ([], (Pal.unp (t.drop 8)).2.2) else Pal.pfin xs t (Pal.unp (t.drop 8)).1 (Pal.unp (t.drop 8)).2.1) := ⟨by
        rw [hp.out, if_neg (by simp [Pal.brick, hvx, hx])]⟩
      have Hx := Bx.mk hx
      clear hp hx hvx
      have hsz := strOfNums_size t
      have hfr := Bx.mk (fun (h : 8 ≤ t.length) => slice_from (P := Try.prog) 9 Try.underlying9 t 8 h)
      have hex := Bx.mk (fun (h : 8 ≤ t.length) => show (strOfNums t).extract 8 t.length = strOfNums (t.drop 8) by rw [str_extract, List.take_of_length_le (by simp)])
      have Hidx := Bx.mk (fun (k : Nat) (x : Int) (h : t[k]? = some x) => idx_str (P := Try.prog) 9 Try.underlying9 hb h)
      have hun := Bx.mk (fun W => pal_unpack (t.drop 8) W (hb.drop 8) (by simp; omega))
      generalize strOfNums t = S at *
      generalize htl : t.length = tl at *
      have Htl := Bx.mk htl
      clear htl
      by_cases h8 : tl < 8
      · have hres := Bx.mk (show res = ([], 5) by rw [hp2.out, if_pos h8])
        clear hp2 hfr hex Hidx hun
        go_enter Try.func24, Try.ntmps24
        go_wp2_with (first | (go_at_call 27; refine (hcx.out).mono ?_; rintro e w' ⟨rfl, rfl⟩))
        go_ret2
        rw [hres.out]
        exact ret_sl_nil rfl (Below.refl _ _) rfl
      have hfr2 : ∀ w, (Instr.slice 9 (.string S) (some (.int .i64 8)) none none).run Try.prog w = .ok (.string (strOfNums (t.drop 8))) w := hfr.out (by omega)
      have hex2 := hex.out (by omega)
      generalize strOfNums (t.drop 8) = S8 at *
      have hp3 : Bx (res = if (Pal.unp (t.drop 8)).2.2 ≠ 0 then ([], (Pal.unp (t.drop 8)).2.2) else Pal.pfin xs t (Pal.unp (t.drop 8)).1 (Pal.unp (t.drop 8)).2.1) := ⟨by rw [hp2.out, if_neg h8]⟩
      generalize Pal.unp (t.drop 8) = u at *
      obtain ⟨cells, n, e⟩ := u
      clear hp2 hfr hex
      by_cases he : e = 0
      · have hz1 : (e != 0) = false := by simp [he]
        have hp4 : Bx (res = Pal.pfin xs t cells n) := ⟨by rw [hp3.out, if_neg (by simpa using he)]⟩
        clear hp3 he
        have hcl := Bx.mk (fun W hW => slices_clone a ca xs W (by omega) hW)
        rw [Hx.out] at hcl
        have hst0 : Bx (Pal.st xs t cells 0 = some (0, [])) := ⟨rfl⟩
        have hcll : Bx (xs.drop 0 = xs) := ⟨rfl⟩
        go_enter Try.func24, Try.ntmps24
        go_wp2_with (first
          | (go_at_call 27; refine (hcx.out).mono ?_; rintro e w' ⟨rfl, rfl⟩)
          | (go_at_call 13; refine (hun.out _).mono ?_; rintro e w1 ⟨a4, c4, rfl, hsl4, hb1⟩)
          | (go_at_call 40; refine (hcl.out _ (h.below hb1)).mono ?_; rintro e w2 ⟨v, rfl, hown, hb2⟩; obtain ⟨g, cg, rfl, hgB, hglt, _⟩ := hown.at (by have := Hx.out; omega); rw [Hx.out] at hown ⊢))
        clear hun hcx hcl hfr2 hex2
        go_loopw [10, 37] (fun ks is wr => ∃ (i k : Nat) (out : List Int), i ≤ 64 ∧ is = .int .i64 i ∧ ks = .int .i64 k ∧ k ≤ i ∧ Pal.st xs t cells i = some (k, out) ∧ Own wr w1.heap.size 3 .i64 (.slice (some ⟨g, 0, none⟩) 64 cg) (out ++ xs.drop i) ∧ Below w1.heap.size w1 wr) (fun _ is _ => 64 - (intOf is).toNat)
        case atStart => exact ⟨0, 0, [], Nat.zero_le _, rfl, rfl, Nat.le_refl _, hst0.out, by rw [hcll.out]; exact hown, hb2⟩
        case round =>
          clear hown hst0 hcll hb2 hglt
          obtain ⟨i, k, out, hi, rfl, rfl, hki, hst, hown, hbel⟩ := hrel
          have hol := (Pal.st_length i k out hst).1
          have Hst := Bx.mk hst
          clear hst
          have hbw : Below w.heap.size w wr := hb1.trans (hbel.mono hb1.size)
          have hsl5 := hsl4.below hbel
          by_cases hlt : i < 64
          · obtain ⟨o, ho⟩ := at_lt Hx hlt
            obtain ⟨b1, off1, rfl, hc1⟩ := h.below hbw i o ho
            have hlist := Bx.mk (show out ++ xs.drop i = (out ++ [o]) ++ xs.drop (i + 1) by rw [drop_at ho]; simp)
            have hset := Bx.mk (fun c : Int => show (out ++ xs.drop i).set i c = (out ++ [c]) ++ xs.drop (i + 1) by
              rw [drop_at ho, ← hol, List.set_append_right _ _ (Nat.le_refl _), Nat.sub_self]; simp)
            have hgo := Bx.mk (show xs.getD i 0 = o by simp [ho])
            clear ho h
            obtain ⟨j, hj1, hj2, hj⟩ : ∃ j, 8 * j ≤ i ∧ i < 8 * j + 8 ∧ j = i / 8 := ⟨i / 8, by omega, by omega, rfl⟩
            obtain ⟨s, hs1, hs⟩ : ∃ s, s < 8 ∧ s = i % 8 := ⟨i % 8, by omega, rfl⟩
            obtain ⟨x0, hx0⟩ := at_lt Htl (show j < tl by omega)
            obtain ⟨hb0, hb255⟩ := hb.get hx0
            obtain ⟨b, rfl⟩ := Int.eq_ofNat_of_zero_le hb0
            have hii := Hidx.out j _ hx0
            have eq1 : (i : Int) / 8 = (j : Int) := by omega
            have eq2 : (i : Int) % 8 = (s : Int) := by omega
            obtain ⟨y, hy⟩ : ∃ y, y = b / 2 ^ s := ⟨_, rfl⟩
            have hyb : y ≤ b := by rw [hy]; exact Nat.div_le_self _ _
            have ey : (b : Int) / 2 ^ s = (y : Int) := by rw [hy]; simp
            have hbit := Bx.mk (show Pal.bit t i = y % 2 by unfold Pal.bit; rw [← hj, ← hs, hy]; simp [hx0])
            have ez := and_one y (by omega)
            clear hj hs hy hx0
            by_cases hz : y % 2 = 0
            · rw [hz] at ez
              have ez' : bits .and .u8 (y : Int) 1 = 0 := ez
              have hst2 := Bx.mk (Pal.st_keep Hst.out (by rw [hbit.out, hz]))
              rw [hgo.out] at hst2
              clear hz ez hol
              go_wp2
              go_roundw
              case rel => exact ⟨i + 1, k, out ++ [o], by omega, by go_num, rfl, by omega, hst2.out, by rw [← hlist.out]; exact hown, hbel⟩
              case measure => simp [intOf]; omega
            · have hz1' : y % 2 = 1 := by omega
              rw [hz1'] at ez
              have ez' : bits .and .u8 (y : Int) 1 = 1 := ez
              have hbn : ¬ Pal.bit t i = 0 := by rw [hbit.out]; omega
              have Hbn := Bx.mk hbn
              clear hz ez hz1' hbn
              by_cases hkc : k < cells.length
              · obtain ⟨c, hc⟩ := at_lt (Bx.mk (rfl : cells.length = cells.length)) hkc
                obtain ⟨b4, o4, rfl, hc4⟩ := hsl5 k c hc
                have hkc' : (k : Int) < (cells.length : Int) := by omega
                have hk0 : (0 : Int) ≤ (k : Int) := by omega
                have hi64 : (i : Int) < 64 := by omega
                have hi0 : (0 : Int) ≤ (i : Int) := by omega
                have hkd : decide ((cells.length : Int) ≤ (k : Int)) = false := by simp; omega
                by_cases hco : c = o
                · have hb3 : (c == o) = true := by simp [hco]
                  have hres := Bx.mk (show res = ([], 6) by rw [hp4.out, Pal.pfin_none (Pal.st_none64 (Pal.st_same Hst.out Hbn.out hc (by rw [hgo.out]; exact hco)) hlt)])
                  clear hco hc
                  go_wp2_with fail
                  go_quiet (fail)
                  go_wp2
                  go_ret2
                  rw [hres.out]
                  exact ret_sl_nil rfl (below_drewN hbw _) rfl
                · have hb3 : (c == o) = false := by simp [hco]
                  have hst2 := Bx.mk (Pal.st_take Hst.out Hbn.out hc (by rw [hgo.out]; exact hco))
                  clear hco hc
                  have hlen64 : (out ++ xs.drop i).length = 64 := by have := Hx.out; simp; omega
                  obtain ⟨g', cg', he', _, hglt, _, hgf, hgs⟩ := hown.at (by omega)
                  injection he' with hg1 hg2 hg3
                  injection hg1 with hg1
                  injection hg1 with hg1
                  subst hg1
                  subst hg3
                  have hcell := (hown.sl) i _ (List.getElem?_eq_getElem (show i < (out ++ xs.drop i).length by omega))
                  obtain ⟨bb, oo, hbo, hcc⟩ := hcell
                  injection hbo with hbo
                  injection hbo with hbo1 hbo2
                  subst hbo1
                  subst hbo2
                  rw [Nat.zero_add] at hcc
                  generalize (out ++ xs.drop i)[i] = old_i at hcc
                  have hfi := hgf i
                  have Hgs := Bx.mk (hgs i c)
                  clear hgf hgs hol hg2
                  go_wp2_with fail
                  go_quiet (fail)
                  go_wp2
                  go_roundw
                  case rel =>
                    refine ⟨i + 1, k + 1, out ++ [c], by omega, by go_num, by go_num, by omega, hst2.out, ?_, (below_drewN hbel nq).setCell hgB _⟩
                    rw [← hset.out c]
                    have := Hgs.out
                    rw [hlen64] at this
                    exact this.drewN nq
                  case measure => simp [intOf]; omega
              · have hkd : decide ((cells.length : Int) ≤ (k : Int)) = true := by simp; omega
                have hkc' : (cells.length : Int) ≤ (k : Int) := by omega
                have hres := Bx.mk (show res = ([], 6) by rw [hp4.out, Pal.pfin_none (Pal.st_none64 (Pal.st_short Hst.out Hbn.out (List.getElem?_eq_none (by omega))) hlt)])
                go_wp2_with fail
                go_quiet (fail)
                go_wp2
                go_ret2
                rw [hres.out]
                exact ret_sl_nil rfl (below_drewN hbw _) rfl
          · have hi64 : i = 64 := by omega
            have hst := Hst.out
            rw [hi64] at hst hown
            have hdr : xs.drop 64 = [] := List.drop_eq_nil_of_le (by have := Hx.out; omega)
            rw [hdr, List.append_nil] at hown
            clear hi64 hdr hol
            by_cases hn : n = (tl : Int) - 8
            · have hb2 : (n != (tl : Int) - 8) = false := by simp [hn]
              by_cases hk : k = cells.length
              · have hb3 : ((k : Int) != (cells.length : Int)) = false := by simp [hk]
                have hres := Bx.mk (show res = (out, 0) by rw [hp4.out, Pal.pfin_ok (by rw [Htl.out]; exact hn) hst hk])
                clear hn hk hst
                go_wp2
                go_ret2
                rw [hres.out]
                exact ret_sl hown hbw rfl
              · have hb3 : ((k : Int) != (cells.length : Int)) = true := by simp; omega
                have hres := Bx.mk (show res = ([], 6) by rw [hp4.out, Pal.pfin_k hst hk])
                clear hn hk hst
                go_wp2
                go_ret2
                rw [hres.out]
                exact ret_sl_nil rfl hbw rfl
            · have hb2 : (n != (tl : Int) - 8) = true := by simp [hn]
              have hres := Bx.mk (show res = ([], 6) by rw [hp4.out, Pal.pfin_n (by rw [Htl.out]; exact hn)])
              clear hn hst
              go_wp2
              go_ret2
              rw [hres.out]
              exact ret_sl_nil rfl hbw rfl
      · have hz1 : (e != 0) = true := by simp [he]
        have hres := Bx.mk (show res = ([], e) by rw [hp3.out, if_pos he])
        clear hp3 he
        go_enter Try.func24, Try.ntmps24
        go_wp2_with (first
          | (go_at_call 27; refine (hcx.out).mono ?_; rintro e w' ⟨rfl, rfl⟩)
          | (go_at_call 13; refine (hun.out _).mono ?_; rintro e w1 ⟨a4, c4, rfl, hsl4, hb1⟩))
        go_ret2
        rw [hres.out]
        exact ret_sl_nil rfl hb1 rfl
  · have hb1 : ((xs.length : Int) != 64) = true := by simp; omega
    have hres := Bx.mk (show res = ([], 1) by rw [hp.out, if_pos (by simp [Pal.brick, hx])])
    clear hp hx h hb ht
    generalize strOfNums t = S at *
    go_enter Try.func24, Try.ntmps24
    go_wp2
    go_ret2
    rw [hres.out]
    exact ret_sl_nil rfl (Below.refl _ _) rfl
end Go.Proofs.Ytcgieiocbjkdlaa
