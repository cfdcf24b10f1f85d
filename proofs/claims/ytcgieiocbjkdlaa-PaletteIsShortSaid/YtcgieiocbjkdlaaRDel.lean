/- Delta, of the specification. -/
import Derived.Test.YtcgieiocbjkdlaaPDel
namespace Go.Proofs.Ytcgieiocbjkdlaa
open Go.RowKit

set_option maxRecDepth 100000 in
set_option maxHeartbeats 1000000 in
theorem ref_delta (a b : Option Addr) (ca cb : Nat) (xs ys : List Int) (w : World) (hl : xs.length ≤ 1000) (hl2 : ys.length ≤ 1000) (h : Sl w .i64 a xs) (h' : Sl w .i64 b ys) :
    Calls Try.prog 23 #[.slice a xs.length ca, .slice b ys.length cb] w fun e w' => e = .returned (.tuple #[.string (strOfNums (Pal.dltB xs ys)), .int .i64 (Pal.dltE xs ys)]) ∧ Below w.heap.size w w' := by
  have hcx := Bx.mk (ref_brick a ca xs w hl h)
  have hcy := Bx.mk (ref_brick b cb ys w hl2 h')
  cases hbrx : Pal.brick xs with
  | false =>
    have h1 := Bx.mk (Pal.dltB_bad (old := xs) (new := ys) (by simp [hbrx]))
    have h2 := Bx.mk (Pal.dltE_bad (old := xs) (new := ys) (by simp [hbrx]))
    rw [hbrx] at hcx
    generalize Pal.dltB xs ys = db at *
    generalize Pal.dltE xs ys = de at *
    generalize Pal.brick ys = by_ at *
    clear hbrx h h'
    generalize xs.length = n at *
    generalize ys.length = m at *
    go_enter Try.func23, Try.ntmps23
    go_wp2_with (first
      | (go_at_call_of 39 (Value.slice a n ca); refine (hcx.out).mono ?_; rintro e w' ⟨rfl, rfl⟩)
      | (go_at_call_of 39 (Value.slice b m cb); refine (hcy.out).mono ?_; rintro e w' ⟨rfl, rfl⟩))
    go_ret2
    exact ⟨ret_str (by rw [h1.out]; rfl) h2.out.symm, Below.refl _ _⟩
  | true =>
    cases hbry : Pal.brick ys with
    | false =>
      have h1 := Bx.mk (Pal.dltB_bad (old := xs) (new := ys) (by simp [hbry]))
      have h2 := Bx.mk (Pal.dltE_bad (old := xs) (new := ys) (by simp [hbry]))
      rw [hbrx] at hcx
      rw [hbry] at hcy
      generalize Pal.dltB xs ys = db at *
      generalize Pal.dltE xs ys = de at *
      clear hbrx hbry h h'
      generalize xs.length = n at *
      generalize ys.length = m at *
      go_enter Try.func23, Try.ntmps23
      go_wp2_with (first
        | (go_at_call_of 39 (Value.slice a n ca); refine (hcx.out).mono ?_; rintro e w' ⟨rfl, rfl⟩)
        | (go_at_call_of 39 (Value.slice b m cb); refine (hcy.out).mono ?_; rintro e w' ⟨rfl, rfl⟩))
      go_ret2
      exact ⟨ret_str (by rw [h1.out]; rfl) h2.out.symm, Below.refl _ _⟩
    | true =>
      rw [hbrx] at hcx
      rw [hbry] at hcy
      have h1 := Bx.mk (Pal.dltB_good hbrx hbry)
      have h2 := Bx.mk (Pal.dltE_good hbrx hbry)
      have hpe := Bx.mk (Pal.chg_good (old := xs) hbry)
      have hx : xs.length = 64 := by unfold Pal.brick at hbrx; simp at hbrx; exact hbrx.1
      have hy : ys.length = 64 := by unfold Pal.brick at hbry; simp at hbry; exact hbry.1
      rw [hx] at hcx ⊢
      rw [hy] at hcy ⊢
      have Hx := Bx.mk hx
      have Hy := Bx.mk hy
      clear hx hy hbrx hbry
      have hchl := Pal.chg_length xs ys
      generalize Pal.dltB xs ys = db at *
      generalize Pal.dltE xs ys = de at *
      have hmk0 : ∀ W, (Instr.makeSlice 43 (.int .i64 8) (.int .i64 8)).run Try.prog W = .ok (.slice (some ⟨W.heap.size, 0, none⟩) 8 8) (W.alloc (.cells (madeCells #[.int .u8 0] 8) 5)) :=
        fun W => run_make_row' (P := Try.prog) 43 5 (.int .u8 0) 1 Try.underlying43 (by kernel_rfl) rfl .i64 .i64 8 (by omega) (by omega) W
      go_enter Try.func23, Try.ntmps23
      go_wp2_with (first
        | (go_at_call_of 39 (Value.slice a 64 ca); refine (hcx.out).mono ?_; rintro e w' ⟨rfl, rfl⟩)
        | (go_at_call_of 39 (Value.slice b 64 cb); refine (hcy.out).mono ?_; rintro e w' ⟨rfl, rfl⟩))
      clear hmk0
      go_loopw [9, 10] (fun v i wr => ∃ k : Nat, k ≤ 64 ∧ i = .int .i64 k ∧ Own wr (w.heap.size + 1) 3 .i64 v (Pal.chg xs ys k) ∧ wr.rowIs w.heap.size 5 8 (fun j => .int .u8 (Pal.byt 1 (Pal.dbit xs ys) k j : Nat)) ∧ Below w.heap.size w wr) (fun _ i _ => 64 - (intOf i).toNat)
      case atStart => exact ⟨0, Nat.zero_le _, rfl, Own.nil _ _ _ _, World.rowIs_made _ _ _ _, (Below.refl _ _).alloc (Nat.le_refl _) _⟩
      case round =>
        obtain ⟨k, hk, rfl, hown, hrow, hbel⟩ := hrel
        by_cases hlt : k < 64
        · obtain ⟨x, hx⟩ := at_lt Hx hlt
          obtain ⟨y, hy⟩ := at_lt Hy hlt
          obtain ⟨b1, off1, rfl, hc1⟩ := h.below hbel k x hx
          obtain ⟨b2, off2, rfl, hc2w⟩ := h' k y hy
          have hc2 := cell_later hbel hc2w
          have hb2lt : b2 < w.heap.size := World.block_lt_of_cell? w _ hc2w
          clear hc2w
          clear h h'
          have hgx : xs.getD k 0 = x := by simp [hx]
          have hgy : ys.getD k 0 = y := by simp [hy]
          have hk64 : (k : Int) < 64 := by omega
          have hk0 : (0 : Int) ≤ (k : Int) := by omega
          by_cases hxy : x = y
          · have hb : (x != y) = false := by simp [hxy]
            have hch := Bx.mk (Pal.chg_same (old := xs) (new := ys) (k := k) (by rw [hgx, hgy, hxy]))
            have hf := Bx.mk (fun j => Pal.byt1_same (Pal.dbit xs ys) k j (by unfold Pal.dbit; rw [hgx, hgy, if_pos hxy]))
            clear hxy hgx hgy hx hy
            go_wp2_with fail
            go_quiet (fail)
            go_wp2
            go_roundw
            case rel => exact ⟨k + 1, by omega, by go_num, by rw [hch.out]; exact hown.drewN nq, hrow.congr (fun j _ => by rw [hf.out j]), below_drewN hbel nq⟩
            case measure => simp [intOf]; omega
          · have hb : (x != y) = true := by simp [hxy]
            have hch := Bx.mk (Pal.chg_diff (old := xs) (new := ys) (k := k) (by rw [hgx, hgy]; exact hxy))
            rw [hgy] at hch
            have hf := Bx.mk (fun j => Pal.byt1_diff (Pal.dbit xs ys) k j (by unfold Pal.dbit; rw [hgx, hgy, if_neg hxy]))
            clear hxy hgx hgy hx hy
            obtain ⟨j, hj1, hj2, hj⟩ : ∃ j, 8 * j ≤ k ∧ k < 8 * j + 8 ∧ j = k / 8 := ⟨k / 8, by omega, by omega, rfl⟩
            obtain ⟨s, hs1, hs⟩ : ∃ s, s < 8 ∧ s = k % 8 := ⟨k % 8, by omega, rfl⟩
            have e1 : IntKind.i64.wrap ((k : Int) / 8) = (j : Int) := by rw [IntWalk.i64_in _ (by omega)]; omega
            have e2 : (k : Int).tmod 8 = (s : Int) := by rw [IntWalk.rem_in _ _ (by omega)]; omega
            have hj8 : j < 8 := by omega
            have hj8' : (j : Int) < 8 := by omega
            have hj0 : (0 : Int) ≤ (j : Int) := by omega
            have hb0 := hrow.cell hj8
            have hf0 := hrow.frozen j
            have hBs := Bx.mk (byt_below 1 (.inl rfl) (Pal.dbit xs ys) k j s (fun i _ => Pal.dbit_lt xs ys i) (by omega) (by omega))
            have Hj := Bx.mk hj
            have Hs := Bx.mk hs
            clear hj hs
            generalize hBd : Pal.byt 1 (Pal.dbit xs ys) k j = B at *
            have HBd := Bx.mk hBd
            clear hBd
            have hval := Bx.mk (add_bit s B hBs.out hs1)
            have hpl := hchl k
            have hlt0 : w.heap.size < wr.heap.size := hrow.lt
            go_wp2_with fail
            go_quiet (fail)
            go_wp2_with fail
            have hrow := World.rowIs.of_block (w' := wr.drewN nq) hrow rfl
            have hown := hown.drewN nq
            have hbel := below_drewN hbel nq
            have hc1 : (wr.drewN nq).cell? _ = _ := hc1
            have hc2 : (wr.drewN nq).cell? _ = _ := hc2
            have hb0 := hrow.cell hj8
            have hf0 := hrow.frozen j
            rw [HBd.out] at hb0
            have hlt0 : w.heap.size < (wr.drewN nq).heap.size := hrow.lt
            generalize hwr2 : wr.drewN nq = wr2 at *
            refine wp_region_still_tail 13 (by kernel_rfl) (by kernel_rfl) ?_
            simp only [List.take_succ_cons, List.take_zero, List.drop_succ_cons, List.drop_zero]
            repeat still_step
            refine wpStill_nil ?_
            change wpList _ _ _ _ _ wr2.drew
            have hval2 : IntKind.u8.wrap ((B : Int) + IntKind.u8.wrap (2 ^ s)) = (B : Int) + 2 ^ s := by rw [hval.out]; simp
            rw [hval2]
            clear hval2
            have hrow2 := Bx.mk (hrow.set j (.int .u8 ((B : Int) + 2 ^ s)))
            have hown2 := hown.setBelow (a := ⟨w.heap.size, j, none⟩) (Nat.lt_succ_self _) (.int .u8 ((B : Int) + 2 ^ s))
            have hbel2 := hbel.setCell (p := ⟨w.heap.size, j, none⟩) (Nat.le_refl _) (.int .u8 ((B : Int) + 2 ^ s))
            have hlt2 : w.heap.size + 1 ≤ (wr2.setCell ⟨w.heap.size, j, none⟩ (.int .u8 ((B : Int) + 2 ^ s))).heap.size := by rw [size_setCell]; omega
            go_wp2_with (first
              | (at_builtin
                 refine wpList_append_int rfl _ _ 22 rfl 3 .i64 (.int .i64 0) 8 (by omega) Try.underlying22 (by kernel_rfl) rfl (w.heap.size + 1) _ (Pal.chg xs ys k) rfl (hown2.alloc _).drew y ⟨wr2.heap.size, 0, none⟩ 1 rfl (cell_new' _ _ (size_setCell _ _ _) _ _) (by omega) (le_alloc hlt2 _) ?_
                 intro v1 w1 hown1 hg1 _))
            go_roundw
            case rel =>
              refine ⟨k + 1, by omega, by go_num, by rw [hch.out]; exact hown1, ?_, ((hbel2.alloc hbel2.size _).drew).grown hg1 (le_alloc hbel2.size _) (fun g hg => by have := (hown.lt g hg).1; omega)⟩
              refine (rowIs_grown (hrow2.out.alloc _).drew hg1 (fun e => by have := (hown.lt _ e.symm).1; omega)).congr (fun j' hj' => ?_)
              rw [hf.out j']
              by_cases e : j' = j
              · rw [if_pos e, e, if_pos Hj.out.symm, HBd.out, ← Hs.out]; simp
              · rw [if_neg e, if_neg (by have := Hj.out; omega)]; rfl
            case measure => simp [intOf]; omega
        · have hkn : k = 64 := by omega
          rw [hkn] at hown hrow
          clear hkn hchl
          have hps := Pal.chg_length xs ys 64
          have hpl := Pal.packB_length_le (Pal.chg xs ys 64)
          generalize Pal.chg xs ys 64 = c64 at *
          obtain ⟨pa, pc, rfl, hsl⟩ := hown.form
          have hpk := Bx.mk (ref_pack pa pc c64 wr (by omega) hsl)
          rw [hpe.out] at hpk
          clear hsl hown
          have hmk := Bx.mk (rowIs_sl (F := fun j => (Pal.byt 1 (Pal.dbit xs ys) 64 j : Nat)) hrow)
          have hbl := Pal.bytes_length 1 (Pal.dbit xs ys) 64 8
          have hmk2 : Bx (∀ W, Below wr.heap.size wr W → (convert 43 9 (.slice (some ⟨w.heap.size, 0, none⟩) 8 8)).run Try.prog W = .ok (.string (strOfNums (Pal.bytes 1 (Pal.dbit xs ys) 64 8))) W) :=
            ⟨fun W hW => conv_str (P := Try.prog) 43 5 9 Try.underlying43 Try.underlying5 Try.underlying9 (hmk.out.below hW) 8 8 hbl.symm⟩
          have hrow2 := Bx.mk (fun W (hW : Below wr.heap.size wr W) => rowIs_below hrow hW)
          generalize Pal.bytes 1 (Pal.dbit xs ys) 64 8 = mb at *
          clear hmk hrow
          generalize hpb : Pal.packB c64 = pb at *
          have hs1 : (strOfNums mb).size = 8 := (strOfNums_size _).trans hbl
          have hs2 : (strOfNums pb).size = pb.length := strOfNums_size _
          have Hadd := Bx.mk (str_append mb pb)
          generalize strOfNums mb = S1 at *
          generalize strOfNums pb = S2 at *
          clear hpb
          go_wp2_with (first
            | (go_at_call 12; refine (hpk.out).mono ?_; rintro e w2 ⟨rfl, hb2⟩; have hcv := hmk2.out _ hb2))
          go_ret2
          exact ⟨ret_str (by rw [h1.out, ← Hadd.out]) h2.out.symm, hbel.trans (hb2.mono hbel.size)⟩
end Go.Proofs.Ytcgieiocbjkdlaa
