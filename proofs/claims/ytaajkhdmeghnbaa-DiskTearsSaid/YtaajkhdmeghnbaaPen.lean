/- The program's Pending. -/
import Derived.Test.YtaajkhdmeghnbaaFlu
import Derived.Sort.OwnSortedInts
namespace Go.Proofs.Ytaajkhdmeghnbaa
open Go.RowKit Go.Sort

def ints (l : List Nat) : List Int := l.map fun (n : Nat) => (n : Int)
/-- what has been collected of the pending pages -/
structure Col (p : List Pg) (L : Nat → Bool) (xs : List Nat) : Prop where
  nodup : xs.Nodup
  mem : ∀ i, i ∈ xs ↔ i < p.length ∧ isPend p i = true ∧ L i = false
theorem col_start (p : List Pg) : Col p (fun i => (p[i]?.bind (·.2)).isSome) [] := by
  refine ⟨List.nodup_nil, fun i => ⟨fun h => (by cases h), fun h => ?_⟩⟩
  obtain ⟨_, h1, h2⟩ := h
  unfold isPend at h1
  rw [h1] at h2; cases h2
theorem col_step {p : List Pg} {L : Nat → Bool} {xs : List Nat} {i : Nat} (h : Col p L xs) (hi : i < p.length) (hp : isPend p i = true) (hL : L i = true) : Col p (fun j => L j && !decide (j = i)) (xs ++ [i]) := by
  refine ⟨List.nodup_append.2 ⟨h.nodup, by simp, fun a ha b hb => ?_⟩, fun j => ?_⟩
  · rw [List.mem_singleton] at hb
    subst hb
    intro e
    subst e
    have := ((h.mem a).1 ha).2.2
    rw [hL] at this; cases this
  · rw [List.mem_append, List.mem_singleton, h.mem j]
    by_cases e : j = i
    · subst e; simp [hi, hp]
    · simp [e]
theorem sorted_uniq : ∀ {l l' : List Nat}, l.Pairwise (· < ·) → l'.Pairwise (· < ·) → (∀ x, x ∈ l ↔ x ∈ l') → l = l'
  | [], [], _, _, _ => rfl
  | [], b :: l', _, _, h => by have := (h b).2 (by simp); cases this
  | a :: l, [], _, _, h => by have := (h a).1 (by simp); cases this
  | a :: l, b :: l', h1, h2, h => by
    rw [List.pairwise_cons] at h1 h2
    have hab : a = b := by
      have h3 := (h a).1 (by simp)
      have h4 := (h b).2 (by simp)
      rw [List.mem_cons] at h3 h4
      rcases h3 with h3 | h3
      · exact h3
      · rcases h4 with h4 | h4
        · exact h4.symm
        · have := h1.1 b h4
          have := h2.1 a h3
          omega
    subst hab
    rw [sorted_uniq h1.2 h2.2 fun x => ⟨fun hx => ?_, fun hx => ?_⟩]
    · have h3 := (h x).1 (List.mem_cons_of_mem _ hx)
      rw [List.mem_cons] at h3
      rcases h3 with h3 | h3
      · have := h1.1 x hx; omega
      · exact h3
    · have h3 := (h x).2 (List.mem_cons_of_mem _ hx)
      rw [List.mem_cons] at h3
      rcases h3 with h3 | h3
      · have := h2.1 x hx; omega
      · exact h3
theorem col_sorted {p : List Pg} {L : Nat → Bool} {xs : List Nat} (h : Col p L xs) (hL : ∀ i, i < p.length → L i = false) : (ints xs).mergeSort (fun x y => decide (x ≤ y)) = ints (pendOf p) := by
  have hs : (ints xs).mergeSort (fun x y => decide (x ≤ y)) = ints (xs.mergeSort fun x y => decide (x ≤ y)) := by
    unfold ints
    exact (List.map_mergeSort (r := fun x y : Nat => decide (x ≤ y)) (fun a _ b _ => by simp)).symm
  rw [hs]
  congr 1
  have hp := List.mergeSort_perm xs (fun x y => decide (x ≤ y))
  have hsrt := List.pairwise_mergeSort (le := fun x y : Nat => decide (x ≤ y)) (fun a b c => by simp; omega) (fun a b => by simp; omega) xs
  refine sorted_uniq ?_ (pend_sorted p) fun i => ?_
  · have hnd := hp.nodup_iff.2 h.nodup
    refine (List.pairwise_and_iff.2 ⟨hsrt, hnd⟩).imp fun {a b} hab => ?_
    have h1 : a ≤ b := by simpa using hab.1
    have h2 : a ≠ b := hab.2
    omega
  · rw [hp.mem_iff, h.mem, mem_pend]
    exact ⟨fun hh => hh.2.1, fun hh => ⟨isPend_lt hh, hh, hL i (isPend_lt hh)⟩⟩
theorem col_len {p : List Pg} {L : Nat → Bool} {xs : List Nat} (h : Col p L xs) : xs.length ≤ p.length := by
  have := List.Nodup.length_le_of_subset h.nodup (l₂ := List.range p.length) fun i hi => List.mem_range.2 ((h.mem i).1 hi).1
  rwa [List.length_range] at this
/-- Pending's answer -/
def PendPost (w : World) (p : List Pg) (e : Ending) (w' : World) : Prop := ∃ v, e = .returned v ∧ Own w' w.heap.size 3 .i64 v (ints (pendOf p)) ∧ Below w.heap.size w w'
/-- what lies in memory while Pending collects -/
structure PdI (w : World) (mb m r : Nat) (p : List Pg) (L : Nat → Bool) (cnt : Nat) (xs : List Nat) (v : Value) (wr : World) : Prop where
  rng : PgRng wr mb r m p L cnt
  own : Own wr w.heap.size 3 .i64 v (ints xs)
  col : Col p L xs
  bel : Below w.heap.size w wr
  hr : w.heap.size ≤ r
  ne : v.ownBlock ≠ some r
theorem Chg.ofRow {w w' : World} {row : Option Nat} (h : w.grownBy w' row) : Chg (fun k => row = some k) w w' := ⟨h.os, h.tape, h.output, h.size, fun k hk hn => h.block k hk (fun e => hn e.symm)⟩
theorem Chg.toRow {w w' : World} {b : Nat} (h : Chg (· = b) w w') : w.grownBy w' (some b) := ⟨h.os, h.tape, h.output, h.size, fun k hk hn => h.block k hk (fun e => hn (by rw [e]))⟩
theorem PdI.step {w wr w3 w4 : World} {mb m r cnt cnt3 i : Nat} {p : List Pg} {L : Nat → Bool} {xs : List Nat} {v v' : Value} {o : Obj} (h : PdI w mb m r p L cnt xs v wr) (hmb : mb < r) (hwr : w.heap.size = r) (hi : i < p.length) (hp : isPend p i = true) (hL : L i = true)
    (hrg : PgRng w3 mb r m p (fun j => L j && !decide (j = i)) cnt3) (hc : Chg (· = r) wr w3) (ho : Own w4 w.heap.size 3 .i64 v' (ints xs ++ [(i : Int)])) (hg : (w3.alloc o).grownBy w4 v.ownBlock)
    (hv : v'.ownBlock = v.ownBlock ∨ v'.ownBlock = some (w3.heap.size + 1)) : PdI w mb m r p (fun j => L j && !decide (j = i)) cnt3 (xs ++ [i]) v' w4 := by
  have hown := h.own.lt
  have hs3 := hc.size
  have hlr := hrg.lt
  have hal : Below w3.heap.size w3 (w3.alloc o) := (Below.refl _ _).alloc (Nat.le_refl _) _
  have hz : (w3.alloc o).heap.size = w3.heap.size + 1 := by simp
  refine ⟨?_, ?_, col_step h.col hi hp hL, ?_, h.hr, ?_⟩
  · refine (hrg.chg (.ofBelow hal (fun _ => False)) (fun e => e) (fun e => e)).chg (Chg.ofRow hg) (fun e => ?_) (fun e => h.ne e)
    have := (hown mb e).1
    omega
  · unfold ints at ho ⊢
    rw [List.map_append]; exact ho
  · have h1 : Below w.heap.size wr w3 := hc.below h.bel.size (fun k hk e => by omega)
    have h2 : Below w.heap.size (w3.alloc o) w4 := (Chg.ofRow hg).below (by have := h.bel.size; omega) (fun k hk e => by have := (hown k e).1; omega)
    exact ((h.bel.trans h1).trans (hal.mono (by have := h.bel.size; omega))).trans h2
  · intro e
    rcases hv with h1 | h1
    · exact h.ne (h1 ▸ e)
    · rw [h1] at e
      injection e with e
      omega
set_option maxRecDepth 100000 in
theorem pend_any (w : World) (p g mb cap m : Nat) (d : Dk) (h : DkIs w p g mb cap m d) : Calls Try.prog 25 #[.pointer (some ⟨p, 0, none⟩)] w (PendPost w d.p) := by
  have hfew := h.ok.few
  obtain ⟨w2, cnt, hrun, hrg, hb2, hz2, -⟩ := h.km.range (by omega)
  have c1 := h.kp.cell 1 rfl
  have hmb := Bx.mk h.lt.2.2
  have HI : Bx (PdI w mb m w.heap.size d.p (fun i => (d.p[i]?.bind (·.2)).isSome) cnt [] (.slice none 0 0) w2) := ⟨hrg, Own.nil _ _ _ _, col_start _, hb2, Nat.le_refl _, by simp [Value.ownBlock]⟩
  clear h hrg hb2 hz2
  generalize hr : w.heap.size = r at *
  replace hr := Bx.mk hr
  go_enter Try.func25, Try.ntmps25
  go_wp2_with fail
  go_loopw [3] (fun v3 wr => ∃ L cnt xs, Bx (PdI w mb m r d.p L cnt xs v3 wr)) (fun _ wr => wr.rangeLeft mb r)
  case atStart => exact ⟨_, _, _, HI⟩
  case round =>
    clear HI hrun c1
    obtain ⟨L, cnt, xs, HI⟩ := hrel
    rcases HI.out.rng.next (by omega) 0 with ⟨-, hL, hrun⟩ | ⟨i, n, w3, cnt3, hi, hn, hL, hrun, hrg3, hlt3, hc3, hz3, hen⟩
    · have hrun : ∀ ty, (Instr.next (.pointer (some ⟨r, 0, none⟩)) false ty).run Try.prog _ = _ := fun _ => hrun
      have hcs := col_sorted HI.out.col hL
      have hlen : (ints xs).length < 4611686018427387904 := by have := col_len HI.out.col; unfold ints; rw [List.length_map]; omega
      have hbel := Bx.mk HI.out.bel
      rcases HI.out.own.2 with ⟨rfl, hz⟩ | ⟨g2, cap2, cur, rfl, hb, hg, hnc, hcm, hcz, ht⟩
      · have hx : ints xs = [] := List.eq_nil_of_length_eq_zero hz
        rw [hx] at hcs
        have hpo : Bx (ints (pendOf d.p) = []) := ⟨hcs.symm.trans (by simp)⟩
        clear hcs hx hlen HI
        go_wp2_with (go_at_call 47; refine (Try.slices_Sort_int_none none 0 _).mono ?_; rintro _ _ ⟨rfl, rfl⟩)
        go_ret
        exact ⟨_, rfl, by rw [hpo.out]; exact Own.nil _ _ _ _, hbel.out⟩
      · have hH := Bx.mk (holds_of_blockI (ss := ints xs) hg (by rw [Nat.mul_one] at ht; exact ht))
        have hgl := Bx.mk (Array.getElem?_eq_some_iff.1 hg).1
        have hO := Bx.mk fun (n : Nat) (os : Array Obj) => ownsRow_sortedI (n := n) (os := os) (ss := ints xs) (ts := ints (pendOf d.p)) (by rw [← hcs, List.length_mergeSort]) hb hg hnc hcm hcz
        have hBB := Bx.mk fun (n : Nat) (os : Array Obj) => (Chg.ofRow (grownBy_sortedI (w := wr) (g := g2) (n := n) (os := os) (ints (pendOf d.p)).toArray)).below hbel.out.size (fun k hk e => by injection e with e; omega)
        have hle2 := Bx.mk (show (ints (pendOf d.p)).length = (ints xs).length by rw [← hcs, List.length_mergeSort])
        replace hcs := Bx.mk hcs
        replace hlen := Bx.mk hlen
        clear hg hb hnc hcm hcz ht HI
        generalize hxz : ints xs = zs at *
        replace hxz := Bx.mk hxz
        go_wp2_with (go_at_call 47; refine (Try.slices_Sort_int g2 0 cap2 zs _ hH.out hgl.out hlen.out).mono ?_; rintro _ _ ⟨rfl, n, os, rfl⟩)
        rw [hcs.out]
        have hOo := Bx.mk (hO.out n os)
        have hBo := Bx.mk (hBB.out n os)
        generalize grow _ os = w5 at *
        go_wp2_with fail
        go_ret
        exact ⟨.slice (some ⟨g2, 0, none⟩) zs.length cap2, rfl, by unfold Own; rw [hle2.out]; exact hOo.out, hbel.out.trans hBo.out⟩
    · have hrun : ∀ ty, (Instr.next (.pointer (some ⟨r, 0, none⟩)) false ty).run Try.prog _ = _ := fun _ => hrun
      have hown := Bx.mk (HI.out.own.grown hc3.toRow (.inr HI.out.ne))
      have hlen := Bx.mk (show (ints xs).length ≤ 1000000000 by have := col_len HI.out.col; unfold ints; rw [List.length_map]; omega)
      have hsz3 := Bx.mk (show w.heap.size ≤ w3.heap.size from Nat.le_trans HI.out.bel.size hc3.size)
      have hle := Bx.mk HI.out.rng.left_eq
      have hpi : Bx (isPend d.p i = true) := ⟨by unfold isPend; rw [hn]; rfl⟩
      replace hc3 := Bx.mk hc3
      replace hz3 := Bx.mk hz3
      replace hrg3 := Bx.mk hrg3
      replace hL := Bx.mk hL
      clear hn
      go_wp2_with (at_builtin; refine wpList_append_int rfl _ _ _ rfl 3 .i64 (.int .i64 0) 8 (by decide) Try.underlying32 (by kernel_rfl) rfl w.heap.size _ (ints xs) rfl (hown.out.alloc _) (i : Int) ⟨w3.heap.size, 0, none⟩ 1 rfl (cell_new _ _ _) hlen.out (le_alloc hsz3.out _) ?_)
      intro v' w4 ho hg hv
      have HI4 := Bx.mk (HI.out.step hmb.out hr.out hi hpi.out hL.out hrg3.out hc3.out ho hg hv)
      clear ho hg hv HI hown hrg3 hc3
      go_wp2_with fail
      go_roundw
      case rel => exact ⟨_, _, _, HI4⟩
      case measure => rw [HI4.out.rng.left_eq, hle.out]; omega
end Go.Proofs.Ytaajkhdmeghnbaa
