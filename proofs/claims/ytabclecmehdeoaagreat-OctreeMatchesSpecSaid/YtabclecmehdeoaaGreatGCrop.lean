import Derived.Test.YtabclecmehdeoaaGreatGPaste
import Derived.Test.YtabclecmehdeoaaGreatGNew
import Derived.Deep.Cut
section
/- Paste and Crop, by the program. -/
namespace Go.Proofs.YtabclecmehdeoaaGreat
open Go.RowKit Go.Sort

theorem Sl.grown {w w' : World} {k : IntKind} {b off g : Nat} {xs : List Int} (h : Sl w k (some ⟨b, off, none⟩) xs) (hg : w.grownBy w' (some g)) (hne : b ≠ g) : Sl w' k (some ⟨b, off, none⟩) xs := by
  intro i x hx
  obtain ⟨b', off', e, hc⟩ := h i x hx
  refine ⟨b', off', e, ?_⟩
  injection e with e; injection e with e1 e2; subst e1 e2
  have hlt : b < w.heap.size := World.block_lt_of_cell? _ _ hc
  exact (World.cell?_of_block (hg.block b hlt (fun e => hne (by injection e)))).trans hc
theorem meet_bd {A B : Box} {la lb lc ld le lf : Int} (h : Small A 1048575) (hM : meetB A B = ⟨⟨la, lb, lc⟩, ⟨ld, le, lf⟩⟩) :
    -1048576 ≤ la ∧ -1048576 ≤ lb ∧ -1048576 ≤ lc ∧ ld ≤ 1048576 ∧ le ≤ 1048576 ∧ lf ≤ 1048576 ∧ la ≤ ld ∧ lb ≤ le ∧ lc ≤ lf := by
  obtain ⟨s1, s2, s3, s4, s5, s6⟩ := h
  unfold meetB at hM
  split at hM
  · simp [Box.zero, Pt.zero] at hM; omega
  · rename_i he
    have he := emptyB_iff.1 (by simpa using he)
    rw [hM] at he
    simp only [joinB, Box.mk.injEq, Pt.mk.injEq] at hM
    simp only at he
    omega
theorem Sl.any {w : World} {k : IntKind} {a a' : Option Addr} (_h : Sl w k a []) : Sl w k a' [] := Sl.nil _ _ _

set_option maxRecDepth 100000 in
set_option maxHeartbeats 1000000 in
/-- the closure of Paste -/
theorem paste_clo (pg ph g N cap Bd : Nat) (a b c d e f a2 b2 c2 d2 e2 f2 : Int) (gc : Value) (ha : Option Addr) (hcp : Nat) (xs ys : List Int) (w : World) (hSA : Small ⟨⟨a, b, c⟩, ⟨d, e, f⟩⟩ 1048575) (hSB : Small ⟨⟨a2, b2, c2⟩, ⟨d2, e2, f2⟩⟩ 1048575)
    (hxl : xs.length = (volB ⟨⟨a, b, c⟩, ⟨d, e, f⟩⟩).toNat) (hyl : ys.length = (volB ⟨⟨a2, b2, c2⟩, ⟨d2, e2, f2⟩⟩).toNat) (hN : N ≤ 4194304) (hY : ys.length ≤ 4194304) (hcap : ys.length ≤ hcp) (hag : 0 < ys.length → ∀ b off, ha = some ⟨b, off, none⟩ → b ≠ g)
    (kg : Bk w pg #[.int .i64 a, .int .i64 b, .int .i64 c, .int .i64 d, .int .i64 e, .int .i64 f, gc] 28) (kh : Bk w ph #[.int .i64 a2, .int .i64 b2, .int .i64 c2, .int .i64 d2, .int .i64 e2, .int .i64 f2, .slice ha ys.length hcp] 28) (hx : Sl w .i64 ha ys) (ho : Own w Bd 3 .i64 (.slice (some ⟨g, 0, none⟩) N cap) xs) (_hgp : g ≠ pg) (hgh : g ≠ ph) :
    Calls Tryz.prog 91 #[.slice (some ⟨g, 0, none⟩) N cap, .pointer (some ⟨pg, 0, none⟩), .pointer (some ⟨ph, 0, none⟩)] w fun e' w' => e' = .returned (.tuple #[]) ∧ Own w' Bd 3 .i64 (.slice (some ⟨g, 0, none⟩) N cap) (pasteL ⟨⟨a, b, c⟩, ⟨d, e, f⟩⟩ ⟨⟨a2, b2, c2⟩, ⟨d2, e2, f2⟩⟩ xs ys) ∧ w.grownBy w' (some g) := by
  obtain ⟨⟨⟨la, lb, lc⟩, ⟨ld, le, lf⟩⟩, hM⟩ : ∃ M, meetB ⟨⟨a, b, c⟩, ⟨d, e, f⟩⟩ ⟨⟨a2, b2, c2⟩, ⟨d2, e2, f2⟩⟩ = M := ⟨_, rfl⟩
  have hgl := (ho.lt g rfl).2
  have hNl : xs.length = N := ho.raw.choose_spec.2.2.2.2.2.2.symm
  have hsz := kg.lt
  have hsz2 := kh.lt
  have cg := fun (j : Nat) v (h : (#[.int .i64 a, .int .i64 b, .int .i64 c, .int .i64 d, .int .i64 e, .int .i64 f, gc] : Array Value)[j]? = some v) => (kg.alloc (.cells #[.slice (some ⟨g, 0, none⟩) N cap] 26)).cell j h
  have ch := fun (j : Nat) v (h : (#[.int .i64 a2, .int .i64 b2, .int .i64 c2, .int .i64 d2, .int .i64 e2, .int .i64 f2, .slice ha ys.length hcp] : Array Value)[j]? = some v) => (kh.alloc (.cells #[.slice (some ⟨g, 0, none⟩) N cap] 26)).cell j h
  have cg0 := cg 0 _ rfl
  have ch0 := ch 0 _ rfl
  have cg1 := cg 1 _ rfl
  have ch1 := ch 1 _ rfl
  have cg2 := cg 2 _ rfl
  have ch2 := ch 2 _ rfl
  have cg3 := cg 3 _ rfl
  have ch3 := ch 3 _ rfl
  have cg4 := cg 4 _ rfl
  have ch4 := ch 4 _ rfl
  have cg5 := cg 5 _ rfl
  have ch5 := ch 5 _ rfl
  have cg6 := cg 6 _ rfl
  have ch6 := ch 6 _ rfl
  clear cg ch
  go_enter Tryz.func91, Tryz.ntmps91
  go_wp2_with fail
  generalize hW : World.alloc w _ = W
  have hb : Below w.heap.size w W := by rw [← hW]; exact (Below.refl _ _).alloc (Nat.le_refl _) _
  have kb : Bk W w.heap.size #[.slice (some ⟨g, 0, none⟩) N cap] 26 := by rw [← hW]; exact blk_new _ _ _ rfl
  clear hW cg0 ch0 cg1 ch1 cg2 ch2 cg3 ch3 cg4 ch4 cg5 ch5 cg6 ch6
  have kh1 := kh.later hb
  have ho1 := ho.below hb
  have hx1 := hx.below hb
  have hSz := hb.size
  have hSA' := hSA
  obtain ⟨s1, s2, s3, s4, s5, s6⟩ := hSA'
  have hJ := hM
  refine (rows_paste ph w.heap.size g a b c d e f a2 b2 c2 d2 e2 f2 la lb lc ld le lf gc hSA hM ?_
    (fun z y W' => Own W' Bd 3 .i64 (.slice (some ⟨g, 0, none⟩) N cap) (partL ⟨⟨a, b, c⟩, ⟨d, e, f⟩⟩ ⟨⟨a2, b2, c2⟩, ⟨d2, e2, f2⟩⟩ xs ys z y) ∧ Bk W' ph #[.int .i64 a2, .int .i64 b2, .int .i64 c2, .int .i64 d2, .int .i64 e2, .int .i64 f2, .slice ha ys.length hcp] 28 ∧ Bk W' w.heap.size #[.slice (some ⟨g, 0, none⟩) N cap] 26 ∧ Sl W' .i64 ha ys) W (by omega) ?_ ?_ ?_ ?_).mono ?_
  · exact meet_bd hSA hM
  · rintro z y W1 W2 ⟨h1, h2, h3, h4⟩ hb
    exact ⟨h1.below hb, h2.later hb, h3.later hb, h4.below hb⟩
  · refine ⟨?_, kh1, kb, hx1⟩
    have := partL_start (A := ⟨⟨a, b, c⟩, ⟨d, e, f⟩⟩) (B := ⟨⟨a2, b2, c2⟩, ⟨d2, e2, f2⟩⟩) (ys := ys) hxl
    rw [hM] at this
    rw [this]; exact ho1
  · rintro z y W1 z1 z2 y1 y2 ⟨h1, h2, h3, h4⟩ hgr
    obtain ⟨hlt, hrow⟩ := row_in hM ⟨z1, z2⟩ ⟨y1, y2⟩
    have hr0 := hrow 0 (by omega) (by omega)
    rw [Int.add_zero] at hr0
    obtain ⟨k, hk⟩ : ∃ k : Nat, indexB ⟨⟨a, b, c⟩, ⟨d, e, f⟩⟩ ⟨la, y, z⟩ = (k : Int) := ⟨_, (Int.toNat_of_nonneg (indexB_bd hr0.1).1).symm⟩
    obtain ⟨from_, hf⟩ : ∃ k : Nat, indexB ⟨⟨a2, b2, c2⟩, ⟨d2, e2, f2⟩⟩ ⟨la, y, z⟩ = (k : Int) := ⟨_, (Int.toNat_of_nonneg (indexB_bd hr0.2).1).symm⟩
    obtain ⟨n, hn⟩ : ∃ n : Nat, ld - la = (n : Int) := ⟨(ld - la).toNat, by omega⟩
    obtain ⟨p1, p2, p3, p4⟩ := partL_row (xs := xs) hM ⟨z1, z2⟩ ⟨y1, y2⟩ hk hf hn hyl
    rw [hk, hn]
    refine (row_copy ph w.heap.size g k n N cap la y z a2 b2 c2 d2 e2 f2 ha hcp ys _ hSB Bd from_ W1 hf p1 p2 (by omega) hN hY hcap h2 h3 h4 h1 hgh (by omega)).mono ?_
    rintro e' w3 ⟨rfl, h5, h6⟩
    rw [p4] at h5
    refine ⟨rfl, ⟨h5, h2.grown h6 (Ne.symm hgh), h3.grown h6 (by omega), ?_⟩, h6⟩
    obtain ⟨bb, oo, e, _⟩ := h4 from_ (ys[from_]'(by omega)) (by simp)
    subst e
    exact h4.grown h6 (hag (by omega) _ _ rfl)
  · rintro z W1 z1 z2 ⟨h1, h2, h3, h4⟩
    have := partL_next (A := ⟨⟨a, b, c⟩, ⟨d, e, f⟩⟩) (B := ⟨⟨a2, b2, c2⟩, ⟨d2, e2, f2⟩⟩) (xs := xs) (ys := ys) (z := z)
    rw [hM] at this
    rw [this] at h1
    exact ⟨h1, h2, h3, h4⟩
  · rintro e' w2 ⟨rfl, ⟨h1, h2, h3, h4⟩, h5⟩
    have := partL_end (A := ⟨⟨a, b, c⟩, ⟨d, e, f⟩⟩) (B := ⟨⟨a2, b2, c2⟩, ⟨d2, e2, f2⟩⟩) (xs := xs) (ys := ys)
    rw [hM] at this
    rw [this] at h1
    go_wp2_with fail
    go_end0
    exact ⟨rfl, h1, (grown_trans ⟨hb.os, hb.tape, hb.output, hb.size, fun k hk _ => hb.block k hk⟩ h5)⟩

set_option maxRecDepth 100000 in
set_option maxHeartbeats 1000000 in
theorem changed_paste (pg ph : Nat) (a b c d e f a2 b2 c2 d2 e2 f2 : Int) (ga ha : Option Addr) (gcap hcp : Nat) (xs ys : List Int) (w : World) (hSA : Small ⟨⟨a, b, c⟩, ⟨d, e, f⟩⟩ 1048575) (hSB : Small ⟨⟨a2, b2, c2⟩, ⟨d2, e2, f2⟩⟩ 1048575)
    (hxl : xs.length = (volB ⟨⟨a, b, c⟩, ⟨d, e, f⟩⟩).toNat) (hyl : ys.length = (volB ⟨⟨a2, b2, c2⟩, ⟨d2, e2, f2⟩⟩).toNat) (hX1 : 1 ≤ xs.length) (hN : xs.length ≤ 4194304) (hY : ys.length ≤ 4194304) (hcap : ys.length ≤ hcp)
    (kg : Bk w pg #[.int .i64 a, .int .i64 b, .int .i64 c, .int .i64 d, .int .i64 e, .int .i64 f, .slice ga xs.length gcap] 28) (kh : Bk w ph #[.int .i64 a2, .int .i64 b2, .int .i64 c2, .int .i64 d2, .int .i64 e2, .int .i64 f2, .slice ha ys.length hcp] 28) (hx : Sl w .i64 ha ys) (hg : Sl w .i64 ga xs) :
    Calls Tryz.prog 90 #[.agg #[.int .i64 a, .int .i64 b, .int .i64 c, .int .i64 d, .int .i64 e, .int .i64 f, .slice ga xs.length gcap], .func (.func 91) #[] #[.pointer (some ⟨pg, 0, none⟩), .pointer (some ⟨ph, 0, none⟩)]] w
      fun e' w' => ∃ v, e' = .returned (.agg #[.int .i64 a, .int .i64 b, .int .i64 c, .int .i64 d, .int .i64 e, .int .i64 f, v]) ∧ Own w' w.heap.size 3 .i64 v (pasteL ⟨⟨a, b, c⟩, ⟨d, e, f⟩⟩ ⟨⟨a2, b2, c2⟩, ⟨d2, e2, f2⟩⟩ xs ys) ∧ Below w.heap.size w w' := by
  have hpg := kg.lt
  have hph := kh.lt
  have hcl := Bx.mk fun W h => slices_clone ga gcap xs W (by omega) h
  have hclo := Bx.mk fun Bd g N cap W h1 h2 h3 h4 h5 h6 h7 h8 => paste_clo pg ph g N cap Bd a b c d e f a2 b2 c2 d2 e2 f2 (.slice ga xs.length gcap) ha hcp xs ys W hSA hSB hxl hyl h8 hY hcap h1 h2 h3 h4 h5 h6 h7
  have hab : 0 < ys.length → ∀ b off, ha = some ⟨b, off, none⟩ → b < w.heap.size := fun h b off e => by
    subst e
    obtain ⟨b', off', e, hc⟩ := hx 0 (ys[0]'h) (by simp)
    injection e with e; injection e with e1 e2; subst e1 e2
    exact World.block_lt_of_cell? _ _ hc
  have Hab := Bx.mk hab
  have Hx := Bx.mk hx
  have Hg := Bx.mk hg
  have Kg := Bx.mk kg
  have Kh := Bx.mk kh
  clear hab hx hg kg kh hSA hSB hxl hyl hY hcap
  go_enter Tryz.func90, Tryz.ntmps90
  go_wp2_with fail
  generalize hW : World.alloc (World.alloc w _) _ = W
  have hSz : w.heap.size + 1 + 1 ≤ W.heap.size := by rw [← hW]; simp
  have hB : Below w.heap.size w W := by rw [← hW]; exact ((Below.refl _ _).alloc (Nat.le_refl _) _).alloc (by simp) _
  have kr : Bk W (w.heap.size) #[.int .i64 a, .int .i64 b, .int .i64 c, .int .i64 d, .int .i64 e, .int .i64 f, .slice ga xs.length gcap] 28 := by rw [← hW]; exact blk_old (blk_new _ _ _ (by simp))
  have kq : Bk W (w.heap.size + 1) #[.int .i64 0, .int .i64 0, .int .i64 0, .int .i64 0, .int .i64 0, .int .i64 0, .slice none 0 0] 28 := by rw [← hW]; exact blk_new _ _ _ (by simp)
  clear hW
  have cr0 := kr.cell 0 rfl
  have cr1 := kr.cell 1 rfl
  have cr2 := kr.cell 2 rfl
  have cr3 := kr.cell 3 rfl
  have cr4 := kr.cell 4 rfl
  have cr5 := kr.cell 5 rfl
  have cr6 := kr.cell 6 rfl
  go_wp2_with fail
  refine (hcl.out _ (Hg.out.below hB)).mono ?_
  rintro e' w1 ⟨v, rfl, ho, hb⟩
  clear hcl
  obtain ⟨Bd, hBd⟩ : ∃ Bd, Bd = W.heap.size := ⟨_, rfl⟩
  rw [← hBd] at ho hb
  have hSd : w.heap.size + 2 ≤ Bd := by omega
  replace hb : Below W.heap.size W w1 := hBd ▸ hb
  clear cr0 cr1 cr2 cr3 cr4 cr5 cr6
  replace hB := hB.trans (hb.mono hB.size)
  replace kr := kr.later hb
  replace kq := kq.later hb
  replace hSz := Nat.le_trans hSz hb.size
  clear hb
  obtain ⟨g, cap, rfl, hg1, hg2, -, -, -⟩ := ho.at (by omega)
  go_wp2_with fail
  refine (hclo.out Bd g xs.length cap w1 (fun h b off e => by have := Hab.out h b off e; omega) (Kg.out.later hB) (Kh.out.later hB) (Hx.out.below hB) ho (by omega) (by omega) hN).mono ?_
  rintro e' w3 ⟨rfl, h1, hgr⟩
  clear hclo
  replace hB := hB.grown hgr hB.size (fun k hk => by injection hk; omega)
  replace kr := kr.grown hgr (by omega)
  replace kq := kq.grown hgr (by omega)
  have H1 := Bx.mk h1
  clear h1 hgr ho hg1 hg2 Hg Hx Kg Kh Hab
  have cr0 := kr.cell 0 rfl
  have cr1 := kr.cell 1 rfl
  have cr2 := kr.cell 2 rfl
  have cr3 := kr.cell 3 rfl
  have cr4 := kr.cell 4 rfl
  have cr5 := kr.cell 5 rfl
  have cr6 := kr.cell 6 rfl
  have cq0 := kq.cell 0 rfl
  have cq1 := kq.cell 1 rfl
  have cq2 := kq.cell 2 rfl
  have cq3 := kq.cell 3 rfl
  have cq4 := kq.cell 4 rfl
  have cq5 := kq.cell 5 rfl
  have cq6 := kq.cell 6 rfl
  have fq0 := kq.frozen 0
  have fq1 := kq.frozen 1
  have fq2 := kq.frozen 2
  have fq3 := kq.frozen 3
  have fq4 := kq.frozen 4
  have fq5 := kq.frozen 5
  have fq6 := kq.frozen 6
  go_wp2_with fail
  replace kq := kq.put7 (.int .i64 a) (.int .i64 b) (.int .i64 c) (.int .i64 d) (.int .i64 e) (.int .i64 f) (.slice (some ⟨g, 0, none⟩) xs.length cap)
  exact bodyPost_ret (v := .agg #[.int .i64 a, .int .i64 b, .int .i64 c, .int .i64 d, .int .i64 e, .int .i64 f, .slice (some ⟨g, 0, none⟩) xs.length cap]) (results_cell_row rfl _ _ _ 28 #[.int .i64 a, .int .i64 b, .int .i64 c, .int .i64 d, .int .i64 e, .int .i64 f, .slice (some ⟨g, 0, none⟩) xs.length cap] (0, 0) _ rfl kq Tryz.underlying28 rfl (by kernel_rfl)) rfl ⟨_, rfl, (((((((H1.out.setBelow (by simp; omega) _).setBelow (by simp; omega) _).setBelow (by simp; omega) _).setBelow (by simp; omega) _).setBelow (by simp; omega) _).setBelow (by simp; omega) _).setBelow (by simp; omega) _).base (by omega), blw7 hB (by omega) _ _ _ _ _ _ _⟩


/-- a grid is returned; its cells lie in a row of the call's own -/
def RetG1 (a b c d e f : Int) (n : Nat) (zs : List Int) (w : World) (E : Ending) (w' : World) : Prop :=
  ∃ pa pc, E = .returned (.agg #[.int .i64 a, .int .i64 b, .int .i64 c, .int .i64 d, .int .i64 e, .int .i64 f, .slice pa n pc]) ∧ n = zs.length ∧ Own w' w.heap.size 3 .i64 (.slice pa n pc) zs ∧ Below w.heap.size w w'
theorem pasteL_length (A B : Box) (xs ys : List Int) : (pasteL A B xs ys).length = (volB A).toNat := cellsOf_length _ _
set_option maxRecDepth 100000 in
set_option maxHeartbeats 1000000 in
theorem paste_any (a b c d e f a2 b2 c2 d2 e2 f2 : Int) (ga ha : Option Addr) (gcap hcp : Nat) (xs ys : List Int) (w : World) (hSA : Small ⟨⟨a, b, c⟩, ⟨d, e, f⟩⟩ 1048575) (hSB : Small ⟨⟨a2, b2, c2⟩, ⟨d2, e2, f2⟩⟩ 1048575)
    (hxl : xs.length = (volB ⟨⟨a, b, c⟩, ⟨d, e, f⟩⟩).toNat) (hyl : ys.length = (volB ⟨⟨a2, b2, c2⟩, ⟨d2, e2, f2⟩⟩).toNat) (hX1 : 1 ≤ xs.length) (hN : xs.length ≤ 4194304) (hY : ys.length ≤ 4194304) (hcap : ys.length ≤ hcp)
    (hx : Sl w .i64 ha ys) (hg : Sl w .i64 ga xs) :
    Calls Tryz.prog 63 #[.agg #[.int .i64 a, .int .i64 b, .int .i64 c, .int .i64 d, .int .i64 e, .int .i64 f, .slice ga xs.length gcap], .agg #[.int .i64 a2, .int .i64 b2, .int .i64 c2, .int .i64 d2, .int .i64 e2, .int .i64 f2, .slice ha ys.length hcp]] w (RetG1 a b c d e f xs.length (pasteL ⟨⟨a, b, c⟩, ⟨d, e, f⟩⟩ ⟨⟨a2, b2, c2⟩, ⟨d2, e2, f2⟩⟩ xs ys) w) := by
  have hch := Bx.mk fun pg ph W h1 h2 h3 h4 => changed_paste pg ph a b c d e f a2 b2 c2 d2 e2 f2 ga ha gcap hcp xs ys W hSA hSB hxl hyl hX1 hN hY hcap h1 h2 h3 h4
  have hlen := Bx.mk (hxl.trans (pasteL_length ⟨⟨a, b, c⟩, ⟨d, e, f⟩⟩ ⟨⟨a2, b2, c2⟩, ⟨d2, e2, f2⟩⟩ xs ys).symm)
  have Hx := Bx.mk hx
  have Hg := Bx.mk hg
  clear hSA hSB hxl hyl hY hcap hX1 hN hx hg
  go_enter Tryz.func63, Tryz.ntmps63
  go_wp2_with fail
  generalize hW : World.alloc (World.alloc (World.alloc w _) _) _ = W
  have hSz : w.heap.size + 1 + 1 + 1 ≤ W.heap.size := by rw [← hW]; simp
  have hB : Below w.heap.size w W := by rw [← hW]; exact (((Below.refl _ _).alloc (Nat.le_refl _) _).alloc (by simp) _).alloc (by simp; omega) _
  have kg : Bk W (w.heap.size) #[.int .i64 a, .int .i64 b, .int .i64 c, .int .i64 d, .int .i64 e, .int .i64 f, .slice ga xs.length gcap] 28 := by rw [← hW]; exact blk_old (blk_old (blk_new _ _ _ (by simp)))
  have kh : Bk W (w.heap.size + 1) #[.int .i64 a2, .int .i64 b2, .int .i64 c2, .int .i64 d2, .int .i64 e2, .int .i64 f2, .slice ha ys.length hcp] 28 := by rw [← hW]; exact blk_old (blk_new _ _ _ (by simp))
  have kr : Bk W (w.heap.size + 1 + 1) #[.int .i64 0, .int .i64 0, .int .i64 0, .int .i64 0, .int .i64 0, .int .i64 0, .slice none 0 0] 28 := by rw [← hW]; exact blk_new _ _ _ (by simp)
  clear hW
  have cg0 := kg.cell 0 rfl
  have cg1 := kg.cell 1 rfl
  have cg2 := kg.cell 2 rfl
  have cg3 := kg.cell 3 rfl
  have cg4 := kg.cell 4 rfl
  have cg5 := kg.cell 5 rfl
  have cg6 := kg.cell 6 rfl
  go_wp2_with fail
  refine (hch.out _ _ _ kg kh (Hx.out.below hB) (Hg.out.below hB)).mono ?_
  rintro e' w1 ⟨v, rfl, ho, hb⟩
  obtain ⟨Bd, hBd⟩ : ∃ Bd, Bd = W.heap.size := ⟨_, rfl⟩
  rw [← hBd] at ho hb
  have hSd : w.heap.size + 3 ≤ Bd := by omega
  replace hb : Below W.heap.size W w1 := hBd ▸ hb
  clear hch Hx Hg
  clear cg0 cg1 cg2 cg3 cg4 cg5 cg6
  replace hB := hB.trans (hb.mono hB.size)
  replace kg := kg.later hb
  replace kh := kh.later hb
  replace kr := kr.later hb
  replace hSz := Nat.le_trans hSz hb.size
  clear hb
  obtain ⟨pa, pc, rfl, -⟩ := ho.form
  rw [← hlen.out] at ho
  rw [← hlen.out]
  have Ho := Bx.mk ho
  clear ho
  have cr0 := kr.cell 0 rfl
  have cr1 := kr.cell 1 rfl
  have cr2 := kr.cell 2 rfl
  have cr3 := kr.cell 3 rfl
  have cr4 := kr.cell 4 rfl
  have cr5 := kr.cell 5 rfl
  have cr6 := kr.cell 6 rfl
  have fr0 := kr.frozen 0
  have fr1 := kr.frozen 1
  have fr2 := kr.frozen 2
  have fr3 := kr.frozen 3
  have fr4 := kr.frozen 4
  have fr5 := kr.frozen 5
  have fr6 := kr.frozen 6
  go_wp2_with fail
  replace kr := kr.put7 (.int .i64 a) (.int .i64 b) (.int .i64 c) (.int .i64 d) (.int .i64 e) (.int .i64 f) (.slice pa xs.length pc)
  exact bodyPost_ret (v := .agg #[.int .i64 a, .int .i64 b, .int .i64 c, .int .i64 d, .int .i64 e, .int .i64 f, .slice pa xs.length pc]) (results_cell_row rfl _ _ _ 28 #[.int .i64 a, .int .i64 b, .int .i64 c, .int .i64 d, .int .i64 e, .int .i64 f, .slice pa xs.length pc] (0, 0) _ rfl kr Tryz.underlying28 rfl (by kernel_rfl)) rfl ⟨_, _, rfl, hlen.out, (((((((Ho.out.setBelow (by simp; omega) _).setBelow (by simp; omega) _).setBelow (by simp; omega) _).setBelow (by simp; omega) _).setBelow (by simp; omega) _).setBelow (by simp; omega) _).setBelow (by simp; omega) _).base (by omega), blw7 hB (by omega) _ _ _ _ _ _ _⟩

end Go.Proofs.YtabclecmehdeoaaGreat
end
section
/- Crop, by the program. -/
namespace Go.Proofs.YtabclecmehdeoaaGreat
open Go.RowKit Go.Sort

theorem crop_law {A B : Box} {ys : List Int} {n : Nat} (_hn : (volB A).toNat = n) : pasteL A B (List.replicate n 0) ys = cellsOf A (cellG B ys) := by
  refine cellsOf_congr fun p hp => ?_
  split
  · rfl
  · rename_i h
    have e : cellG B ys p = 0 := by unfold cellG; rw [if_neg h]
    rw [e]
    unfold cellG
    rw [if_pos hp, List.getD_eq_getElem?_getD, List.getElem?_replicate]
    split <;> rfl

set_option maxRecDepth 100000 in
set_option maxHeartbeats 1000000 in
theorem crop_err (a b c d e f : Int) (v7 : Array Value) (h7 : ∃ a2 b2 c2 d2 e2 f2 ha n hcp, v7 = #[.int .i64 a2, .int .i64 b2, .int .i64 c2, .int .i64 d2, .int .i64 e2, .int .i64 f2, .slice ha n hcp]) (hne : newE ⟨⟨a, b, c⟩, ⟨d, e, f⟩⟩ 0 ≠ 0) (w : World) :
    Calls Tryz.prog 29 #[.agg v7, .agg #[.int .i64 a, .int .i64 b, .int .i64 c, .int .i64 d, .int .i64 e, .int .i64 f]] w fun e' w' => e' = .returned (.tuple #[.agg #[.int .i64 0, .int .i64 0, .int .i64 0, .int .i64 0, .int .i64 0, .int .i64 0, .slice none 0 0], .int .i64 (newE ⟨⟨a, b, c⟩, ⟨d, e, f⟩⟩ 0)]) ∧ Below w.heap.size w w' := by
  obtain ⟨a2, b2, c2, d2, e2, f2, ha, n, hcp, rfl⟩ := h7
  have hc := Bx.mk fun W => new_err a b c d e f 0 hne W
  generalize newE ⟨⟨a, b, c⟩, ⟨d, e, f⟩⟩ 0 = ee at *
  have hb : (ee != 0) = true := by simp [hne]
  clear hne
  go_enter Tryz.func29, Tryz.ntmps29
  go_wp2_with fail
  generalize hW : World.alloc (World.alloc (World.alloc w _) _) _ = W
  have hSz : w.heap.size + 1 + 1 + 1 ≤ W.heap.size := by rw [← hW]; simp
  have hB : Below w.heap.size w W := by rw [← hW]; exact (((Below.refl _ _).alloc (Nat.le_refl _) _).alloc (by simp) _).alloc (by simp; omega) _
  have kh : Bk W (w.heap.size) #[.int .i64 a2, .int .i64 b2, .int .i64 c2, .int .i64 d2, .int .i64 e2, .int .i64 f2, .slice ha n hcp] 28 := by rw [← hW]; exact blk_old (blk_old (blk_new _ _ _ (by simp)))
  have kb : Bk W (w.heap.size + 1) #[.int .i64 a, .int .i64 b, .int .i64 c, .int .i64 d, .int .i64 e, .int .i64 f] 25 := by rw [← hW]; exact blk_old (blk_new _ _ _ (by simp))
  have kr : Bk W (w.heap.size + 1 + 1) #[.int .i64 0, .int .i64 0, .int .i64 0, .int .i64 0, .int .i64 0, .int .i64 0, .slice none 0 0] 28 := by rw [← hW]; exact blk_new _ _ _ (by simp)
  clear hW
  have cb0 := kb.cell 0 rfl
  have cb1 := kb.cell 1 rfl
  have cb2 := kb.cell 2 rfl
  have cb3 := kb.cell 3 rfl
  have cb4 := kb.cell 4 rfl
  have cb5 := kb.cell 5 rfl
  go_wp2_with fail
  refine (hc.out _).mono ?_
  rintro e' w1 ⟨rfl, hb1⟩
  clear hc
  clear cb0 cb1 cb2 cb3 cb4 cb5
  replace hB := hB.trans (hb1.mono hB.size)
  replace kh := kh.later hb1
  replace kb := kb.later hb1
  replace kr := kr.later hb1
  replace hSz := Nat.le_trans hSz hb1.size
  clear hb1
  go_upto_region 2 with fail
  generalize hW2 : World.alloc w1 _ = W2
  have hb2 : Below w1.heap.size w1 W2 := by rw [← hW2]; exact (Below.refl _ _).alloc (Nat.le_refl _) _
  have ko : Bk W2 w1.heap.size #[.int .i64 0, .int .i64 0, .int .i64 0, .int .i64 0, .int .i64 0, .int .i64 0, .slice none 0 0] 28 := by rw [← hW2]; exact blk_new _ _ _ rfl
  clear hW2
  replace hB := hB.trans (hb2.mono hB.size)
  replace kh := kh.later hb2
  replace kb := kb.later hb2
  replace kr := kr.later hb2
  replace hSz := Nat.le_trans hSz hb2.size
  clear hb2
  have cr0 := kr.cell 0 rfl
  have cr1 := kr.cell 1 rfl
  have cr2 := kr.cell 2 rfl
  have cr3 := kr.cell 3 rfl
  have cr4 := kr.cell 4 rfl
  have cr5 := kr.cell 5 rfl
  have cr6 := kr.cell 6 rfl
  have fr0 := kr.frozen 0
  have fr1 := kr.frozen 1
  have fr2 := kr.frozen 2
  have fr3 := kr.frozen 3
  have fr4 := kr.frozen 4
  have fr5 := kr.frozen 5
  have fr6 := kr.frozen 6
  go_wp2_with fail
  replace kr := kr.put7 (.int .i64 0) (.int .i64 0) (.int .i64 0) (.int .i64 0) (.int .i64 0) (.int .i64 0) (.slice none 0 0)
  have z0 := kr.cell 0 rfl
  have z1 := kr.cell 1 rfl
  have z2 := kr.cell 2 rfl
  have z3 := kr.cell 3 rfl
  have z4 := kr.cell 4 rfl
  have z5 := kr.cell 5 rfl
  have z6 := kr.cell 6 rfl
  exact bodyPost_ret (v := .tuple #[.agg #[.int .i64 0, .int .i64 0, .int .i64 0, .int .i64 0, .int .i64 0, .int .i64 0, .slice none 0 0], .int .i64 ee]) (by simp [results, Tryz.results29, go_sem, z0, z1, z2, z3, z4, z5, z6]) rfl ⟨rfl, blw7 hB (by omega) _ _ _ _ _ _ _⟩
set_option maxRecDepth 100000 in
set_option maxHeartbeats 1000000 in
theorem crop_full (a b c d e f a2 b2 c2 d2 e2 f2 : Int) (ha : Option Addr) (hcp n : Nat) (ys : List Int) (h0 : newE ⟨⟨a, b, c⟩, ⟨d, e, f⟩⟩ 0 = 0) (hem : emptyB ⟨⟨a, b, c⟩, ⟨d, e, f⟩⟩ = false) (hn : volB ⟨⟨a, b, c⟩, ⟨d, e, f⟩⟩ = (n : Int)) (hSB : Small ⟨⟨a2, b2, c2⟩, ⟨d2, e2, f2⟩⟩ 1048575)
    (hyl : ys.length = (volB ⟨⟨a2, b2, c2⟩, ⟨d2, e2, f2⟩⟩).toNat) (hY : ys.length ≤ 4194304) (hcap : ys.length ≤ hcp) (w : World) (hx : Sl w .i64 ha ys) :
    Calls Tryz.prog 29 #[.agg #[.int .i64 a2, .int .i64 b2, .int .i64 c2, .int .i64 d2, .int .i64 e2, .int .i64 f2, .slice ha ys.length hcp], .agg #[.int .i64 a, .int .i64 b, .int .i64 c, .int .i64 d, .int .i64 e, .int .i64 f]] w (RetG a b c d e f (cellsOf ⟨⟨a, b, c⟩, ⟨d, e, f⟩⟩ (cellG ⟨⟨a2, b2, c2⟩, ⟨d2, e2, f2⟩⟩ ys)) 0 w) := by
  have hok : okB ⟨⟨a, b, c⟩, ⟨d, e, f⟩⟩ = true ∧ volB ⟨⟨a, b, c⟩, ⟨d, e, f⟩⟩ ≤ 2097152 := by
    unfold newE at h0
    split at h0
    · cases h0
    · rename_i h1
      split at h0
      · cases h0
      · exact ⟨by cases h : okB ⟨⟨a, b, c⟩, ⟨d, e, f⟩⟩ <;> simp_all, by omega⟩
  have hnn : (volB ⟨⟨a, b, c⟩, ⟨d, e, f⟩⟩).toNat = n := by omega
  have hpos := atB_pos hem
  have hc := Bx.mk fun W => new_full a b c d e f 0 h0 hem n hn W
  have hp := Bx.mk fun pa pc W h1 h2 => paste_any a b c d e f a2 b2 c2 d2 e2 f2 pa ha pc hcp (List.replicate n 0) ys W (okB_small hok.1) hSB (by rw [List.length_replicate, hnn]) hyl (by rw [List.length_replicate]; omega) (by rw [List.length_replicate]; omega) hY hcap h1 h2
  rw [crop_law hnn, List.length_replicate] at hp
  have hz := Bx.mk ((cellsOf_length ⟨⟨a, b, c⟩, ⟨d, e, f⟩⟩ (cellG ⟨⟨a2, b2, c2⟩, ⟨d2, e2, f2⟩⟩ ys)).trans hnn)
  have Hx := Bx.mk hx
  clear h0 hem hn hSB hyl hY hcap hx hok hpos hnn
  generalize cellsOf ⟨⟨a, b, c⟩, ⟨d, e, f⟩⟩ (cellG ⟨⟨a2, b2, c2⟩, ⟨d2, e2, f2⟩⟩ ys) = zs at *
  go_enter Tryz.func29, Tryz.ntmps29
  go_wp2_with fail
  generalize hW : World.alloc (World.alloc (World.alloc w _) _) _ = W
  have hSz : w.heap.size + 1 + 1 + 1 ≤ W.heap.size := by rw [← hW]; simp
  have hB : Below w.heap.size w W := by rw [← hW]; exact (((Below.refl _ _).alloc (Nat.le_refl _) _).alloc (by simp) _).alloc (by simp; omega) _
  have kh : Bk W (w.heap.size) #[.int .i64 a2, .int .i64 b2, .int .i64 c2, .int .i64 d2, .int .i64 e2, .int .i64 f2, .slice ha ys.length hcp] 28 := by rw [← hW]; exact blk_old (blk_old (blk_new _ _ _ (by simp)))
  have kb : Bk W (w.heap.size + 1) #[.int .i64 a, .int .i64 b, .int .i64 c, .int .i64 d, .int .i64 e, .int .i64 f] 25 := by rw [← hW]; exact blk_old (blk_new _ _ _ (by simp))
  have kr : Bk W (w.heap.size + 1 + 1) #[.int .i64 0, .int .i64 0, .int .i64 0, .int .i64 0, .int .i64 0, .int .i64 0, .slice none 0 0] 28 := by rw [← hW]; exact blk_new _ _ _ (by simp)
  clear hW
  have cb0 := kb.cell 0 rfl
  have cb1 := kb.cell 1 rfl
  have cb2 := kb.cell 2 rfl
  have cb3 := kb.cell 3 rfl
  have cb4 := kb.cell 4 rfl
  have cb5 := kb.cell 5 rfl
  go_wp2_with fail
  refine (hc.out _).mono ?_
  rintro e' w1 ⟨pa, pc, rfl, ho, hb1⟩
  rw [List.length_replicate] at ho ⊢
  have hx1 := (Hx.out.below hB).below hb1
  obtain ⟨Bd, hBd⟩ : ∃ Bd, Bd = W.heap.size := ⟨_, rfl⟩
  rw [← hBd] at ho
  have hSd : w.heap.size + 3 ≤ Bd := by omega
  clear hc Hx hBd
  clear cb0 cb1 cb2 cb3 cb4 cb5
  replace hB := hB.trans (hb1.mono hB.size)
  replace kh := kh.later hb1
  replace kb := kb.later hb1
  replace kr := kr.later hb1
  replace hSz := Nat.le_trans hSz hb1.size
  clear hb1
  go_upto_region 2 with fail
  obtain ⟨go, hgo⟩ : ∃ go, go = w1.heap.size := ⟨_, rfl⟩
  generalize hW2 : World.alloc w1 _ = W2
  have hb2 : Below w1.heap.size w1 W2 := by rw [← hW2]; exact (Below.refl _ _).alloc (Nat.le_refl _) _
  have ko : Bk W2 go #[.int .i64 a, .int .i64 b, .int .i64 c, .int .i64 d, .int .i64 e, .int .i64 f, .slice pa n pc] 28 := by rw [hgo, ← hW2]; exact blk_new _ _ _ rfl
  have hx2 := hx1.below hb2
  have ho2 := ho.sl.below hb2
  rw [← hgo]
  have hgl : w.heap.size ≤ go := by omega
  clear hW2 ho hx1
  replace hB := hB.trans (hb2.mono hB.size)
  replace kh := kh.later hb2
  replace kb := kb.later hb2
  replace kr := kr.later hb2
  replace hSz := Nat.le_trans hSz hb2.size
  clear hb2
  have ch0 := kh.cell 0 rfl
  have ch1 := kh.cell 1 rfl
  have ch2 := kh.cell 2 rfl
  have ch3 := kh.cell 3 rfl
  have ch4 := kh.cell 4 rfl
  have ch5 := kh.cell 5 rfl
  have ch6 := kh.cell 6 rfl
  have co0 := ko.cell 0 rfl
  have co1 := ko.cell 1 rfl
  have co2 := ko.cell 2 rfl
  have co3 := ko.cell 3 rfl
  have co4 := ko.cell 4 rfl
  have co5 := ko.cell 5 rfl
  have co6 := ko.cell 6 rfl
  clear hgo
  have Hx := Bx.mk hx2
  have Ho := Bx.mk ho2
  clear hx2 ho2
  go_wp2_with fail
  refine (hp.out pa pc _ Hx.out Ho.out).mono ?_
  rintro e' w3 ⟨qa, qc, rfl, -, hown, hb3⟩
  obtain ⟨Be, hBe⟩ : ∃ Be, Be = W2.heap.size := ⟨_, rfl⟩
  rw [← hBe] at hown
  have hSe : w.heap.size + 3 ≤ Be := by omega
  have Ho2 := Bx.mk hown
  clear hown hBe hp Hx Ho
  clear ch0 ch1 ch2 ch3 ch4 ch5 ch6 co0 co1 co2 co3 co4 co5 co6
  replace hB := hB.trans (hb3.mono hB.size)
  replace kh := kh.later hb3
  replace kb := kb.later hb3
  replace kr := kr.later hb3
  replace hSz := Nat.le_trans hSz hb3.size
  clear hb3
  have cr0 := kr.cell 0 rfl
  have cr1 := kr.cell 1 rfl
  have cr2 := kr.cell 2 rfl
  have cr3 := kr.cell 3 rfl
  have cr4 := kr.cell 4 rfl
  have cr5 := kr.cell 5 rfl
  have cr6 := kr.cell 6 rfl
  have fr0 := kr.frozen 0
  have fr1 := kr.frozen 1
  have fr2 := kr.frozen 2
  have fr3 := kr.frozen 3
  have fr4 := kr.frozen 4
  have fr5 := kr.frozen 5
  have fr6 := kr.frozen 6
  go_wp2_with fail
  replace kr := kr.put7 (.int .i64 a) (.int .i64 b) (.int .i64 c) (.int .i64 d) (.int .i64 e) (.int .i64 f) (.slice qa n qc)
  have z0 := kr.cell 0 rfl
  have z1 := kr.cell 1 rfl
  have z2 := kr.cell 2 rfl
  have z3 := kr.cell 3 rfl
  have z4 := kr.cell 4 rfl
  have z5 := kr.cell 5 rfl
  have z6 := kr.cell 6 rfl
  exact bodyPost_ret (v := .tuple #[.agg #[.int .i64 a, .int .i64 b, .int .i64 c, .int .i64 d, .int .i64 e, .int .i64 f, .slice qa n qc], .int .i64 0]) (by simp [results, Tryz.results29, go_sem, z0, z1, z2, z3, z4, z5, z6]) rfl ⟨qa, qc, by rw [hz.out], by
    rw [hz.out]
    exact (((((((Ho2.out.setBelow (by simp; omega) _).setBelow (by simp; omega) _).setBelow (by simp; omega) _).setBelow (by simp; omega) _).setBelow (by simp; omega) _).setBelow (by simp; omega) _).setBelow (by simp; omega) _).base (by omega), blw7 hB (by omega) _ _ _ _ _ _ _⟩
end Go.Proofs.YtabclecmehdeoaaGreat
end
