/- The program's Read and Write. -/
import Derived.Test.YtaajkhdmeghnbaaNow
namespace Go.Proofs.Ytaajkhdmeghnbaa
open Go.RowKit Go.Sort

theorem ret_si {s t : ByteArray} {a b : Int} (h : s = t) (h' : a = b) : Ending.returned (.tuple #[.string s, .int .i64 a]) = Ending.returned (.tuple #[.string t, .int .i64 b]) := by rw [h, h']
theorem is_at {d : Dk} {i : Int} (h : d.is i = true) : ∃ k x, i = ((k : Nat) : Int) ∧ d.p[k]? = some x := by
  unfold Dk.is at h
  simp only [Bool.and_eq_true, decide_eq_true_eq] at h
  obtain ⟨k, rfl⟩ := Int.eq_ofNat_of_zero_le h.1
  exact ⟨k, d.p[k]'(by omega), rfl, List.getElem?_eq_getElem _⟩
theorem read_any (w : World) (p g mb cap m : Nat) (d : Dk) (h : DkIs w p g mb cap m d) (i : Int) :
    Calls Try.prog 18 #[.pointer (some ⟨p, 0, none⟩), .int .i64 i] w fun e w' => e = .returned (.tuple #[.string (strOfNums (d.read i).1), .int .i64 (d.read i).2]) ∧ Below w.heap.size w w' := by
  have c2 := h.kp.cell 2 rfl
  have hIs := Bx.mk (is_any w p g mb cap m d h i)
  by_cases ho : d.off = true
  · have hr : d.read i = ([], 20) := by unfold Dk.read eDown; rw [if_pos ho]
    rw [hr]
    clear h hr hIs
    go_enter Try.func18, Try.ntmps18
    go_wp2
    go_ret2
    exact ⟨rfl, Below.refl _ _⟩
  · replace ho : d.off = false := by simpa using ho
    by_cases hi : d.is i = true
    · obtain ⟨k, x, rfl, hx⟩ := is_at hi
      have hr : d.read k = (x.now, 0) := by unfold Dk.read; rw [ho, hi, Int.toNat_natCast, hx]; rfl
      rw [hr]
      have hN := Bx.mk (now_any w p g mb cap m d h k x hx)
      have hT := Bx.mk fun W => text_any W x.now (h.ok.pages x (List.mem_of_getElem? hx)).now.1
      rw [hi] at hIs
      clear h hr hx hi
      generalize x.now = xs at *
      generalize d.off = O at *
      subst ho
      go_enter Try.func18, Try.ntmps18
      go_wp2_with (first
        | (go_at_call 43; refine hIs.out.mono ?_; rintro _ _ ⟨rfl, rfl⟩)
        | (go_at_call 44; refine hN.out.mono ?_; rintro _ w1 ⟨rfl, hb1⟩))
      refine (hT.out _).mono ?_
      rintro _ w2 ⟨rfl, hb2⟩
      go_wp2
      go_ret2
      exact ⟨rfl, hb1.trans (hb2.mono hb1.size)⟩
    · replace hi : d.is i = false := by simpa using hi
      have hr : d.read i = ([], 1) := by unfold Dk.read eArg; rw [ho, hi]; rfl
      rw [hr]
      rw [hi] at hIs
      clear h hr hi
      go_enter Try.func18, Try.ntmps18
      go_wp2_with (go_at_call 43; refine hIs.out.mono ?_; rintro _ _ ⟨rfl, rfl⟩)
      go_ret2
      exact ⟨rfl, Below.refl _ _⟩
def WritePost (p g mb cap m : Nat) (w : World) (d' : Dk) (n : Int) (e : Ending) (w' : World) : Prop := e = .returned (.int .i64 n) ∧ DkIs w' p g mb cap m d' ∧ Chg (In3 p g mb) w w'
theorem DkIs.chgP {w w' : World} {p g mb : Nat} (h : Chg (· = p) w w') : Chg (In3 p g mb) w w' := h.mono fun _ _ e => .inl e
/-- a write that the arguments do not permit -/
theorem write_bad (w : World) (p g mb cap m : Nat) (d : Dk) (h : DkIs w p g mb cap m d) (i at_ : Int) (s : List Int) (_hs : s.length ≤ 300) (hat : -9223372036854775808 ≤ at_ ∧ at_ ≤ 9223372036854775807)
    (hb : d.off = true ∨ (d.is i && decide (0 ≤ at_) && decide (at_ ≤ 128) && decide ((s.length : Int) ≤ 128 - at_)) = false) :
    Calls Try.prog 21 #[.pointer (some ⟨p, 0, none⟩), .int .i64 i, .int .i64 at_, .string (strOfNums s)] w (WritePost p g mb cap m w d (if d.off = true then 20 else 1)) := by
  have H := Bx.mk h
  have c2 := h.kp.cell 2 rfl
  have hIs := Bx.mk (is_any w p g mb cap m d h i)
  have hsz : (strOfNums s).size = s.length := strOfNums_size s
  clear h
  by_cases ho : d.off = true
  · rw [if_pos ho]
    clear hb hIs
    go_enter Try.func21, Try.ntmps21
    go_wp2
    go_ret
    exact ⟨rfl, H.out, Chg.refl _ _⟩
  · rw [if_neg ho]
    replace hb := hb.resolve_left ho
    replace ho : d.off = false := by simpa using ho
    by_cases hi : d.is i = true
    · rw [hi] at hIs hb
      by_cases h1 : 0 ≤ at_
      · have t1 : decide (at_ < 0) = false := by simp; omega
        by_cases h2 : at_ ≤ 128
        · have t2 : decide (128 < at_) = false := by simp; omega
          have h3 : 128 - at_ < (s.length : Int) := by simpa [h1, h2] using hb
          have t3 : decide (128 - at_ < (s.length : Int)) = true := by simpa using h3
          clear hb
          go_enter Try.func21, Try.ntmps21
          go_wp2_with (go_at_call 43; refine hIs.out.mono ?_; rintro _ _ ⟨rfl, rfl⟩)
          go_ret
          exact ⟨rfl, H.out, Chg.refl _ _⟩
        · have t2 : decide (128 < at_) = true := by simp; omega
          clear hb
          go_enter Try.func21, Try.ntmps21
          go_wp2_with (go_at_call 43; refine hIs.out.mono ?_; rintro _ _ ⟨rfl, rfl⟩)
          go_ret
          exact ⟨rfl, H.out, Chg.refl _ _⟩
      · have t1 : decide (at_ < 0) = true := by simp; omega
        clear hb
        go_enter Try.func21, Try.ntmps21
        go_wp2_with (go_at_call 43; refine hIs.out.mono ?_; rintro _ _ ⟨rfl, rfl⟩)
        go_ret
        exact ⟨rfl, H.out, Chg.refl _ _⟩
    · replace hi : d.is i = false := by simpa using hi
      rw [hi] at hIs
      clear hb
      go_enter Try.func21, Try.ntmps21
      go_wp2_with (go_at_call 43; refine hIs.out.mono ?_; rintro _ _ ⟨rfl, rfl⟩)
      go_ret
      exact ⟨rfl, H.out, Chg.refl _ _⟩
/-- a write at which the power fails -/
theorem write_down (w : World) (p g mb cap m : Nat) (d : Dk) (h : DkIs w p g mb cap m d) (i : Int) (at_ : Nat) (s : List Int) (ho : d.off = false) (hi : d.is i = true) (hat : at_ + s.length ≤ 128) (hst : d.step.2 = false) :
    Calls Try.prog 21 #[.pointer (some ⟨p, 0, none⟩), .int .i64 i, .int .i64 (at_ : Int), .string (strOfNums s)] w (WritePost p g mb cap m w d.step.1 20) := by
  have c2 := h.kp.cell 2 rfl
  have hIs := Bx.mk (is_any w p g mb cap m d h i)
  have hSt := Bx.mk (step_any w p g mb cap m d h)
  have hsz : (strOfNums s).size = s.length := strOfNums_size s
  rw [hi] at hIs
  rw [hst, show errS false = 20 from rfl] at hSt
  have t1 : decide ((at_ : Int) < 0) = false := by simp
  have t2 : decide (128 < (at_ : Int)) = false := by simp; omega
  have t3 : decide (128 - (at_ : Int) < (s.length : Int)) = false := by simp; omega
  clear h hi hst
  go_enter Try.func21, Try.ntmps21
  go_wp2_with (first
    | (go_at_call 43; refine hIs.out.mono ?_; rintro _ _ ⟨rfl, rfl⟩)
    | (go_at_call 46; refine hSt.out.mono ?_; rintro _ w1 ⟨rfl, hd, hc⟩; replace hd := Bx.mk hd; replace hc := Bx.mk hc))
  go_ret
  exact ⟨rfl, hd.out, DkIs.chgP hc.out⟩
theorem step_p (d : Dk) : d.step.1.p = d.p := by
  unfold Dk.step
  split
  · rfl
  · split <;> rfl
theorem put_len {old : List Int} {at_ : Nat} {s : List Int} (h : old.length = 128) (ha : at_ + s.length ≤ 128) : (put old at_ s).length = 128 := by
  unfold put
  simp only [List.length_append, List.length_take, List.length_drop]
  omega
theorem DkOk.put {d : Dk} (h : DkOk d) {i : Nat} (f : Pg → Pg) (hf : ∀ x, d.p[i]? = some x → PgOk x → PgOk (f x)) : DkOk { d with p := d.p.modify i f } := by
  refine ⟨fun x hx => ?_, h.lo, h.hi, by show (d.p.modify i f).length ≤ 40; rw [List.length_modify]; exact h.few⟩
  obtain ⟨k, hk⟩ := List.getElem?_of_mem hx
  rw [List.getElem?_modify] at hk
  cases hp : d.p[k]? with
  | none => rw [hp] at hk; cases hk
  | some y =>
    have hy := h.pages y (List.mem_of_getElem? hp)
    rw [hp] at hk
    by_cases e : i = k
    · subst e
      simp only [if_true] at hk
      replace hk : f y = x := by injection hk
      rw [← hk]; exact hf y hp hy
    · simp only [if_neg e] at hk
      replace hk : y = x := by simpa using hk
      rw [← hk]; exact hy
set_option maxRecDepth 100000 in
theorem write_ok (w : World) (p g mb cap m : Nat) (d : Dk) (h : DkIs w p g mb cap m d) (hm : m < 1000000) (i at_ : Nat) (x : Pg) (hx : d.p[i]? = some x) (s : List Int) (hs : Byt s) (ho : d.off = false) (hat : at_ + s.length ≤ 128) (hst : d.step.2 = true) :
    Calls Try.prog 21 #[.pointer (some ⟨p, 0, none⟩), .int .i64 (i : Int), .int .i64 (at_ : Int), .string (strOfNums s)] w
      (WritePost p g mb cap (m + 1) w { d.step.1 with p := d.step.1.p.modify i fun x => (x.1, some (put x.now at_ s)) } 0) := by
  have c2 := h.kp.cell 2 rfl
  have hi : d.is i = true := by
    have := (List.getElem?_eq_some_iff.1 hx).1
    unfold Dk.is; simp; omega
  have hIs := Bx.mk (is_any w p g mb cap m d h i)
  have hSt := Bx.mk (step_any w p g mb cap m d h)
  have hsz : (strOfNums s).size = s.length := strOfNums_size s
  have hP := h.ok.pages x (List.mem_of_getElem? hx)
  have hX := Bx.mk (show d.step.1.p[i]? = some x by rw [step_p]; exact hx)
  rw [hi] at hIs
  rw [hst, show errS true = 0 from rfl] at hSt
  have t1 : decide ((at_ : Int) < 0) = false := by simp
  have t2 : decide (128 < (at_ : Int)) = false := by simp; omega
  have t3 : decide (128 - (at_ : Int) < (s.length : Int)) = false := by simp; omega
  clear h hi hst hx
  generalize d.step.1 = d1 at *
  have HI := Bx.mk pgInfo
  have l1 := hP.now
  have s1 := Bx.mk (HI.out _ ((row_cells x.now .u8).trans l1.1))
  have hZ : Bx (Try.zeroCells72.size = 128) := ⟨by kernel_rfl⟩
  have s2 := Bx.mk (show Try.zeroCells72.size = (x.now.map (Value.int .u8)).toArray.size by rw [row_cells, hZ.out, l1.1])
  have s3 := Bx.mk (one_ints .u8 x.now)
  go_enter Try.func21, Try.ntmps21
  go_upto_region 8 with (first
    | (go_at_call 43; refine hIs.out.mono ?_; rintro _ _ ⟨rfl, rfl⟩)
    | (go_at_call 46; refine hSt.out.mono ?_; rintro _ w1 ⟨rfl, hd, hc⟩; replace hd := Bx.mk hd; replace hc := Bx.mk hc))
  have hN := Bx.mk (now_any w1 p g mb cap m d1 hd.out i x hX.out)
  clear hIs hSt t1 t2 t3 c2
  unfold arrV at hN
  go_upto_region 9 with (first
    | (go_at_call 44; refine hN.out.mono ?_; rintro _ w2 ⟨rfl, hb2⟩; replace hb2 := Bx.mk hb2)
    | refine wpList_store_whole rfl _ _ _ rfl w2.heap.size rfl _ _ rfl _ (heap_alloc_new w2 (.cells Try.zeroCells72 72)) s1.out s2.out s3.out ?_)
  simp only [Act.put]
  generalize hW : World.setRow (World.alloc w2 _) _ _ = W3
  have kq : Bx (Bk W3 w2.heap.size (x.now.map (Value.int .u8)).toArray 72) := by rw [← hW]; exact ⟨setRow_heap _ _ _ _ _ (0, 0) (heap_alloc_new _ _)⟩
  have hb3 : Bx (Below w2.heap.size w2 W3) := by rw [← hW]; exact ⟨below_setRow ((Below.refl _ _).alloc (Nat.le_refl _) _) (Nat.le_refl _) _⟩
  clear hW
  have u8i : Bx ((Try.prog.info? 5).map (·.size) = some 1) := ⟨by kernel_rfl⟩
  have b1 : (0 : Int) ≤ (at_ : Int) := by omega
  have b2 : (at_ : Int) ≤ 128 := by omega
  obtain ⟨A, hA, e2, e3⟩ : ∃ A, (at_ = 128 ∧ A = 0 ∨ ¬ at_ = 128 ∧ A = at_) ∧ Bx (A + s.length ≤ x.now.length) ∧ Bx (put x.now A s = put x.now at_ s) := by
    by_cases h : at_ = 128
    · subst h
      have hs0 : s = [] := List.eq_nil_of_length_eq_zero (by omega)
      subst hs0
      refine ⟨0, .inl ⟨rfl, rfl⟩, ⟨by simp⟩, ⟨?_⟩⟩
      unfold put
      simp only [List.length_nil, Nat.add_zero, List.take_zero, List.drop_zero, List.append_nil, List.nil_append]
      rw [List.take_append_drop]
    · exact ⟨at_, .inr ⟨h, rfl⟩, ⟨by omega⟩, ⟨rfl⟩⟩
  have hlp := Bx.mk (put_len l1.1 hat)
  have hby : Bx (Byt (put x.now at_ s)) := ⟨((l1.2.take _).append hs).append (l1.2.drop _)⟩
  have hs := Bx.mk hs
  have e1 := Bx.mk (show s.length ≤ 128 - at_ by omega)
  have hD := Bx.mk (hd.out.later (hb2.out.trans (hb3.out.mono hb2.out.size)))
  have hC : Bx (Chg (In3 p g mb) w W3) := ⟨((DkIs.chgP hc.out).later hb2.out hc.out.size).later hb3.out (Nat.le_trans hc.out.size hb2.out.size)⟩
  have hq0 : Bx (w.heap.size ≤ w2.heap.size ∧ p ≠ w2.heap.size ∧ g ≠ w2.heap.size ∧ mb ≠ w2.heap.size) := ⟨Nat.le_trans hc.out.size hb2.out.size, by have := hd.out.lt; have := hb2.out.size; omega, by have := hd.out.lt; have := hb2.out.size; omega, by have := hd.out.lt; have := hb2.out.size; omega⟩
  clear hc hd hb2 hb3 hN s2 s3 hZ hP
  generalize hY : put x.now at_ s = Y at *
  have hY := Bx.mk hY
  rcases hA with ⟨rfl, rfl⟩ | ⟨h128, rfl⟩
  · go_upto_region 10 with (refine wpList_copy_str rfl _ _ _ _ rfl 5 Try.underlying75 u8i.out w2.heap.size _ _ _ rfl x.now s hs.out rfl 72 kq.out e1.out e2.out ?_)
    generalize hW : World.setRow W3 _ _ = W4
    simp only [Act.put]
    have kq4 : Bk W4 w2.heap.size (Y.map (Value.int .u8)).toArray 72 := by rw [← hW, ← e3.out]; exact setRow_heap _ _ _ _ _ (0, 0) kq.out
    have hC4 : Bx (Chg (In3 p g mb) w W4) := by
      rw [← hW]
      exact ⟨⟨hC.out.os, hC.out.tape, hC.out.output, by simpa [World.setRow] using hC.out.size, fun k hk hn => (setRow_other W3 _ k _ (by have := hq0.out.1; omega)).trans (hC.out.block k hk hn)⟩⟩
    have hD4 : DkIs W4 p g mb cap m d1 := by
      rw [← hW]
      exact hD.out.chg (S := (· = w2.heap.size)) ⟨rfl, rfl, rfl, by simp [World.setRow], fun k _ hn => setRow_other W3 _ k _ hn⟩ (fun k hk e => by
        rcases hk with rfl | rfl | rfl
        · exact hq0.out.2.1 e
        · exact hq0.out.2.2.1 e
        · exact hq0.out.2.2.2 e)
    clear hW kq hD hC e2 e3
    have c1 : ∀ dk osk, (grow (redrawn W4 dk) osk).cell? ⟨p, 1, none⟩ = some (.map (some mb)) := cell_regrown (hD4.kp.cell 1 rfl)
    have hrg : Bx (∀ W, (∃ P : Regrown, W = grow (redrawn W4 P.d) P.os) → W.rangeAt w2.heap.size 0 (Y.map (Value.int .u8))) := ⟨by
      rintro _ ⟨P, rfl⟩ j v hv
      refine cell_regrown (?_) _ _
      rw [Nat.zero_add]
      exact kq4.cell j (by rw [List.getElem?_toArray]; exact hv)⟩
    have hY1 := Bx.mk (HI.out _ ((row_cells Y .u8).trans hlp.out))
    refine wp_region_head_below 6 (by kernel_rfl) (by kernel_rfl) ?_
    simp only [List.take_succ_cons, List.take_zero, List.drop_succ_cons, List.drop_zero]
    repeat (first
      | refine wpQuiet_load_mid rfl _ _ rfl w2.heap.size 0 rfl _ _ hrg.out Try.underlying72 rfl (by have := hY1.out; rwa [List.size_toArray] at this) ?_
      | go_big_quiet_step (fail) | quiet_step (fail))
    refine wpQuiet_nil ?_
    rintro _ ⟨⟨dq, osq⟩, rfl⟩
    have hb5 := below_regrown W4 dq osq
    have hD5 := hD4.later hb5
    have hC5 := hC4.out.later hb5 hC4.out.size
    clear c1 hrg hC4 hD4 kq4 hb5
    generalize grow (redrawn W4 dq) osq = W5 at *
    have hiL := (List.getElem?_eq_some_iff.1 hX.out).1
    have hfew := hD5.ok.few
    have hf : ∀ y, d1.p[i]? = some y → ((fun x : Pg => (x.1, some (put x.now 128 s))) y).2 = some Y := fun y hy => by rw [hX.out] at hy; injection hy with hy; rw [← hy]; exact congrArg some hY.out
    obtain ⟨W6, hrun, hm6, hg6⟩ := hD5.km.put (by unfold maxLen; omega) hiL (by omega) (fun x : Pg => (x.1, some (put x.now 128 s))) hlp.out hf
    have hD6 : Bx (DkIs W6 p g mb cap (m + 1) { d1 with p := d1.p.modify i fun x => (x.1, some (put x.now 128 s)) }) := by
      have hne := hD5.ne
      have hmap : (d1.p.modify i fun x : Pg => (x.1, some (put x.now 128 s))).map (·.1) = d1.p.map (·.1) := by
        apply List.ext_getElem?
        intro k
        rw [List.getElem?_map, List.getElem?_map, List.getElem?_modify]
        cases d1.p[k]? with
        | none => rfl
        | some y => by_cases e : i = k <;> simp [e]
      have hl : (d1.p.modify i fun x : Pg => (x.1, some (put x.now 128 s))).length = d1.p.length := List.length_modify ..
      refine ⟨⟨hD5.ok.put _ fun y hy hy2 => ?_, ?_, ?_, ?_, (hD5.pg.chg hg6 (fun e => hne.2.1 e)).same hmap, hm6, hne⟩⟩
      · refine ⟨hy2.1, hy2.2.1, fun n hn => ?_⟩
        have := (hf y hy).symm.trans hn
        injection this with this
        rw [← this]
        exact ⟨hlp.out, hby.out⟩
      · show 0 < (d1.p.modify i _).length
        rw [hl]; exact hD5.pos
      · show (d1.p.modify i _).length ≤ cap ∧ _
        rw [hl]; exact hD5.hcap
      · show Bk W6 p #[.slice _ (d1.p.modify i _).length cap, _, _, _] _
        rw [hl]; exact hD5.kp.chg hg6 (fun e => hne.2.2 e)
    have hC6 : Bx (Chg (In3 p g mb) w W6) := ⟨hC5.trans hg6 fun k _ e => .inr (.inr e)⟩
    clear hm6 hg6 hf hD5 hC5
    unfold arrV at hrun
    go_wp2
    go_ret
    exact ⟨rfl, hD6.out, hC6.out⟩
  · go_upto_region 10 with (refine wpList_copy_str rfl _ _ _ _ rfl 5 Try.underlying75 u8i.out w2.heap.size _ _ _ rfl x.now s hs.out rfl 72 kq.out e1.out e2.out ?_)
    generalize hW : World.setRow W3 _ _ = W4
    simp only [Act.put]
    have kq4 : Bk W4 w2.heap.size (Y.map (Value.int .u8)).toArray 72 := by rw [← hW, ← e3.out]; exact setRow_heap _ _ _ _ _ (0, 0) kq.out
    have hC4 : Bx (Chg (In3 p g mb) w W4) := by
      rw [← hW]
      exact ⟨⟨hC.out.os, hC.out.tape, hC.out.output, by simpa [World.setRow] using hC.out.size, fun k hk hn => (setRow_other W3 _ k _ (by have := hq0.out.1; omega)).trans (hC.out.block k hk hn)⟩⟩
    have hD4 : DkIs W4 p g mb cap m d1 := by
      rw [← hW]
      exact hD.out.chg (S := (· = w2.heap.size)) ⟨rfl, rfl, rfl, by simp [World.setRow], fun k _ hn => setRow_other W3 _ k _ hn⟩ (fun k hk e => by
        rcases hk with rfl | rfl | rfl
        · exact hq0.out.2.1 e
        · exact hq0.out.2.2.1 e
        · exact hq0.out.2.2.2 e)
    clear hW kq hD hC e2 e3
    have c1 : ∀ dk osk, (grow (redrawn W4 dk) osk).cell? ⟨p, 1, none⟩ = some (.map (some mb)) := cell_regrown (hD4.kp.cell 1 rfl)
    have hrg : Bx (∀ W, (∃ P : Regrown, W = grow (redrawn W4 P.d) P.os) → W.rangeAt w2.heap.size 0 (Y.map (Value.int .u8))) := ⟨by
      rintro _ ⟨P, rfl⟩ j v hv
      refine cell_regrown (?_) _ _
      rw [Nat.zero_add]
      exact kq4.cell j (by rw [List.getElem?_toArray]; exact hv)⟩
    have hY1 := Bx.mk (HI.out _ ((row_cells Y .u8).trans hlp.out))
    refine wp_region_head_below 6 (by kernel_rfl) (by kernel_rfl) ?_
    simp only [List.take_succ_cons, List.take_zero, List.drop_succ_cons, List.drop_zero]
    repeat (first
      | refine wpQuiet_load_mid rfl _ _ rfl w2.heap.size 0 rfl _ _ hrg.out Try.underlying72 rfl (by have := hY1.out; rwa [List.size_toArray] at this) ?_
      | go_big_quiet_step (fail) | quiet_step (fail))
    refine wpQuiet_nil ?_
    rintro _ ⟨⟨dq, osq⟩, rfl⟩
    have hb5 := below_regrown W4 dq osq
    have hD5 := hD4.later hb5
    have hC5 := hC4.out.later hb5 hC4.out.size
    clear c1 hrg hC4 hD4 kq4 hb5
    generalize grow (redrawn W4 dq) osq = W5 at *
    have hiL := (List.getElem?_eq_some_iff.1 hX.out).1
    have hfew := hD5.ok.few
    have hf : ∀ y, d1.p[i]? = some y → ((fun x : Pg => (x.1, some (put x.now A s))) y).2 = some Y := fun y hy => by rw [hX.out] at hy; injection hy with hy; rw [← hy]; exact congrArg some hY.out
    obtain ⟨W6, hrun, hm6, hg6⟩ := hD5.km.put (by unfold maxLen; omega) hiL (by omega) (fun x : Pg => (x.1, some (put x.now A s))) hlp.out hf
    have hD6 : Bx (DkIs W6 p g mb cap (m + 1) { d1 with p := d1.p.modify i fun x => (x.1, some (put x.now A s)) }) := by
      have hne := hD5.ne
      have hmap : (d1.p.modify i fun x : Pg => (x.1, some (put x.now A s))).map (·.1) = d1.p.map (·.1) := by
        apply List.ext_getElem?
        intro k
        rw [List.getElem?_map, List.getElem?_map, List.getElem?_modify]
        cases d1.p[k]? with
        | none => rfl
        | some y => by_cases e : i = k <;> simp [e]
      have hl : (d1.p.modify i fun x : Pg => (x.1, some (put x.now A s))).length = d1.p.length := List.length_modify ..
      refine ⟨⟨hD5.ok.put _ fun y hy hy2 => ?_, ?_, ?_, ?_, (hD5.pg.chg hg6 (fun e => hne.2.1 e)).same hmap, hm6, hne⟩⟩
      · refine ⟨hy2.1, hy2.2.1, fun n hn => ?_⟩
        have := (hf y hy).symm.trans hn
        injection this with this
        rw [← this]
        exact ⟨hlp.out, hby.out⟩
      · show 0 < (d1.p.modify i _).length
        rw [hl]; exact hD5.pos
      · show (d1.p.modify i _).length ≤ cap ∧ _
        rw [hl]; exact hD5.hcap
      · show Bk W6 p #[.slice _ (d1.p.modify i _).length cap, _, _, _] _
        rw [hl]; exact hD5.kp.chg hg6 (fun e => hne.2.2 e)
    have hC6 : Bx (Chg (In3 p g mb) w W6) := ⟨hC5.trans hg6 fun k _ e => .inr (.inr e)⟩
    clear hm6 hg6 hf hD5 hC5
    unfold arrV at hrun
    go_wp2
    go_ret
    exact ⟨rfl, hD6.out, hC6.out⟩
end Go.Proofs.Ytaajkhdmeghnbaa
