/- The program's Flush. -/
import Derived.Test.YtaajkhdmeghnbaaWri
namespace Go.Proofs.Ytaajkhdmeghnbaa
open Go.RowKit Go.Sort

theorem flush_off (w : World) (p g mb cap m : Nat) (d : Dk) (h : DkIs w p g mb cap m d) (ho : d.off = true) :
    Calls Try.prog 19 #[.pointer (some ⟨p, 0, none⟩)] w (WritePost p g mb cap m w d 20) := by
  have H := Bx.mk h
  have c2 := h.kp.cell 2 rfl
  clear h
  go_enter Try.func19, Try.ntmps19
  go_wp2
  go_ret
  exact ⟨rfl, H.out, Chg.refl _ _⟩
theorem flush_down (w : World) (p g mb cap m : Nat) (d : Dk) (h : DkIs w p g mb cap m d) (ho : d.off = false) (hst : d.step.2 = false) :
    Calls Try.prog 19 #[.pointer (some ⟨p, 0, none⟩)] w (WritePost p g mb cap m w d.step.1 20) := by
  have c2 := h.kp.cell 2 rfl
  have hSt := Bx.mk (step_any w p g mb cap m d h)
  rw [hst, show errS false = 20 from rfl] at hSt
  clear h hst
  go_enter Try.func19, Try.ntmps19
  go_wp2_with (go_at_call 46; refine hSt.out.mono ?_; rintro _ w1 ⟨rfl, hd, hc⟩; replace hd := Bx.mk hd; replace hc := Bx.mk hc)
  go_ret
  exact ⟨rfl, hd.out, DkIs.chgP hc.out⟩
/-- the pages of which the pending content is no longer to come -/
def fl (p : List Pg) (L : Nat → Bool) : List Pg := p.mapIdx fun i x => if L i = true then x else (x.now, x.2)
theorem fl_len (p : List Pg) (L : Nat → Bool) : (fl p L).length = p.length := by unfold fl; rw [List.length_mapIdx]
theorem fl_at {p : List Pg} {i : Nat} {x : Pg} (h : p[i]? = some x) (L : Nat → Bool) : (fl p L)[i]? = some (if L i = true then x else (x.now, x.2)) := by
  unfold fl
  rw [List.getElem?_mapIdx, h]; rfl
theorem fl_start (p : List Pg) : fl p (fun i => (p[i]?.bind (·.2)).isSome) = p := by
  apply List.ext_getElem?
  intro i
  cases h : p[i]? with
  | none => rw [List.getElem?_eq_none_iff.2 (by rw [fl_len]; exact List.getElem?_eq_none_iff.1 h)]
  | some x =>
    rw [fl_at h, h]
    obtain ⟨o, n⟩ := x
    cases n <;> rfl
theorem fl_step {p : List Pg} {i : Nat} {n : List Int} (L : Nat → Bool) (hp : p[i]?.bind (·.2) = some n) (hL : L i = true) : fl p (fun j => L j && !decide (j = i)) = (fl p L).modify i fun x => (n, x.2) := by
  apply List.ext_getElem?
  intro j
  rw [List.getElem?_modify]
  cases h : p[j]? with
  | none =>
    have := List.getElem?_eq_none_iff.1 h
    rw [List.getElem?_eq_none_iff.2 (by rw [fl_len]; exact this), List.getElem?_eq_none_iff.2 (by rw [fl_len]; exact this)]; rfl
  | some x =>
    rw [fl_at h, fl_at h]
    by_cases e : i = j
    · subst e
      rw [h, Option.bind_some] at hp
      simp only [decide_true, Bool.not_true, Bool.and_false, Bool.false_eq_true, if_false, if_true, hL]
      simp only [Pg.now, hp, Option.getD_some]
      show some (n, some n) = some (n, x.2)
      rw [hp]
    · have e2 : ¬ j = i := fun h => e h.symm
      simp [e, e2]
theorem fl_end {p : List Pg} {L : Nat → Bool} (hL : ∀ i, i < p.length → L i = false) : (fl p L).map (·.1) = (p.map fun x => (x.now, (none : Option (List Int)))).map (·.1) := by
  rw [List.map_map]
  apply List.ext_getElem?
  intro i
  rw [List.getElem?_map, List.getElem?_map]
  cases h : p[i]? with
  | none => rw [List.getElem?_eq_none_iff.2 (by rw [fl_len]; exact List.getElem?_eq_none_iff.1 h)]; rfl
  | some x =>
    have hi := (List.getElem?_eq_some_iff.1 h).1
    rw [fl_at h, hL i hi]; rfl
theorem fl_ok {p : List Pg} (h : ∀ x ∈ p, PgOk x) (L : Nat → Bool) : ∀ x ∈ fl p L, x.1.length = 128 := fun x hx => by
  obtain ⟨i, hi⟩ := List.getElem?_of_mem hx
  cases hp : p[i]? with
  | none => rw [List.getElem?_eq_none_iff.2 (by rw [fl_len]; exact List.getElem?_eq_none_iff.1 hp)] at hi; cases hi
  | some y =>
    rw [fl_at hp] at hi
    injection hi with hi
    have hy := h y (List.mem_of_getElem? hp)
    rw [← hi]
    split
    · exact hy.1
    · exact hy.now.1
theorem put_all {old s : List Int} (h : old.length = s.length) : put old 0 s = s := by
  unfold put
  rw [List.take_zero, Nat.zero_add, List.drop_of_length_le (by omega), List.append_nil, List.nil_append]
/-- what lies in memory while Flush ranges over the pending pages -/
structure FlI (w : World) (p g mb cap m : Nat) (d : Dk) (r : Nat) (L : Nat → Bool) (cnt : Nat) (wr : World) : Prop where
  rng : PgRng wr mb r m d.p L cnt
  kp : Bk wr p #[.slice (some ⟨g, 0, none⟩) d.p.length cap, .map (some mb), .bool d.off, .int .i64 d.trip] 69
  pg : Pages wr g (fl d.p L)
  ch : Chg (In3 p g mb) w wr
  hr : w.heap.size ≤ r
set_option maxRecDepth 100000 in
theorem flush_ok (w : World) (p g mb cap m : Nat) (d : Dk) (h : DkIs w p g mb cap m d) (ho : d.off = false) (hst : d.step.2 = true) :
    Calls Try.prog 19 #[.pointer (some ⟨p, 0, none⟩)] w (WritePost p g mb cap m w { d.step.1 with p := d.step.1.p.map fun x => (x.now, none) } 0) := by
  have c2 := h.kp.cell 2 rfl
  have hSt := Bx.mk (step_any w p g mb cap m d h)
  rw [hst, show errS true = 0 from rfl] at hSt
  have HL := Bx.mk h.lt
  clear h hst
  generalize d.step.1 = d1 at *
  go_enter Try.func19, Try.ntmps19
  go_upto_region 6 with (go_at_call 46; refine hSt.out.mono ?_; rintro _ w1 ⟨rfl, hd, hc⟩; replace hd := Bx.mk hd; replace hc := Bx.mk hc)
  have hfew := hd.out.ok.few
  obtain ⟨w2, cnt, hrun, hrg, hb2, hz2, -⟩ := hd.out.km.range (by omega)
  have c1 := hd.out.kp.cell 1 rfl
  have HI : Bx (FlI w p g mb cap m d1 w1.heap.size (fun i => (d1.p[i]?.bind (·.2)).isSome) cnt w2) :=
    ⟨hrg, hd.out.kp.later hb2, by rw [fl_start]; exact hd.out.pg.later hb2, (DkIs.chgP hc.out).later hb2 hc.out.size, hc.out.size⟩
  have hok := Bx.mk hd.out.ok
  have hne := Bx.mk hd.out.ne
  have hps := Bx.mk hd.out.pos
  have hca := Bx.mk hd.out.hcap
  have hlt := Bx.mk hd.out.lt
  have hsz := Bx.mk hc.out.size
  clear hSt hrg hb2 hz2 hd hc
  go_wp2_with fail
  generalize hr : w1.heap.size = r at *
  have hr := Bx.mk hr
  go_loopw [20] (fun v20 wr => ∃ L cnt, v20 = v20 ∧ Bx (FlI w p g mb cap m d1 r L cnt wr)) (fun _ wr => wr.rangeLeft mb r)
  case atStart => exact ⟨_, _, rfl, HI⟩
  case round =>
    clear HI hrun c1
    obtain ⟨L, cnt, -, HI⟩ := hrel
    rcases HI.out.rng.next (by omega) 0 with ⟨-, hL, hrun⟩ | ⟨i, n, w3, cnt3, hi, hn, hL, hrun, hrg3, hlt3, hc3, hz3, hen⟩
    · have hrun : ∀ ty, (Instr.next (.pointer (some ⟨r, 0, none⟩)) false ty).run Try.prog _ = _ := fun _ => hrun
      have c1 := HI.out.kp.cell 1 rfl
      obtain ⟨w4, hcl, hm4, hc4⟩ := HI.out.rng.map.clear 0 (q := d1.p.map fun x => (x.now, none)) (fun x hx => by obtain ⟨y, _, rfl⟩ := List.mem_map.1 hx; rfl)
      have hD : Bx (DkIs w4 p g mb cap m { d1 with p := d1.p.map fun x => (x.now, none) }) := by
        have hl : (d1.p.map fun x => (x.now, (none : Option (List Int)))).length = d1.p.length := List.length_map ..
        refine ⟨⟨⟨fun x hx => ?_, hok.out.lo, hok.out.hi, ?_⟩, ?_, ?_, ?_, ?_, hm4, hne.out⟩⟩
        · obtain ⟨y, hy, rfl⟩ := List.mem_map.1 hx
          exact ⟨(hok.out.pages y hy).now.1, (hok.out.pages y hy).now.2, fun n h => by cases h⟩
        · show (d1.p.map _).length ≤ 40
          rw [hl]; exact hok.out.few
        · show 0 < (d1.p.map _).length
          rw [hl]; exact hps.out
        · show (d1.p.map _).length ≤ cap ∧ _
          rw [hl]; exact hca.out
        · show Bk w4 p #[.slice _ (d1.p.map _).length cap, _, _, _] _
          rw [hl]; exact HI.out.kp.chg hc4 (fun e => hne.out.2.2 e)
        · exact (HI.out.pg.same (fl_end hL).symm).chg hc4 (fun e => hne.out.2.1 e)
      have hC := Bx.mk (HI.out.ch.trans hc4 (fun k _ e => .inr (.inr e)))
      clear hm4 hc4 HI
      go_wp2_with fail
      go_ret
      exact ⟨rfl, hD.out, hC.out⟩
    · have hrun : ∀ ty, (Instr.next (.pointer (some ⟨r, 0, none⟩)) false ty).run Try.prog _ = _ := fun _ => hrun
      have hl : n.length = 128 := ((hok.out.pages _ (List.getElem_mem hi)).2.2 n (by rw [List.getElem?_eq_getElem hi] at hn; exact hn)).1
      have s1 := Bx.mk (pgInfo _ ((row_cells n .u8).trans hl))
      have hZ : Bx (Try.zeroCells72.size = 128) := ⟨by kernel_rfl⟩
      have s2 := Bx.mk (show Try.zeroCells72.size = (n.map (Value.int .u8)).toArray.size by rw [row_cells, hZ.out, hl])
      have s3 := Bx.mk (one_ints .u8 n)
      unfold arrV at hrun hen
      replace hz3 := Bx.mk hz3
      replace hc3 := Bx.mk hc3
      replace hrg3 := Bx.mk hrg3
      replace hl := Bx.mk hl
      replace hn := Bx.mk hn
      replace hL := Bx.mk hL
      go_upto_region 9 with (refine wpList_store_whole rfl _ _ _ rfl w3.heap.size rfl _ _ rfl _ (heap_alloc_new w3 (.cells Try.zeroCells72 72)) s1.out s2.out s3.out ?_)
      simp only [Act.put]
      generalize hW : World.setRow (World.alloc w3 _) _ _ = W4
      have kq : Bx (Bk W4 w3.heap.size (n.map (Value.int .u8)).toArray 72) := by rw [← hW]; exact ⟨setRow_heap _ _ _ _ _ (0, 0) (heap_alloc_new _ _)⟩
      have hb4 : Bx (Below w3.heap.size w3 W4) := by rw [← hW]; exact ⟨below_setRow ((Below.refl _ _).alloc (Nat.le_refl _) _) (Nat.le_refl _) _⟩
      have hc4 := hc3.out.later hb4.out hc3.out.size
      clear hW hrun hen
      have hle := Bx.mk HI.out.rng.left_eq
      have hrN : p ≠ r ∧ g ≠ r ∧ mb ≠ r := by have := hlt.out; omega
      have HI4 : Bx (FlI w p g mb cap m d1 r (fun j => L j && !decide (j = i)) cnt3 W4 → True) := ⟨fun _ => trivial⟩
      have kp4 := Bx.mk (HI.out.kp.chg hc4 hrN.1)
      have pg4 := Bx.mk (HI.out.pg.chg hc4 hrN.2.1)
      have rg4 := Bx.mk (hrg3.out.chg (.ofBelow hb4.out (fun _ => False)) (fun e => e) (fun e => e))
      have ch4 : Bx (Chg (In3 p g mb) w W4) := ⟨HI.out.ch.trans (hc4.mono (T := (· = r)) (fun _ _ e => e)) (fun k hk e => by have := HI.out.hr; omega)⟩
      have hr4 := Bx.mk HI.out.hr
      clear HI4 HI hc4 hb4 hrg3 hc3
      have c0 : ∀ dk osk, (grow (redrawn W4 dk) osk).cell? ⟨p, 0, none⟩ = some (.slice (some ⟨g, 0, none⟩) d1.p.length cap) := cell_regrown (kp4.out.cell 0 rfl)
      have hrg : Bx (∀ W, (∃ P : Regrown, W = grow (redrawn W4 P.d) P.os) → W.rangeAt w3.heap.size 0 (n.map (Value.int .u8))) := ⟨by
        rintro _ ⟨P, rfl⟩ j v hv
        refine cell_regrown (?_) _ _
        rw [Nat.zero_add]
        exact kq.out.cell j (by rw [List.getElem?_toArray]; exact hv)⟩
      have b0 : (0 : Int) ≤ (i : Int) := by omega
      have b1 : (i : Int) < (d1.p.length : Int) := by omega
      refine wp_region_head_below 7 (by kernel_rfl) (by kernel_rfl) ?_
      simp only [List.take_succ_cons, List.take_zero, List.drop_succ_cons, List.drop_zero]
      repeat (first
        | refine wpQuiet_load_mid rfl _ _ rfl w3.heap.size 0 rfl _ _ hrg.out Try.underlying72 rfl (by have := s1.out; rwa [List.size_toArray] at this) ?_
        | go_big_quiet_step (fail) | quiet_step (fail))
      refine wpQuiet_nil ?_
      rintro _ ⟨⟨dq, osq⟩, rfl⟩
      have hb5 := below_regrown W4 dq osq
      replace kp4 := Bx.mk (kp4.out.later hb5)
      replace pg4 := Bx.mk (pg4.out.later hb5)
      replace rg4 := Bx.mk (rg4.out.chg (.ofBelow hb5 (fun _ => False)) (fun e => e) (fun e => e))
      replace ch4 := Bx.mk (ch4.out.later hb5 ch4.out.size)
      clear c0 hrg hb5 kq
      generalize grow (redrawn W4 dq) osq = W5 at *
      have hfi : i < (fl d1.p L).length := by rw [fl_len]; exact hi
      have hth := Bx.mk (pg4.out.there hfi)
      go_wp2_with (refine wpList_store_mid rfl _ _ _ rfl g (i * 128) _ rfl rfl (by rw [row_cells, hl.out]; exact hth.out) s1.out s3.out ?_)
      simp only [Act.put]
      have HI6 : Bx (FlI w p g mb cap m d1 r (fun j => L j && !decide (j = i)) cnt3 (W5.setCells g (i * 128) (n.map (Value.int .u8)))) := by
        have hc6 : Chg (· = g) W5 (W5.setCells g (i * 128) (n.map (Value.int .u8))) := Chg.setCells (S := (· = g)) (Chg.refl _ _) (.inl rfl) _ _
        refine ⟨⟨rg4.out.chg hc6 (fun e => hne.out.2.1 e.symm) (fun e => hrN.2.1 e.symm), kp4.out.chg hc6 hne.out.1, ?_, ch4.out.setCells (.inl (.inr (.inl rfl))) _ _, hr4.out⟩⟩
        have := pg4.out.put (i := i) (o := 0) (ys := n) (fl_ok hok.out.pages L) (by rw [hl.out]; omega) (fun x => (n, x.2)) (fun x hx => (put_all (by rw [fl_ok hok.out.pages L x (List.mem_of_getElem? hx), hl.out])).symm)
        rw [Nat.add_zero, ← fl_step L hn.out hL.out] at this
        exact this
      clear rg4 kp4 pg4 ch4 hth
      go_roundw
      case rel => exact ⟨_, _, trivial, HI6⟩
      case measure => rw [HI6.out.rng.left_eq, hle.out]; omega
end Go.Proofs.Ytaajkhdmeghnbaa
