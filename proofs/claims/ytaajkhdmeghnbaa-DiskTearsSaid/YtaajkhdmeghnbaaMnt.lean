/- The program's Mount. -/
import Derived.Test.YtaajkhdmeghnbaaRot
import Derived.Laws.IdiomCopy
namespace Go.Proofs.Ytaajkhdmeghnbaa
open Go.RowKit Go.Sort

theorem Sl.chg {S : Nat → Prop} {w w' : World} {k : IntKind} {a : Option Addr} {xs : List Int} (h : Sl w k a xs) (hc : Chg S w w') (hn : ∀ b o, a = some ⟨b, o, none⟩ → 0 < xs.length → ¬ S b) : Sl w' k a xs := by
  intro i x hx
  obtain ⟨b, off, rfl, hcell⟩ := h i x hx
  exact ⟨b, off, rfl, (cell_of_heap (hc.block b (block_lt_of_cell hcell) (hn b off rfl (by have := (List.getElem?_eq_some_iff.1 hx).1; omega))) _).trans hcell⟩
theorem wpList_copy_cells {P : Program} {w : World} {ops : Array Oper} {rest : List Oper} {o : Oper} {a : Act} {Q : Exit → Act → World → Prop} (hgd : o.guard = none) (d s : Operand) (dT sT : TypeId)
    (ho : o.op = .call { callee := .builtin .copy, args := #[d, s], argTypes := #[dT, sT] }) (elem : TypeId) (hu : P.underlying dT = some (.slice elem)) (hsz : (P.info? elem).map (·.size) = some 1)
    (g off dLen dCap : Nat) (hd : a.eval d = .slice (some ⟨g, off, none⟩) dLen dCap) (ad : Addr) (sLen sCap : Nat) (hs : a.eval s = .slice (some ad) sLen sCap) (cs : List Value)
    (hn : cs.length = Nat.min sLen dLen) (hsrc : ∀ j v, cs[j]? = some v → w.cell? (ad.add j) = some v) (hth : w.there g off cs.length) (h1 : ∀ v ∈ cs, v.oneCell' = true)
    (h : wpList P ops Q rest (a.put o.dst (goInt cs.length)) (w.setCells g off cs)) : wpList P ops Q (o :: rest) a w := by
  refine wpList_plain hgd fun K hK => ?_
  have hr := run_copy_cells (P := P) w dT sT o.type elem g off dLen dCap ad sLen sCap cs hu hsz hn hsrc (fun j hj => (hth j hj).1) (fun j hj => (hth j hj).2) h1
  unfold Oper.wp execOp
  simp only [ho, resolve, invoke, builtin, Sem.run_bind, Sem.run_pure, Result.andThen_ok, List.map_toArray, List.map_cons, List.map_nil, hd, hs, hr]
  exact hK _ _ h
/-- what lies in memory while the pending pages are settled -/
structure MtI (w9 : World) (g : Nat) (p : List Pg) (picks : List Int) (k : Nat) (wr : World) : Prop where
  ch : Chg (· = g) w9 wr
  pg : Pages wr g (settled p picks k)
def MountPost (p g mb cap m : Nat) (w : World) (d' : Dk) (e : Ending) (w' : World) : Prop := e = .returned (.tuple #[]) ∧ DkIs w' p g mb cap m d' ∧ Chg (In3 p g mb) w w'
set_option maxRecDepth 100000 in
theorem mount_any (w : World) (p g mb cap m : Nat) (d : Dk) (h : DkIs w p g mb cap m d) (a : Option Addr) (pc : Nat) (picks : List Int) (_hpl : picks.length ≤ 1000) (hs : Sl w .i64 a picks) (hap : ∀ b o, a = some ⟨b, o, none⟩ → 0 < picks.length → ¬ In3 p g mb b) :
    Calls Try.prog 22 #[.pointer (some ⟨p, 0, none⟩), .slice a picks.length pc] w (MountPost p g mb cap m w (d.mount picks)) := by
  have hfew := h.ok.few
  have hPe := Bx.mk (pend_any w p g mb cap m d h)
  have H := Bx.mk h
  have hs := Bx.mk hs
  have hap := Bx.mk hap
  clear h
  go_enter Try.func22, Try.ntmps22
  go_wp2_with fail
  refine hPe.out.mono ?_
  rintro _ w9 ⟨v, rfl, ho9, hb9⟩
  obtain ⟨a9, c9, rfl, hs9⟩ := ho9.form
  have H9 := Bx.mk (H.out.later hb9)
  have hl9 : (ints (pendOf d.p)).length = (pendOf d.p).length := by unfold ints; rw [List.length_map]
  have hcnt := pend_len_le d.p
  have hap9 : Bx (∀ b o, a9 = some ⟨b, o, none⟩ → ¬ b = g) := ⟨fun b o e hbg => by
    rcases ho9.2 with ⟨e1, _⟩ | ⟨g9, cap9, cur, e1, hB, _⟩
    · injection e1 with e1 _ _; rw [e1] at e; cases e
    · injection e1 with e1 _ _
      rw [e1] at e
      injection e with e
      injection e with e _ _
      have := H.out.lt.2.1
      omega⟩
  rw [hl9]
  have hs9 := Bx.mk hs9
  have hs9p := Bx.mk (hs.out.below hb9)
  have hb9 := Bx.mk hb9
  have HI : Bx (MtI w9 g d.p picks 0 w9) := ⟨⟨Chg.refl _ _, by rw [settled_zero]; exact H9.out.pg⟩⟩
  clear ho9 hPe
  generalize hN : (pendOf d.p).length = n at *
  replace hN := Bx.mk hN
  go_wp2_with fail
  go_loopw [11] (fun v11 wr => ∃ k : Nat, k ≤ n ∧ v11 = .int .i64 k ∧ Bx (MtI w9 g d.p picks k wr)) (fun v11 _ => n - (intOf v11).toNat)
  case atStart => exact ⟨0, by omega, rfl, HI⟩
  case round =>
    clear HI
    obtain ⟨k, hk, rfl, HI⟩ := hrel
    by_cases hlt : k < n
    · have t0 : decide ((k : Int) < (n : Int)) = true := by simp; omega
      obtain ⟨i, hi⟩ : ∃ i, (pendOf d.p)[k]? = some i := ⟨_, List.getElem?_eq_getElem (by have := hN.out; omega)⟩
      have hsu := Bx.mk (settled_succ hi picks)
      obtain ⟨hip, hrk⟩ := rank_at hi
      have hil := isPend_lt hip
      obtain ⟨⟨o, nw⟩, hx⟩ : ∃ x, d.p[i]? = some x := ⟨_, List.getElem?_eq_getElem hil⟩
      cases nw with
      | none => unfold isPend at hip; rw [hx] at hip; cases hip
      | some nw =>
      have hok := H.out.ok.pages _ (List.mem_of_getElem? hx)
      obtain ⟨ln, -⟩ := hok.2.2 nw rfl
      have hxs := Bx.mk (settled_at hx picks k)
      rw [hrk, if_neg (Nat.lt_irrefl k)] at hxs
      obtain ⟨b9, o9, ha9, hc9⟩ := hs9.out k (i : Int) (by unfold ints; rw [List.getElem?_map, hi]; rfl)
      have hb9g := hap9.out b9 o9 ha9
      subst ha9
      have hc9r := (cell_of_heap (HI.out.ch.block b9 (block_lt_of_cell hc9) hb9g) _).trans hc9
      clear hc9
      have hgm := H.out.ne
      have k0 := H9.out.kp.chg HI.out.ch hgm.1
      have km := Bx.mk (H9.out.km.chg HI.out.ch (fun e => hgm.2.1 e.symm))
      have hsr := Bx.mk (hs9p.out.chg HI.out.ch (fun b o e hl hb => hap.out b o e hl (.inr (.inl hb))))
      have c0 := k0.cell 0 rfl
      have c1 := k0.cell 1 rfl
      have hpn : pendI d.p (i : Int) = some nw := by rw [pendI_nat, hx]; rfl
      have hlk := km.out.get (wf_nat (i := i) (by omega)) hpn
      have hpk : Bx (pick picks k = pick picks k) := ⟨rfl⟩
      have hple := pick_le picks k
      have b0 : (0 : Int) ≤ (k : Int) := by omega
      have b1 : (k : Int) < (n : Int) := by omega
      have kI : (k : Int) ≤ 40 := by omega
      replace hi := Bx.mk hi
      replace hx := Bx.mk hx
      replace hok := Bx.mk hok
      replace k0 := Bx.mk k0
      clear hip hrk hpn
      unfold arrV at hlk
      have ln := Bx.mk ln
      have s1 := Bx.mk (pgInfo _ ((row_cells nw .u8).trans ln.out))
      have s2 := Bx.mk (show Try.zeroCells72.size = (nw.map (Value.int .u8)).toArray.size by rw [row_cells, ln.out]; kernel_rfl)
      have s3 := Bx.mk (one_ints .u8 nw)
      go_upto_if 19 with fail
      generalize hcc : pick picks k = c at *
      go_cut [6] from 16 to 25 (fun v6 wx => v6 = .int .i64 (c : Int) ∧ wx = wr)
      case first =>
        cases hpk2 : picks[k]? with
        | none =>
          have : picks.length ≤ k := List.getElem?_eq_none_iff.1 hpk2
          have t1 : decide ((k : Int) < (picks.length : Int)) = false := by simp; omega
          have hc128 : c = 128 := by rw [← hcc]; unfold pick; rw [hpk2]
          subst hc128
          replace hcc := Bx.mk hcc
          clear hpk2
          go_wp2_with fail
          go_meet
          exact ⟨rfl, rfl⟩
        | some pk =>
          have hkl := (List.getElem?_eq_some_iff.1 hpk2).1
          have t1 : decide ((k : Int) < (picks.length : Int)) = true := by simp; omega
          have hcv : (c : Int) = min (max pk 0) 128 := by rw [← hcc]; unfold pick; rw [hpk2]; simp only []; omega
          obtain ⟨bp, op, hap2, hcp⟩ := hsr.out k pk hpk2
          subst hap2
          have b4 : (k : Int) < (picks.length : Int) := by omega
          have m1 : (if pk < 0 then 0 else pk) = max pk 0 := by omega
          have m2 : (if 128 < max pk 0 then 128 else max pk 0) = (c : Int) := by omega
          have m3 : (if max pk 0 < 128 then max pk 0 else 128) = (c : Int) := by omega
          replace hcc := Bx.mk hcc
          replace hcv := Bx.mk hcv
          clear hpk2
          go_wp2_with fail
          go_meet
          exact ⟨by rw [hcv.out], rfl⟩
      case rest =>
      obtain ⟨rfl, rfl⟩ := hcut
      replace hcc := Bx.mk hcc
      have h0c : (0 : Int) ≤ (c : Int) := by omega
      have hc1 : (c : Int) ≤ 128 := by omega
      clear hsr hpk
      go_upto_region 7 with (refine wpList_store_whole rfl _ _ _ rfl wc.heap.size rfl _ _ rfl _ (heap_alloc_new wc (.cells Try.zeroCells72 72)) s1.out s2.out s3.out ?_)
      simp only [Act.put]
      generalize hW : World.setRow (World.alloc wc _) _ _ = W4
      have kq : Bx (Bk W4 wc.heap.size (nw.map (Value.int .u8)).toArray 72) := by rw [← hW]; exact ⟨setRow_heap _ _ _ _ _ (0, 0) (heap_alloc_new _ _)⟩
      have hb4 : Bx (Below wc.heap.size wc W4) := by rw [← hW]; exact ⟨below_setRow ((Below.refl _ _).alloc (Nat.le_refl _) _) (Nat.le_refl _) _⟩
      clear hW hlk km c0 c1 hc9r
      have c0 : ∀ dk osk, (grow (redrawn W4 dk) osk).cell? ⟨p, 0, none⟩ = some (.slice (some ⟨g, 0, none⟩) d.p.length cap) := cell_regrown (cell_later hb4.out (k0.out.cell 0 rfl))
      have b4 : (0 : Int) ≤ (i : Int) := by omega
      have b5 : (i : Int) < (d.p.length : Int) := by omega
      refine wp_region_headT_below 10 (by kernel_rfl) (by kernel_rfl) ?_
      simp only [List.take_succ_cons, List.take_zero, List.drop_succ_cons, List.drop_zero]
      repeat (first | go_big_quiet_step (fail) | quiet_step (fail))
      refine wpQuiet_nil ?_
      rintro _ ⟨⟨dq, osq⟩, rfl⟩
      have hb5 := below_regrown W4 dq osq
      replace kq := Bx.mk (kq.out.later hb5)
      have hC5 : Bx (Chg (· = g) w9 (grow (redrawn W4 dq) osq)) := ⟨(HI.out.ch.later hb4.out HI.out.ch.size).later hb5 (Nat.le_trans HI.out.ch.size hb4.out.size)⟩
      have pg5 := Bx.mk ((HI.out.pg.later hb4.out).later hb5)
      clear c0 hb4 hb5 k0 HI
      generalize grow (redrawn W4 dq) osq = W5 at *
      have hct : (nw.take c).length = c := by rw [List.length_take, ln.out]; omega
      have u8i : Bx ((Try.prog.info? 5).map (·.size) = some 1) := ⟨by kernel_rfl⟩
      have e1 : Bx ((((nw.take c).map (Value.int .u8)).length) = Nat.min c c) := ⟨by rw [List.length_map, hct]; exact (Nat.min_self c).symm⟩
      have e2 : Bx (∀ j v, ((nw.take c).map (Value.int .u8))[j]? = some v → W5.cell? ((⟨wc.heap.size, 0, none⟩ : Addr).add j) = some v) := ⟨fun j v hv => by
        rw [Addr.add_mid, Nat.zero_add]
        refine kq.out.cell j ?_
        rw [List.getElem?_toArray]
        rw [List.getElem?_map, List.getElem?_take] at hv
        rw [List.getElem?_map]
        split at hv
        · exact hv
        · cases hv⟩
      have e3 : Bx (W5.there g (i * 128) ((nw.take c).map (Value.int .u8)).length) := ⟨fun j hj => pg5.out.there (by rw [settled_len]; exact hil) j (by rw [List.length_map, hct] at hj; omega)⟩
      have e4 : Bx (∀ v ∈ (nw.take c).map (Value.int .u8), v.oneCell' = true) := ⟨fun v hv => by obtain ⟨x, _, rfl⟩ := List.mem_map.1 hv; rfl⟩
      have HI6 : Bx (MtI w9 g d.p picks (k + 1) (W5.setCells g (i * 128) ((nw.take c).map (Value.int .u8)))) := by
        refine ⟨⟨hC5.out.setCells (.inl rfl) _ _, ?_⟩⟩
        have hlen : ∀ x ∈ settled d.p picks k, x.1.length = 128 := fun x hx2 => by
          obtain ⟨j, hj⟩ := List.getElem?_of_mem hx2
          cases hp : d.p[j]? with
          | none => rw [List.getElem?_eq_none_iff.2 (by rw [settled_len]; exact List.getElem?_eq_none_iff.1 hp)] at hj; cases hj
          | some y =>
            rw [settled_at hp] at hj
            injection hj with hj
            have hy := H.out.ok.pages y (List.mem_of_getElem? hp)
            rw [← hj]
            split
            · exact (hy.settle _).1
            · exact hy.1
        have := pg5.out.put (i := i) (o := 0) (ys := nw.take c) hlen (by rw [hct]; omega) (Pg.settle c) (fun x hx2 => by
          rw [hxs.out] at hx2
          injection hx2 with hx2
          rw [← hx2]
          show nw.take c ++ o.drop c = _
          unfold put
          rw [List.take_zero, List.nil_append, Nat.zero_add, hct])
        rw [Nat.add_zero, ← hsu.out] at this
        exact this
      generalize hcs : (nw.take c).map (Value.int .u8) = cs at *
      replace hcs := Bx.mk hcs
      clear hC5 pg5 kq
      go_wp2_with (refine wpList_copy_cells rfl _ _ _ _ rfl 5 Try.underlying75 u8i.out g (i * 128) _ _ rfl ⟨wc.heap.size, 0, none⟩ _ _ rfl cs e1.out e2.out e3.out e4.out ?_)
      go_roundw
      case rel => exact ⟨k + 1, by omega, by go_num, HI6⟩
      case measure => simp [intOf]; omega
    · have t0 : decide ((k : Int) < (n : Int)) = false := by simp; omega
      obtain rfl : k = n := by omega
      have hgm := H.out.ne
      have k0 := H9.out.kp.chg HI.out.ch hgm.1
      have km := H9.out.km.chg HI.out.ch (fun e => hgm.2.1 e.symm)
      obtain ⟨w4, hcl, hm4, hc4⟩ := km.clear 0 (q := settled d.p picks k) (fun x hx => by rw [← hN.out] at hx; exact settled_end_none picks hx)
      have k4 := k0.chg hc4 (fun e => hgm.2.2 e)
      have c1 := k0.cell 1 rfl
      have c2 := k4.cell 2 rfl
      have f2 := k4.frozen 2
      have k5 := k4.set 2 (.bool false)
      have c3 := k5.cell 3 (v := .int .i64 d.trip) rfl
      have f3 := k5.frozen 3
      have hC4 : Chg (In3 p g mb) w w4 := ((Chg.ofBelow hb9.out (In3 p g mb)).trans (HI.out.ch.mono (T := (· = g)) (fun _ _ e => e)) (fun j _ e => .inr (.inl e))).trans hc4 (fun j _ e => .inr (.inr e))
      have hC6 : Bx (Chg (In3 p g mb) w ((w4.setCell ⟨p, 2, none⟩ (.bool false)).setCell ⟨p, 3, none⟩ (.int .i64 (-1)))) := ⟨(hC4.setCell (.inl (.inl rfl)) _).setCell (.inl (.inl rfl)) _⟩
      have hD6 : Bx (DkIs ((w4.setCell ⟨p, 2, none⟩ (.bool false)).setCell ⟨p, 3, none⟩ (.int .i64 (-1))) p g mb cap m (d.mount picks)) := by
        have hc6 : Chg (· = p) w4 ((w4.setCell ⟨p, 2, none⟩ (.bool false)).setCell ⟨p, 3, none⟩ (.int .i64 (-1))) := (chg_cell w4 p 2 _).setCell (.inl rfl) _
        have hl : (d.mount picks).p.length = d.p.length := settled_len _ _ _
        refine ⟨⟨⟨fun x hx => ?_, by show (-1 : Int) ≤ -1; omega, by show (-1 : Int) ≤ _; omega, by rw [hl]; exact hfew⟩, by rw [hl]; exact H.out.pos, by rw [hl]; exact H.out.hcap, ?_, ?_, ?_, hgm⟩⟩
        · obtain ⟨j, hj⟩ := List.getElem?_of_mem hx
          have hj : (settled d.p picks (pendOf d.p).length)[j]? = some x := hj
          cases hp : d.p[j]? with
          | none => rw [List.getElem?_eq_none_iff.2 (by rw [settled_len]; exact List.getElem?_eq_none_iff.1 hp)] at hj; cases hj
          | some y =>
            rw [settled_at hp] at hj
            injection hj with hj
            have hy := H.out.ok.pages y (List.mem_of_getElem? hp)
            rw [← hj]
            split
            · exact hy.settle _
            · exact hy
        · rw [hl]
          exact k5.set 3 (.int .i64 (-1))
        · show Pages _ g (settled d.p picks (pendOf d.p).length)
          rw [hN.out]
          exact (HI.out.pg.chg hc4 (fun e => hgm.2.1 e)).chg hc6 (fun e => hgm.1 e.symm)
        · show PgMap _ mb m (settled d.p picks (pendOf d.p).length)
          rw [hN.out]
          exact hm4.chg hc6 (fun e => hgm.2.2 e.symm)
      clear HI km hm4 hc4 hC4 k4 k5 k0
      go_wp2_with fail
      go_end0
      exact ⟨rfl, hD6.out, hC6.out⟩
end Go.Proofs.Ytaajkhdmeghnbaa
