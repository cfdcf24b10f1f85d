import Derived.Test.YtabclecmehdeoaaGreatGInn
import Derived.Deep.LoopGhost
import Derived.Test.YtabclecmehdeoaaGreatGPaste
section
/- Store.Trim, by the program. -/
namespace Go.Proofs.YtabclecmehdeoaaGreat
open Go.RowKit Go.Sort Go.Maps
open Oct

theorem nodeV_key {ts : List Tr} {t : Tr} (hlen : ts.length ≤ 1000000000000) (hle : Leans ts t) (hw : Bytes t) : ∃ kl, keyOf Tryz.prog 83 (nodeV ts t) = some kl := by
  cases t with
  | uni c => exact key_node _ _ _ _ _ _ _ _ _ _ _ _ (by simp [maxLen]) (by intro y hy; have := hw.unis c rfl; simp only [List.mem_cons, List.not_mem_nil, or_false] at hy; exact WalkArith.wf_i64 (by omega))
  | brick l => exact key_node _ _ _ _ _ _ _ _ _ _ _ _ (by rw [strOfNums_size, (hw.bricks l rfl).1]; simp [maxLen]) (by intro y hy; simp only [List.mem_cons, List.not_mem_nil, or_false] at hy; exact WalkArith.wf_i64 (by omega))
  | node d ch =>
    have hi := fun i => idT_lt (hle d ch rfl i)
    have i0 := hi 0
    have i1 := hi 1
    have i2 := hi 2
    have i3 := hi 3
    have i4 := hi 4
    have i5 := hi 5
    have i6 := hi 6
    have i7 := hi 7
    have hd := hw.nodes d ch rfl
    refine key_node _ _ _ _ _ _ _ _ _ _ _ _ (by simp [maxLen]) ?_
    intro y hy
    simp only [List.mem_cons, List.not_mem_nil, or_false] at hy
    rcases hy with rfl | rfl | rfl | rfl | rfl | rfl | rfl | rfl | rfl | rfl | rfl <;> exact WalkArith.wf_i64 (by omega)
theorem wpList_delete_fn {P : Program} {w w' : World} {ops : Array Oper} {rest : List Oper} {o : Oper} {a : Act} {Q : Exit → Act → World → Prop} (hgd : o.guard = none) (x y : Operand) (tm tk : TypeId)
    (ho : o.op = .call { callee := .builtin .delete, args := #[x, y], argTypes := #[tm, tk] }) (m key u : Value) (hx : a.eval x = m) (hy : a.eval y = key)
    (hrun : (Builtin.delete_ #[tm, tk] o.type #[m, key]).run P w = .ok u w') (h : wpList P ops Q rest (a.put o.dst u) w') : wpList P ops Q (o :: rest) a w := by
  refine wpList_plain hgd fun K hK => ?_
  unfold Oper.wp execOp
  simp only [ho, resolve, invoke, builtin, Sem.run_bind, Sem.run_pure, Result.andThen_ok, List.map_toArray, List.map_cons, List.map_nil, hx, hy, hrun]
  exact hK _ _ h
theorem ownsRow_cut {w : World} {B g k cap : Nat} {e : TypeId} {sz : Nat} {xs ys : List Value} (h : w.ownsRow B e sz (.slice (some ⟨g, 0, none⟩) (k + 1) cap) (k + 1) (xs ++ ys)) (hx : xs.length = k * sz) : w.ownsRow B e sz (.slice (some ⟨g, 0, none⟩) k cap) k xs := by
  refine ⟨hx, .inr ?_⟩
  rcases h.2 with ⟨h1, _⟩ | ⟨g', cap', cur, h1, h2, h3, h4, h5, h6, h7⟩
  · cases h1
  · injection h1 with e1 e2 e3
    injection e1 with e1
    injection e1 with e1
    subst e1 e3
    refine ⟨g, cap, cur, rfl, h2, h3, by omega, h5, h6, ?_⟩
    have := congrArg (List.take (k * sz)) h7
    rw [List.take_take, Nat.min_eq_left (Nat.mul_le_mul_right _ (Nat.le_succ k)), ← hx, List.take_left] at this
    rw [hx] at this; exact this
theorem rowV_len (ts : List Tr) : (rowV ts).length = ts.length * 12 := by
  unfold rowV
  have key : ∀ l : List Tr, (l.flatMap fun t => (nodeV ts t).cells.toList).length = l.length * 12 := by
    intro l
    induction l with
    | nil => rfl
    | cons x r ih => rw [List.flatMap_cons, List.length_append, ih, nodeV_len, List.length_cons]; omega
  exact key ts
/-- the last tree of a list whose parts are good -/
theorem last_tree {init : List Tr} {t : Tr} (hG : Good (init ++ [t])) : Leans init t ∧ t ∉ init ∧ Bytes t := by
  refine ⟨fun d ch h i => ?_, fun h => ?_, hG.bytes t (by simp)⟩
  · have := hG.closed.2 d ch (by simp [h]) i
    rcases List.mem_append.1 this with h1 | h1
    · exact h1
    · have h2 := Tr.sz_kid d ch i
      rw [List.mem_singleton.1 h1, h] at h2
      omega
  · have := hG.closed.1
    rw [List.nodup_append] at this
    exact this.2.2 t h t (by simp) rfl
theorem keyF_drop {init : List Tr} {t : Tr} (hG : Good init) (hl : Leans init t) (hn : t ∉ init) (hb : Bytes t) (v : Value) [Decidable (v = nodeV (init ++ [t]) t)] : (if v = nodeV (init ++ [t]) t then none else keyF (init ++ [t]) v) = keyF init v := by
  classical
  have e := nodeV_prefix (List.prefix_append init [t]) hl
  by_cases h : v = nodeV (init ++ [t]) t
  · rw [if_pos h, h, e, keyF_not hG hn hl hb]
  · rw [if_neg h, keyF_add hG hn hl hb, if_neg (e ▸ h)]
/-- what holds at the head of Trim's loop: vs is left, of gk trees -/
structure TrimR (Far : Nat → Prop) (sb : Nat) (most : Int) (ts us : List Tr) (w : World) (gk : Nat) (vs : List Tr) (wr : World) : Prop where
  len : gk = vs.length
  low : ts <+: vs
  up : vs <+: us
  store : StoreIs wr Far sb most vs
  keeps : Keeps Far w wr
set_option maxRecDepth 100000 in
set_option maxHeartbeats 1000000 in
theorem trim_any (w : World) (Far : Nat → Prop) (sb : Nat) (most : Int) (ts us : List Tr) (hts : ts <+: us) (hgr : ∀ vs, ts <+: vs → vs <+: us → Good vs) (hlen : us.length ≤ 1000000000000) (hS : StoreIs w Far sb most us) :
    Calls Tryz.prog 68 #[.pointer (some ⟨sb, 0, none⟩), .int .i64 (ts.length : Int)] w fun e w' => e = .returned (.tuple #[]) ∧ StoreIs w' Far sb most ts ∧ Keeps Far w w' := by
  have HR : TrimR Far sb most ts us w us.length us w := ⟨rfl, hts, List.prefix_refl _, hS, Keeps.refl _ _⟩
  have hgr := Bx.mk hgr
  have hm0 : (0 : Int) ≤ (ts.length : Int) := by omega
  have hts := Bx.mk hts
  have hmax : max (0 : Int) (ts.length : Int) = (ts.length : Int) := by omega
  clear hS
  go_enter Tryz.func68, Tryz.ntmps68
  go_wp2_with fail
  go_loopg [4] us.length (fun gk v wr => ∃ vs, TrimR Far sb most ts us w gk vs wr)
  case atStart => exact ⟨us, HR⟩
  case round =>
    obtain ⟨vs, hR⟩ := hrel
    obtain ⟨hgk, hp1, hp2, hS, hK⟩ := hR
    by_cases hgt : ts.length < vs.length
    · obtain ⟨init, t, rfl⟩ : ∃ init t, vs = init ++ [t] := ⟨_, _, (List.dropLast_concat_getLast (by intro h; rw [h] at hgt; simp at hgt)).symm⟩
      have hp3 : ts <+: init := by
        rw [List.prefix_iff_eq_take] at hp1 ⊢
        rw [List.take_append_of_le_length (by simp at hgt; omega)] at hp1
        exact hp1
      have hG := hgr.out _ hp1 hp2
      have hG2 := hgr.out _ hp3 ((List.prefix_append _ _).trans hp2)
      obtain ⟨hle, hni, hby⟩ := last_tree hG
      obtain ⟨mb, nv, ks, hrow, hmap, hP⟩ := hS.parts
      rw [rowV_add hG2 hle] at hrow
      obtain ⟨c, s, d, y0, y1, y2, y3, y4, y5, y6, y7, hV⟩ := nodeV_form init t
      rw [← nodeV_prefix (List.prefix_append init [t]) hle] at hV hrow
      have hlen2 := hp2.length_le
      have hkk : init.length ≤ 1000000000000 := by simp at hlen2; omega
      obtain ⟨kl, hkl⟩ := nodeV_key (ts := init ++ [t]) (t := t) (by omega) (hle.later (List.prefix_append _ _)) hby
      have hkm := keyF_mem hG (t := t) (by simp)
      have hkd := fun v => @keyF_drop init t hG2 hle hni hby v (Classical.propDecidable _)
      have hrl := rowV_len init
      have hll : (init ++ [t]).length = init.length + 1 := by simp
      rw [hV] at hrow hkl hkm hkd
      rw [hll] at hrow hmap hgt hlen2
      obtain ⟨g, cap, cur, rfl, hcap⟩ : ∃ g cap, ∃ cur : Bool, nv = .slice (some ⟨g, 0, none⟩) (init.length + 1) cap ∧ init.length + 1 ≤ cap := by
        rcases hrow.2 with ⟨_, h0⟩ | ⟨g, cap, cur, h1, _, _, h2, _⟩
        · omega
        · exact ⟨g, cap, true, h1, h2⟩
      have hc : ∀ j u, j < 12 → (#[.int .i64 (kindT t), .int .i64 c, .string s, .int .i64 d, .int .i64 y0, .int .i64 y1, .int .i64 y2, .int .i64 y3, .int .i64 y4, .int .i64 y5, .int .i64 y6, .int .i64 y7] : Array Value).toList[j]? = some u → wr.cell? ⟨g, init.length * 12 + j, none⟩ = some u := fun j u hj hu => by
        have := World.ownsRow.cells hrow (g := g) rfl (init.length * 12 + j) u (by rw [List.getElem?_append_right (by omega), hrl, Nat.add_sub_cancel_left]; exact hu)
        have e : (⟨g, 0, none⟩ : Addr).add (init.length * 12 + j) = ⟨g, init.length * 12 + j, none⟩ := by unfold Addr.add; split <;> simp_all
        rw [e] at this; exact this
      replace hrow := Bx.mk (ownsRow_cut hrow hrl)
      replace hmap := Bx.mk hmap
      replace hkl := Bx.mk hkl
      replace hkm := Bx.mk hkm
      replace hkd := Bx.mk hkd
      replace hc := Bx.mk hc
      have hp4 := Bx.mk ((List.prefix_append init [t]).trans hp2)
      replace hp3 := Bx.mk hp3
      replace hK := Bx.mk hK
      replace hP := Bx.mk hP
      replace hgk := Bx.mk hgk
      clear hlen2 hV hll hrl hG hG2 hle hni hby hS hp1 hp2
      generalize kindT t = kk at *
      generalize hF : keyF (init ++ [t]) = F at *
      generalize hF0 : keyF init = F0 at *
      replace hF0 := Bx.mk hF0
      generalize hti : (idT (init ++ [t]) t : Int) = ti at *
      generalize hr0 : rowV init = row0 at *
      replace hr0 := Bx.mk hr0
      generalize hk : init.length = k at *
      replace hk := Bx.mk hk
      clear hF hti
      have hcell := ks.cell 1 rfl
      have hB : Below wr.heap.size wr wr := Below.refl _ _
      have hSz : wr.heap.size ≤ wr.heap.size := Nat.le_refl _
      have b0 : (0 : Int) ≤ (k : Int) := by omega
      have b1 : (k : Int) < (k : Int) + 1 := by omega
      go_wp2_with fail
      all_goals
        clear hcell
        have d0 : ∀ dk osk, (grow (redrawn wr dk) osk).cell? ⟨g, k * 12, none⟩ = some (.int .i64 kk) := cell_regrown (hc.out 0 _ (by omega) rfl)
        have d1 : ∀ dk osk, (grow (redrawn wr dk) osk).cell? ⟨g, k * 12 + 1, none⟩ = some (.int .i64 c) := cell_regrown (hc.out 1 _ (by omega) rfl)
        have d2 : ∀ dk osk, (grow (redrawn wr dk) osk).cell? ⟨g, k * 12 + 2, none⟩ = some (.string s) := cell_regrown (hc.out 2 _ (by omega) rfl)
        have d3 : ∀ dk osk, (grow (redrawn wr dk) osk).cell? ⟨g, k * 12 + 3, none⟩ = some (.int .i64 d) := cell_regrown (hc.out 3 _ (by omega) rfl)
        have d4 : ∀ dk osk, (grow (redrawn wr dk) osk).cell? ⟨g, k * 12 + 4, none⟩ = some (.int .i64 y0) := cell_regrown (hc.out 4 _ (by omega) rfl)
        have d5 : ∀ dk osk, (grow (redrawn wr dk) osk).cell? ⟨g, k * 12 + 5, none⟩ = some (.int .i64 y1) := cell_regrown (hc.out 5 _ (by omega) rfl)
        have d6 : ∀ dk osk, (grow (redrawn wr dk) osk).cell? ⟨g, k * 12 + 6, none⟩ = some (.int .i64 y2) := cell_regrown (hc.out 6 _ (by omega) rfl)
        have d7 : ∀ dk osk, (grow (redrawn wr dk) osk).cell? ⟨g, k * 12 + 7, none⟩ = some (.int .i64 y3) := cell_regrown (hc.out 7 _ (by omega) rfl)
        have d8 : ∀ dk osk, (grow (redrawn wr dk) osk).cell? ⟨g, k * 12 + 8, none⟩ = some (.int .i64 y4) := cell_regrown (hc.out 8 _ (by omega) rfl)
        have d9 : ∀ dk osk, (grow (redrawn wr dk) osk).cell? ⟨g, k * 12 + 9, none⟩ = some (.int .i64 y5) := cell_regrown (hc.out 9 _ (by omega) rfl)
        have d10 : ∀ dk osk, (grow (redrawn wr dk) osk).cell? ⟨g, k * 12 + 10, none⟩ = some (.int .i64 y6) := cell_regrown (hc.out 10 _ (by omega) rfl)
        have d11 : ∀ dk osk, (grow (redrawn wr dk) osk).cell? ⟨g, k * 12 + 11, none⟩ = some (.int .i64 y7) := cell_regrown (hc.out 11 _ (by omega) rfl)
        have cs0 : ∀ dk osk, (grow (redrawn wr dk) osk).cell? ⟨sb, 0, none⟩ = some (.int .i64 most) := cell_regrown (ks.cell 0 rfl)
        have cs1 : ∀ dk osk, (grow (redrawn wr dk) osk).cell? ⟨sb, 1, none⟩ = some (.slice (some ⟨g, 0, none⟩) (k + 1) cap) := cell_regrown (ks.cell 1 rfl)
        have cs2 : ∀ dk osk, (grow (redrawn wr dk) osk).cell? ⟨sb, 2, none⟩ = some (.map (some mb)) := cell_regrown (ks.cell 2 rfl)
        refine wp_region_headT_below 11 (by kernel_rfl) (by kernel_rfl) ?_
        simp only [List.take_succ_cons, List.take_zero, List.drop_succ_cons, List.drop_zero]
        repeat (first | go_big_quiet_step ((fail)) | quiet_step (fail))
        refine wpQuiet_nil ?_
        rintro _ ⟨⟨dq, osq⟩, rfl⟩
        have hb := below_regrown wr dq osq
        replace hB := hB.trans (hb.mono hB.size)
        clear cs0 cs1 cs2
        replace ks := ks.later hb
        replace hSz := Nat.le_trans hSz hb.size
        clear hb
        generalize grow (redrawn wr dq) osq = W1 at *
        clear d0 d1 d2 d3 d4 d5 d6 d7 d8 d9 d10 d11
        obtain ⟨W2, hrun, hm2, hg2⟩ := (hmap.out.kept (row := none) (grown_of_below hB) (by simp)).drop hkl.out hkm.out 0
        unfold nodeA at hrun
        refine wpList_delete_fn (by rfl) _ _ _ _ (by rfl) _ _ _ (by rfl) (by rfl) hrun ?_
        replace ks := ks.grownO hg2 (by simpa using fun e => hP.out.apart e.symm)
        have hrow2 := Bx.mk (World.ownsRow.kept (World.ownsRow.kept hrow.out (grown_of_below hB) (by simp [Value.ownBlock])) hg2 (.inr hP.out.nm))
        have hm3 := Bx.mk (hm2.congr (f' := F0) (fun key _ _ => Eq.trans (by congr) (hkd.out key)))
        have hK2 := Bx.mk ((hK.out.trans (Keeps.below hB)).trans (Keeps.grown hg2 (fun g e => by simp only [Option.some.injEq] at e; rw [← e]; exact hP.out.fm)))
        clear hrun hm2 hg2 hrow hmap hkl hkm hkd hK hB hSz
        have cs1 := ks.cell 1 rfl
        have fs1 := ks.frozen 1
        have b2 : (k : Int) ≤ (cap : Int) := by omega
        have b3 : ¬ cap = k := by omega
        go_wp2_with fail
        have hs := grown_setCell W2 ⟨sb, 1, none⟩ (.slice (some ⟨g, 0, none⟩) k cap)
        replace ks : Bk (W2.setCell ⟨sb, 1, none⟩ (.slice (some ⟨g, 0, none⟩) k cap)) sb #[.int .i64 most, .slice (some ⟨g, 0, none⟩) k cap, .map (some mb)] 59 := by simpa using ks.set 1 (.slice (some ⟨g, 0, none⟩) k cap)
        have hR : TrimR Far sb most ts us w k init (W2.setCell ⟨sb, 1, none⟩ (.slice (some ⟨g, 0, none⟩) k cap)) := by
          have hm4 := hm3.out
          have hr4 := hrow2.out
          rw [← hF0.out, Nat.add_sub_cancel, ← hk.out] at hm4
          rw [← hr0.out, ← hk.out] at hr4
          rw [← hk.out] at ks hs ⊢
          refine ⟨rfl, hp3.out, hp4.out, StoreIs.of ks (World.ownsRow.kept hr4 hs (.inr hP.out.ns)) (hm4.kept hs (by simp only [ne_eq, Option.some.injEq]; exact fun e => hP.out.apart e.symm)) ⟨hP.out.fs, hP.out.fm, hP.out.fn, hP.out.apart, hP.out.ns, hP.out.nm⟩, hK2.out.trans (Keeps.grown hs (fun g e => by simp only [Option.some.injEq] at e; rw [← e]; exact hP.out.fs))⟩
        go_roundg k
        case rel => exact ⟨init, hR⟩
        case measure => have h1 := hgk.out; have h2 := hk.out; rw [List.length_append, h2] at h1; simp at h1; omega
    · have hvs : ts = vs := hp1.eq_of_length_le (by omega)
      subst hvs
      obtain ⟨mb, nv, ks, hrow, -, -⟩ := hS.parts
      obtain ⟨na, nc, rfl⟩ := row_form hrow
      have cs1 := ks.cell 1 rfl
      have hS := Bx.mk hS
      have hK := Bx.mk hK
      clear hrow ks hgk
      go_wp2_with fail
      all_goals
        go_end0
        exact ⟨rfl, hS.out, hK.out⟩
end Go.Proofs.YtabclecmehdeoaaGreat
end
section
/- Store.whole, by the program: what was added is taken back where there is no room. -/
namespace Go.Proofs.YtabclecmehdeoaaGreat
open Go.RowKit Go.Sort Go.Maps
open Oct

/-- the store has come from ts to ts', of which t is a tree; or there was no room, and it is as it was -/
structure Done (Far : Nat → Prop) (sb : Nat) (most : Int) (ts ts' : List Tr) (t : Tr) (w : World) (e : Ending) (w' : World) : Prop where
  keeps : Keeps Far w w'
  size : w.heap.size ≤ w'.heap.size
  way : (Tr.Fits most ts ts' ∧ e = ret2 (idT ts' t : Int) 0 ∧ StoreIs w' Far sb most ts') ∨ (¬ Tr.Fits most ts ts' ∧ e = ret2 0 14 ∧ StoreIs w' Far sb most ts)
set_option maxHeartbeats 1000000 in
theorem whole_from (w : World) (Far : Nat → Prop) (sb : Nat) (most : Int) (ts ts' : List Tr) (t : Tr) (p0 p1 : Addr) (hgr : ∀ vs, ts <+: vs → vs <+: ts' → Good vs) (hlen : ts'.length ≤ 1000000000000) (hS : StoreIs w Far sb most ts)
    (hf : Calls Tryz.prog 34 #[.pointer (some p0), .pointer (some p1)] w (Grew Far sb most ts ts' t w)) :
    Calls Tryz.prog 33 #[.pointer (some ⟨sb, 0, none⟩), .func (.func 34) #[] #[.pointer (some p0), .pointer (some p1)]] w (Done Far sb most ts ts' t w) := by
  obtain ⟨mb, nv, ks, hrow, -, -⟩ := hS.parts
  obtain ⟨na, nc, rfl⟩ := row_form hrow
  have cs1 := ks.cell 1 rfl
  have hf := Bx.mk hf
  have hgr := Bx.mk hgr
  clear hrow ks hS
  go_enter Tryz.func33, Tryz.ntmps33
  go_wp2_with fail
  refine hf.out.mono ?_
  rintro e w1 hg
  have hk := Bx.mk hg.keeps
  have hz := Bx.mk hg.size
  obtain ⟨-, -, (⟨hfit, rfl, hs⟩ | ⟨hfit, rfl, us, hu1, hu2, hu3, hs⟩)⟩ := hg
  · have hd : Done Far sb most ts ts' t w (ret2 (idT ts' t : Int) 0) w1 := ⟨hk.out, hz.out, .inl ⟨hfit, rfl, hs⟩⟩
    clear hs hfit cs1 hf
    go_wp2_with fail
    go_ret2
    exact hd
  · have hl := hu3.length_le
    have htrim := Bx.mk (trim_any w1 Far sb most ts us hu2 (fun vs h1 h2 => hgr.out vs h1 (h2.trans hu3)) (by omega) hs)
    have hfit := Bx.mk hfit
    clear hs cs1 hf hu1 hu2 hu3 hl
    go_wp2_with fail
    refine htrim.out.mono ?_
    rintro e w2 ⟨rfl, hs2, hk2⟩
    have hd : Done Far sb most ts ts' t w (ret2 0 14) w2 := ⟨hk.out.trans hk2, Nat.le_trans hz.out hk2.size, .inr ⟨hfit.out, rfl, hs2⟩⟩
    clear hs2 hk2 htrim hfit
    go_wp2_with fail
    go_ret2
    exact hd
set_option maxHeartbeats 1000000 in
theorem whole_set (w : World) (Far : Nat → Prop) (sb : Nat) (most : Int) (ts ts' : List Tr) (t : Tr) (p0 p1 p2 : Addr) (hgr : ∀ vs, ts <+: vs → vs <+: ts' → Good vs) (hlen : ts'.length ≤ 1000000000000) (hS : StoreIs w Far sb most ts)
    (hf : Calls Tryz.prog 44 #[.pointer (some p0), .pointer (some p1), .pointer (some p2)] w (Grew Far sb most ts ts' t w)) :
    Calls Tryz.prog 33 #[.pointer (some ⟨sb, 0, none⟩), .func (.func 44) #[] #[.pointer (some p0), .pointer (some p1), .pointer (some p2)]] w (Done Far sb most ts ts' t w) := by
  obtain ⟨mb, nv, ks, hrow, -, -⟩ := hS.parts
  obtain ⟨na, nc, rfl⟩ := row_form hrow
  have cs1 := ks.cell 1 rfl
  have hf := Bx.mk hf
  have hgr := Bx.mk hgr
  clear hrow ks hS
  go_enter Tryz.func33, Tryz.ntmps33
  go_wp2_with fail
  refine hf.out.mono ?_
  rintro e w1 hg
  have hk := Bx.mk hg.keeps
  have hz := Bx.mk hg.size
  obtain ⟨-, -, (⟨hfit, rfl, hs⟩ | ⟨hfit, rfl, us, hu1, hu2, hu3, hs⟩)⟩ := hg
  · have hd : Done Far sb most ts ts' t w (ret2 (idT ts' t : Int) 0) w1 := ⟨hk.out, hz.out, .inl ⟨hfit, rfl, hs⟩⟩
    clear hs hfit cs1 hf
    go_wp2_with fail
    go_ret2
    exact hd
  · have hl := hu3.length_le
    have htrim := Bx.mk (trim_any w1 Far sb most ts us hu2 (fun vs h1 h2 => hgr.out vs h1 (h2.trans hu3)) (by omega) hs)
    have hfit := Bx.mk hfit
    clear hs cs1 hf hu1 hu2 hu3 hl
    go_wp2_with fail
    refine htrim.out.mono ?_
    rintro e w2 ⟨rfl, hs2, hk2⟩
    have hd : Done Far sb most ts ts' t w (ret2 0 14) w2 := ⟨hk.out.trans hk2, Nat.le_trans hz.out hk2.size, .inr ⟨hfit.out, rfl, hs2⟩⟩
    clear hs2 hk2 htrim hfit
    go_wp2_with fail
    go_ret2
    exact hd
end Go.Proofs.YtabclecmehdeoaaGreat
end
