/- SanP, SanC, SanW, Ref: joined by program, for one claim. -/
import Derived.Test.YtabclecmehdeoaaGreatDoorM20
section
namespace Go.Proofs.YtabclecmehdeoaaGreatDoor
open Go.RowKit Go.Sort Go.Maps
open Oct
theorem MapFn.same {w w' : World} {b n : Nat} {f : Value → Option Int} (h : MapFn w b n f) (hk : w'.heap[b]? = w.heap[b]?) : MapFn w' b n f := by
 obtain ⟨D, ⟨es, clock, hb, F, hs, hd⟩, h2, h3⟩ := h
 exact ⟨D, ⟨es, clock, hk.trans hb, F, hs, hd⟩, h2, h3⟩
theorem ownsRow_same {w w' : World} {B : Nat} {e : TypeId} {sz : Nat} {v : Value} {n : Nat} {xs : List Value} (h : w.ownsRow B e sz v n xs) (hk : ∀ g, v.ownBlock = some g → w'.heap[g]? = w.heap[g]?) : w'.ownsRow B e sz v n xs := by
 refine ⟨h.1, h.2.imp id ?_⟩
 rintro ⟨g, cap, cur, rfl, h2, h3, h4⟩
 exact ⟨g, cap, cur, rfl, h2, (hk g rfl).trans h3, h4⟩
theorem StoreIs.other {w w' : World} {Far Far' : Nat → Prop} {sb : Nat} {most : Int} {ts : List Tr} (h : StoreIs w Far' sb most ts) (hk : Keeps Far w w') (hf : ∀ k, ¬ Far' k → k < w.heap.size → Far k) : StoreIs w' Far' sb most ts := by
 obtain ⟨mb, nv, h1, h2, h3, P⟩ := h.parts
 have hb : ∀ k, ¬ Far' k → k < w.heap.size → w'.heap[k]? = w.heap[k]? := fun k h4 h5 => hk.block k (hf k h4 h5) h5
 refine StoreIs.of ((hb sb P.fs h1.lt).trans h1) (ownsRow_same h2 (fun g hg => hb g (P.fn g hg) (World.ownsRow.lt h2 g hg).2)) (h3.same (hb mb P.fm h3.lt)) P
theorem Grew.fit {Far : Nat → Prop} {sb : Nat} {most : Int} {ts ts' : List Tr} {t : Tr} {w w' : World} {e : Ending} (h : Grew Far sb most ts ts' t w e w') (hf : Tr.Fits most ts ts') : e = ret2 (idT ts' t : Int) 0 ∧ StoreIs w' Far sb most ts' ∧ Keeps Far w w' := by
 rcases h.way with ⟨_, h2, h3⟩ | ⟨h1, _⟩
 · exact ⟨h2, h3, h.keeps⟩
 · exact absurd hf h1
theorem Done.fit {Far : Nat → Prop} {sb : Nat} {most : Int} {ts ts' : List Tr} {t : Tr} {w w' : World} {e : Ending} (h : Done Far sb most ts ts' t w e w') (hf : Tr.Fits most ts ts') : e = ret2 (idT ts' t : Int) 0 ∧ StoreIs w' Far sb most ts' ∧ Keeps Far w w' := by
 rcases h.way with ⟨_, h2, h3⟩ | ⟨h1, _⟩
 · exact ⟨h2, h3, h.keeps⟩
 · exact absurd hf h1
theorem below_of_keeps {w w1 w2 : World} {Far : Nat → Prop} (hb : Below w.heap.size w w1) (hk : Keeps Far w1 w2) (hf : ∀ k, k < w.heap.size → Far k) : Below w.heap.size w w2 :=
 ⟨hk.os.trans hb.os, hk.tape.trans hb.tape, hk.output.trans hb.output, Nat.le_trans hb.size hk.size, fun k h => (hk.block k (hf k h) (Nat.lt_of_lt_of_le h hb.size)).trans (hb.block k h)⟩
def sanB : Box := ⟨⟨1, 2, 3⟩, ⟨2, 3, 4⟩⟩
def sanF : Pt → Int := cellG sanB [5]
def sanL : List Int := (List.replicate 64 0).set 57 5
def sanC (i : Fin 8) : Tr := if i = 0 then .brick sanL else .uni 0
def sanT : Tr := .node 3 sanC
theorem san_kid0 : ((List.range 64).map fun k => sanF (Tr.cellAt (Tr.cor ⟨0, 0, 0⟩ 0 0) k)) = sanL := by decide +kernel
theorem san_kids : ∀ i : Fin 8, i ≠ 0 → ((List.range 64).map fun k => sanF (Tr.cellAt (Tr.cor ⟨0, 0, 0⟩ 0 i.val) k)) = List.replicate 64 0 := by decide +kernel
theorem mkBrick_rep (c : Int) : Tr.mkBrick (List.replicate 64 c) = .uni c := by
 unfold Tr.mkBrick
 have h : (List.replicate 64 c).headD 0 = c := rfl
 rw [h, if_pos (fun x hx => (List.mem_replicate.1 hx).2)]
theorem san_can : Tr.can sanF 1 ⟨0, 0, 0⟩ = sanT := by
 have hk : ∀ i : Fin 8, Tr.can sanF 0 (Tr.cor ⟨0, 0, 0⟩ 0 i.val) = sanC i := by
  intro i
  unfold Tr.can sanC
  by_cases h : i = 0
  · subst h
    rw [if_pos rfl]
    show Tr.mkBrick ((List.range 64).map fun k => sanF (Tr.cellAt (Tr.cor ⟨0, 0, 0⟩ 0 0) k)) = _
    rw [san_kid0]
    unfold Tr.mkBrick
    rw [if_neg (by decide +kernel)]
  · rw [if_neg h, san_kids i h, mkBrick_rep]
 unfold Tr.can
 simp only [hk]
 unfold Tr.mkInner sanT
 rw [if_neg]
 rintro ⟨⟨c, h⟩, _⟩
 cases h
theorem san_range : ∀ p, 0 ≤ sanF p ∧ sanF p ≤ 255 := by
 intro p
 unfold sanF cellG
 split
 · have h1 : ∀ i : Nat, 0 ≤ [(5 : Int)].getD i 0 ∧ [(5 : Int)].getD i 0 ≤ 255 := by
    intro i
    cases i with
    | zero => decide
    | succ i => simp
   exact h1 _
 · omega
theorem san_wf : Tr.WF sanT := by rw [← san_can]; exact wf_can san_range 1 _ (by omega)
theorem san_dep : Dep 1 sanT := by rw [← san_can]; exact dep_can _ 1 _
def sn1 : List Tr := [.uni 0]
def sn2 : List Tr := [.uni 0, .uni 7]
def sn3 : List Tr := [.uni 0, .uni 7, .brick sanL]
def sn4 : List Tr := [.uni 0, .uni 7, .brick sanL, sanT]
theorem sn_add1 : Tr.add (.uni 0) [] = sn1 := by rw [Tr.add_uni, Tr.ins_of_not (by simp)]; rfl
theorem sn_add2 : Tr.add (.uni 7) sn1 = sn2 := by rw [Tr.add_uni, Tr.ins_of_not (by simp [sn1])]; rfl
theorem sn_good2 : Good sn2 := by
 rw [← sn_add2, ← sn_add1]
 exact Good.uni (Good.uni ⟨Tr.Closed.nil, fun t h => by cases h⟩ (by omega)) (by omega)
theorem sn_good1 : Good sn1 := by
 rw [← sn_add1]
 exact Good.uni ⟨Tr.Closed.nil, fun t h => by cases h⟩ (by omega)
theorem sn_add4 : Tr.add sanT sn2 = sn4 := by
 unfold sanT
 rw [Tr.add_node, if_neg (by simp [sn2]), Tr.addK_one 0 (fun i hi => by unfold sanC; rw [if_neg hi]; simp [sn2])]
 have : Tr.add (sanC 0) sn2 = sn3 := by
  show Tr.add (.brick sanL) sn2 = sn3
  rw [Tr.add_brick, Tr.ins_of_not (by simp [sn2])]; rfl
 rw [this]; rfl
theorem sn_good4 : Good sn4 := by rw [← sn_add4]; exact good_add _ sn_good2 san_wf
theorem sn_id0 : idT sn4 (.uni 0) = 0 := idT_of sn_good4.closed.1 rfl
theorem sn_idB : idT sn4 (.brick sanL) = 2 := idT_of sn_good4.closed.1 rfl
theorem sn_idT : idT sn4 sanT = 3 := idT_of sn_good4.closed.1 rfl
theorem sn_id1 : idT sn1 (.uni 0) = 0 := idT_of sn_good1.closed.1 rfl
theorem sn_id2 : idT sn2 (.uni 7) = 1 := idT_of sn_good2.closed.1 rfl
theorem san_set : Tr.setT 1 sanT ⟨1, 2, 3⟩ 0 = .uni 0 := by
 rw [← san_can, Tr.set_can _ _ _ _ _ (al_zero 1) (by unfold Tr.InC; decide)]
 refine can_zero 1 _ _ (al_zero 1) fun p _ => ?_
 unfold Tr.upd
 split
 · rfl
 · rename_i h
   unfold sanF cellG
   rw [if_neg]
   intro hp
   have := inB_iff.1 hp
   simp only [sanB] at this
   apply h
   cases p
   simp only [Pt.mk.injEq] at *
   omega
theorem san_add_set : Tr.add (Tr.setT 1 sanT ⟨1, 2, 3⟩ 0) sn4 = sn4 := by rw [san_set]; exact Tr.add_same _ _ (by simp [sn4])
theorem san_get : Tr.getT sanT 1 ⟨1, 2, 3⟩ = 5 := by
 rw [← san_can, Tr.get_can _ _ _ _ (al_zero 1) (by unfold Tr.InC; decide)]; decide
theorem san_get2 : Tr.getT sanT 1 ⟨1, 2, 4⟩ = 0 := by
 rw [← san_can, Tr.get_can _ _ _ _ (al_zero 1) (by unfold Tr.InC; decide)]; decide
theorem san_part : partT sanT 1 2 ⟨4, 0, 0⟩ = .uni 0 := by
 unfold sanT
 rw [partT_node (by omega), partT]
 rfl
end Go.Proofs.YtabclecmehdeoaaGreatDoor
end
section
namespace Go.Proofs.YtabclecmehdeoaaGreatDoor
open Go.RowKit Go.Sort Go.Maps
open Oct
theorem nodeV_key_uni (c : Int) (hc : 0 ≤ c ∧ c ≤ 255) : ∃ kl, keyOf Tryz.prog 72 (nodeA 1 c ByteArray.empty 0 0 0 0 0 0 0 0 0) = some kl :=
 nodeV_key (ts := []) (t := .uni c) (by simp) (fun d ch h => by cases h) (Bytes.uni hc)
theorem uniform_full (w : World) (Far : Nat → Prop) (sb : Nat) (most : Int) (ts : List Tr) (c : Int) (hc : 0 ≤ c ∧ c ≤ 255) (hG : Good ts) (ht : Tr.uni c ∉ ts) (hm : most ≤ (ts.length : Int)) (hS : StoreIs w Far sb most ts) :
 Calls Tryz.prog 20 #[.pointer (some ⟨sb, 0, none⟩), .int .i64 c] w fun e w' => e = ret2 0 14 ∧ Below w.heap.size w w' := by
 have h1 := Bx.mk (fun W => isCell_any c W)
 rw [show decide (0 ≤ c ∧ c ≤ 255) = true by simpa using hc] at h1
 have h2 := Bx.mk (make_full Far sb most ts (.uni c) 1 c 0 0 0 0 0 0 0 0 0 ByteArray.empty rfl hG ht (fun d ch h => by cases h) (Bytes.uni hc) hm (nodeV_key_uni c hc) w hS)
 clear hc hG hm hS ht
 go_enter Tryz.func20, Tryz.ntmps20
 go_wp2_with fail
 refine (h1.out _).mono ?_
 rintro e w1 ⟨rfl, rfl⟩
 go_wp2_with fail
 refine h2.out.mono ?_
 rintro e w1 ⟨rfl, hb⟩
 go_wp2_with fail
 go_ret2
 exact ⟨rfl, hb⟩
theorem san_u0 (W : World) (FS : Nat → Prop) (sb : Nat) (hF : ∀ k, FS k → k < W.heap.size) (most : Int) (hm : 1 ≤ most) (hS : StoreIs W FS sb most []) :
 Calls Tryz.prog 20 #[.pointer (some ⟨sb, 0, none⟩), .int .i64 0] W fun e w' => e = ret2 0 0 ∧ StoreIs w' FS sb most sn1 ∧ Keeps FS W w' := by
 refine (uniform_any W FS sb most [] 0 (by omega) (⟨Tr.Closed.nil, fun t h => by cases h⟩) (by simp []) hF hS).mono ?_
 intro e w' hg
 have := hg.fit (.inr (by rw [sn_add1]; simpa [sn1, sn2] using hm))
 rw [sn_add1, sn_id1] at this
 exact this
theorem san_u7 (W : World) (FS : Nat → Prop) (sb : Nat) (hF : ∀ k, FS k → k < W.heap.size) (most : Int) (hm : 2 ≤ most) (hS : StoreIs W FS sb most sn1) :
 Calls Tryz.prog 20 #[.pointer (some ⟨sb, 0, none⟩), .int .i64 7] W fun e w' => e = ret2 1 0 ∧ StoreIs w' FS sb most sn2 ∧ Keeps FS W w' := by
 refine (uniform_any W FS sb most sn1 7 (by omega) (sn_good1) (by simp [sn1]) hF hS).mono ?_
 intro e w' hg
 have := hg.fit (.inr (by rw [sn_add2]; simpa [sn1, sn2] using hm))
 rw [sn_add2, sn_id2] at this
 exact this
theorem san_one (W : World) : Calls Tryz.prog 23 #[.agg #[.int .i64 1, .int .i64 2, .int .i64 3], .int .i64 5] W fun e w' => ∃ a, e = .returned (.agg #[.int .i64 1, .int .i64 2, .int .i64 3, .int .i64 2, .int .i64 3, .int .i64 4, .slice a 1 1]) ∧ Sl w' .i64 a [5] ∧ (∀ b, a.map (·.block) = some b → W.heap.size ≤ b ∧ b < w'.heap.size) ∧ Below W.heap.size W w' :=
 one_any 1 2 3 5 (by omega) (by omega) (by omega) W
theorem san_from (W0 W : World) (FS : Nat → Prop) (sb : Nat) (hF : ∀ k, FS k → k < W0.heap.size) (hb : Below W0.heap.size W0 W) (a : Option Addr) (hsl : Sl W .i64 a [5]) (ha : ∀ b, a.map (·.block) = some b → W0.heap.size ≤ b ∧ b < W.heap.size) (hS : StoreIs W0 FS sb 100 sn2) :
 Calls Tryz.prog 22 #[.pointer (some ⟨sb, 0, none⟩), .agg #[.int .i64 1, .int .i64 2, .int .i64 3, .int .i64 2, .int .i64 3, .int .i64 4, .slice a 1 1], .int .i64 3] W fun e w' => e = ret2 3 0 ∧ StoreIs w' FS sb 100 sn4 ∧ Keeps FS W w' := by
 have hS' : StoreIs W (fun k => FS k ∨ (W0.heap.size ≤ k ∧ k < W.heap.size)) sb 100 sn2 := (hS.widen (fun k hk => hk.imp id (fun h => h.1))).later hb
 have hX : GoodG sanB [5] 1 := ⟨by
  constructor <;> simp only [sanB] <;> omega, by decide, by decide, by decide, by decide⟩
 have key := from_con W sb 1 2 3 2 3 4 a 1 [5] 1 (by omega) 8 (by decide) (by simp) hsl hX (by decide) (by decide) (by decide) (fun k => FS k ∨ (W0.heap.size ≤ k ∧ k < W.heap.size)) (fun _ b hb => .inr (ha b hb)) 100 sn2 sn_good2 (by
  show (Tr.add (Tr.can sanF 1 ⟨0, 0, 0⟩) sn2).length ≤ _
  rw [san_can, sn_add4]; decide) (fun k hk => hk.elim (fun h => Nat.lt_of_lt_of_le (hF k h) hb.size) (fun h => h.2)) hS'
 refine key.mono ?_
 intro e w' hg
 have e1 : Tr.can (cellG ⟨⟨1, 2, 3⟩, ⟨2, 3, 4⟩⟩ [5]) 1 ⟨0, 0, 0⟩ = sanT := san_can
 rw [e1, sn_add4] at hg
 obtain ⟨h1, h2, h3⟩ := hg.fit (.inr (by decide))
 rw [sn_idT] at h1
 exact ⟨h1, h2.less (fun k hk => .inl hk), h3.less (fun k hk => .inl hk)⟩
theorem san_set' (W : World) (FS : Nat → Prop) (sb : Nat) (hF : ∀ k, FS k → k < W.heap.size) (hS : StoreIs W FS sb 100 sn4) :
 Calls Tryz.prog 25 #[.pointer (some ⟨sb, 0, none⟩), .int .i64 3, .int .i64 3, .agg #[.int .i64 1, .int .i64 2, .int .i64 3], .int .i64 0] W fun e w' => e = ret2 0 0 ∧ StoreIs w' FS sb 100 sn4 ∧ Keeps FS W w' := by
 have key := set_new W sb 1 (by omega) 1 2 3 0 (by decide) (by decide) FS 100 sn4 sanT (by simp [sn4]) san_dep sn_good4 (by decide) hS (by rw [san_get]; decide) (by rw [san_add_set]; decide) hF
 rw [sn_idT] at key
 refine key.mono ?_
 intro e w' hg
 rw [san_add_set] at hg
 obtain ⟨h1, h2, h3⟩ := hg.fit (.inl rfl)
 rw [san_set, sn_id0] at h1
 exact ⟨h1, h2, h3⟩
theorem san_part' (W : World) (FS : Nat → Prop) (sb : Nat) (hS : StoreIs W FS sb 100 sn4) :
 Calls Tryz.prog 12 #[.pointer (some ⟨sb, 0, none⟩), .int .i64 3, .int .i64 3, .agg #[.int .i64 4, .int .i64 0, .int .i64 0], .int .i64 2] W fun e w' => e = ret2 0 0 ∧ Below W.heap.size W w' := by
 have key := part_ok W sb 1 2 (by omega) (by omega) (by omega) 4 0 0 (by decide) (by decide) FS 100 sn4 sanT (by simp [sn4]) san_dep sn_good4 (by decide) hS
 rw [sn_idT, san_part, sn_id0] at key
 exact key
theorem san_get' (W : World) (FS : Nat → Prop) (sb : Nat) (z r : Int) (hz : 0 ≤ z ∧ z ≤ 7) (hr : Tr.getT sanT 1 ⟨1, 2, z⟩ = r) (hS : StoreIs W FS sb 100 sn4) :
 Calls Tryz.prog 15 #[.pointer (some ⟨sb, 0, none⟩), .int .i64 3, .int .i64 3, .agg #[.int .i64 1, .int .i64 2, .int .i64 z]] W fun e w' => e = .returned (.int .i64 r) ∧ Below W.heap.size W w' := by
 have key := get_in W FS sb 100 sn4 sanT (by simp [sn4]) 1 (by omega) san_dep sn_good4 (by decide) 1 2 z (inB_iff.2 (by
  simp only [cubeB, Pt.zero]
  have : (2 : Int) ^ (1 + 2) = 8 := by decide
  omega)) hS
 rw [sn_idT, hr] at key
 exact key
theorem san_children (W : World) (FS : Nat → Prop) (sb : Nat) (hS : StoreIs W FS sb 100 sn4) :
 Calls Tryz.prog 26 #[.pointer (some ⟨sb, 0, none⟩), .int .i64 3] W fun e w' => e = .returned (.agg #[.int .i64 2, .int .i64 0, .int .i64 0, .int .i64 0, .int .i64 0, .int .i64 0, .int .i64 0, .int .i64 0]) ∧ Below W.heap.size W w' := by
 have e0 : (idT sn4 (sanC 0) : Int) = 2 := by show ((idT sn4 (.brick sanL) : Nat) : Int) = 2; rw [sn_idB]; rfl
 have e1 : ∀ i : Fin 8, i ≠ 0 → (idT sn4 (sanC i) : Int) = 0 := fun i hi => by unfold sanC; rw [if_neg hi, sn_id0]; rfl
 have hV : nodeV sn4 sanT = nodeA 3 0 ByteArray.empty 3 2 0 0 0 0 0 0 0 := by
  show nodeA 3 0 ByteArray.empty ((3 : Nat) : Int) (idT sn4 (sanC 0) : Int) (idT sn4 (sanC 1) : Int) (idT sn4 (sanC 2) : Int) (idT sn4 (sanC 3) : Int) (idT sn4 (sanC 4) : Int) (idT sn4 (sanC 5) : Int) (idT sn4 (sanC 6) : Int) (idT sn4 (sanC 7) : Int) = _
  rw [e0, e1 1 (by decide), e1 2 (by decide), e1 3 (by decide), e1 4 (by decide), e1 5 (by decide), e1 6 (by decide), e1 7 (by decide)]
  rfl
 exact children_any FS sb 100 sn4 3 sanT rfl 2 0 0 0 0 0 0 0 (fun j u h => by
  rw [hV]
  match j, h with
  | 0, h => exact h
  | 1, h => exact h
  | 2, h => exact h
  | 3, h => exact h
  | 4, h => exact h
  | 5, h => exact h
  | 6, h => exact h
  | 7, h => exact h
  | j + 8, h => simp at h) W hS
theorem san_cells (W : World) (FS : Nat → Prop) (sb : Nat) (hS : StoreIs W FS sb 100 sn4) :
 Calls Tryz.prog 29 #[.pointer (some ⟨sb, 0, none⟩), .int .i64 2] W fun e w' => ∃ a cap, e = .returned (.slice a 64 cap) ∧ Below W.heap.size W w' := by
 have key := cells_any W FS sb 100 sn4 (.brick sanL) (by simp [sn4]) sn_good4 (by decide) hS
 rw [sn_idB] at key
 refine key.mono ?_
 rintro e w' ⟨v, rfl, hown, hb⟩
 obtain ⟨a, cap, rfl, _⟩ := hown.form
 exact ⟨a, cap, rfl, hb⟩
theorem san_kind0 (W : World) (FS : Nat → Prop) (sb : Nat) (hS : StoreIs W FS sb 100 sn4) :
 Calls Tryz.prog 27 #[.pointer (some ⟨sb, 0, none⟩), .int .i64 0] W fun e w' => e = .returned (.int .i64 1) ∧ W = w' :=
 kind_any FS sb 100 sn4 0 _ rfl 1 rfl (by decide) W hS
theorem san_kind2 (W : World) (FS : Nat → Prop) (sb : Nat) (hS : StoreIs W FS sb 100 sn4) :
 Calls Tryz.prog 27 #[.pointer (some ⟨sb, 0, none⟩), .int .i64 2] W fun e w' => e = .returned (.int .i64 2) ∧ W = w' :=
 kind_any FS sb 100 sn4 2 _ rfl 2 rfl (by decide) W hS
theorem san_kind3 (W : World) (FS : Nat → Prop) (sb : Nat) (hS : StoreIs W FS sb 100 sn4) :
 Calls Tryz.prog 27 #[.pointer (some ⟨sb, 0, none⟩), .int .i64 3] W fun e w' => e = .returned (.int .i64 3) ∧ W = w' :=
 kind_any FS sb 100 sn4 3 _ rfl 3 rfl (by decide) W hS
theorem san_depth0 (W : World) (FS : Nat → Prop) (sb : Nat) (hS : StoreIs W FS sb 100 sn4) :
 Calls Tryz.prog 28 #[.pointer (some ⟨sb, 0, none⟩), .int .i64 0] W fun e w' => e = .returned (.int .i64 0) ∧ W = w' :=
 depth_any FS sb 100 sn4 0 _ rfl 0 rfl (by decide) W hS
theorem san_depth2 (W : World) (FS : Nat → Prop) (sb : Nat) (hS : StoreIs W FS sb 100 sn4) :
 Calls Tryz.prog 28 #[.pointer (some ⟨sb, 0, none⟩), .int .i64 2] W fun e w' => e = .returned (.int .i64 2) ∧ W = w' :=
 depth_any FS sb 100 sn4 2 _ rfl 2 rfl (by decide) W hS
theorem san_depth3 (W : World) (FS : Nat → Prop) (sb : Nat) (hS : StoreIs W FS sb 100 sn4) :
 Calls Tryz.prog 28 #[.pointer (some ⟨sb, 0, none⟩), .int .i64 3] W fun e w' => e = .returned (.int .i64 3) ∧ W = w' :=
 depth_any FS sb 100 sn4 3 _ rfl 3 rfl (by decide) W hS
theorem san_len (W : World) (FS : Nat → Prop) (sb : Nat) (most : Int) (ts : List Tr) (n : Int) (hn : (ts.length : Int) = n) (hS : StoreIs W FS sb most ts) :
 Calls Tryz.prog 21 #[.pointer (some ⟨sb, 0, none⟩)] W fun e w' => e = .returned (.int .i64 n) ∧ W = w' := by
 rw [← hn]; exact len_any FS sb most ts W hS
theorem san_bad (W : World) (sb : Nat) :
 Calls Tryz.prog 22 #[.pointer (some ⟨sb, 0, none⟩), .agg #[.int .i64 0, .int .i64 0, .int .i64 0, .int .i64 0, .int .i64 0, .int .i64 0, .slice none 0 0], .int .i64 15] W fun e w' => e = ret2 0 13 ∧ Below W.heap.size W w' :=
 from_hi W sb 0 0 0 0 0 0 15 none 0 [] (by omega) (by omega)
end Go.Proofs.YtabclecmehdeoaaGreatDoor
end
section
namespace Go.Proofs.YtabclecmehdeoaaGreatDoor
open Go.RowKit Go.Sort Go.Maps
open Oct
set_option maxRecDepth 100000 in
set_option maxHeartbeats 4000000 in
theorem sanity_true (w : World) : Calls Tryz.prog 4 #[] w fun e w' => e = .returned (.bool true) ∧ Below w.heap.size w w' := by
 have hat := Bx.mk (fun X Y Z W => at_any' X Y Z W)
 go_enter Tryz.func4, Tryz.ntmps4
 go_wp2_with fail
 refine (newStore_any 100 _).mono ?_
 rintro _ w1 ⟨sb, rfl, hS1, hb1⟩
 have HS1 := Bx.mk hS1
 have HB1 := Bx.mk hb1
 clear hS1 hb1
 go_wp2_with fail
 refine (newStore_any 1 _).mono ?_
 rintro _ w2 ⟨sm, rfl, hM2, hb2⟩
 obtain ⟨FS, hFS⟩ : ∃ FS : Nat → Prop, FS = fun k => k < w.heap.size ∨ (w1.heap.size ≤ k ∧ k < w2.heap.size) := ⟨_, rfl⟩
 have HFS := Bx.mk hFS
 have HS : Bx (StoreIs w2 FS sb 100 []) := ⟨by rw [hFS]; exact (HS1.out.widen (fun k hk => hk.imp id (fun h => h.1))).later hb2⟩
 have HM : Bx (StoreIs w2 (fun k => k < w1.heap.size ∨ w2.heap.size ≤ k) sm 1 []) := ⟨hM2.widen (fun k hk => hk)⟩
 have HB := Bx.mk (HB1.out.trans (hb2.mono HB1.out.size))
 have hz1 := HB1.out.size
 have hz2 := hb2.size
 have HF2 : Bx (∀ W : World, w2.heap.size ≤ W.heap.size → ∀ k, FS k → k < W.heap.size) := ⟨fun W hW k hk => by rw [hFS] at hk; rcases hk with hk | hk <;> omega⟩
 have HL : Bx (∀ k, k < w.heap.size → FS k) := ⟨fun k hk => by rw [hFS]; exact .inl hk⟩
 clear hFS hM2 hb2 HS1 HB1
 have hK : Bx (Keeps FS w2 w2) := ⟨Keeps.refl _ _⟩
 have hZ : w2.heap.size ≤ w2.heap.size := Nat.le_refl _
 go_wp2_with fail
 refine (san_u0 _ FS sb (HF2.out _ hZ) 100 (by omega) HS.out).mono ?_
 rintro _ w3 ⟨rfl, hs, hk⟩
 replace HS := Bx.mk hs
 replace hK := Bx.mk (hK.out.trans hk)
 replace hZ := Nat.le_trans hZ hk.size
 clear hs hk
 go_wp2_with fail
 refine (san_u7 _ FS sb (HF2.out _ hZ) 100 (by omega) HS.out).mono ?_
 rintro _ w4 ⟨rfl, hs, hk⟩
 replace HS := Bx.mk hs
 replace hK := Bx.mk (hK.out.trans hk)
 replace hZ := Nat.le_trans hZ hk.size
 clear hs hk
 go_wp2_with fail
 refine (san_len _ FS sb 100 sn2 2 rfl HS.out).mono ?_
 rintro _ w5 ⟨rfl, rfl⟩
 go_wp2_with fail
 refine (hat.out _ _ _ _).mono ?_
 rintro _ w5 ⟨rfl, hb⟩
 replace HS := Bx.mk (HS.out.later hb)
 replace hK := Bx.mk (hK.out.trans (Keeps.below hb))
 replace hZ := Nat.le_trans hZ hb.size
 clear hb
 have HS5 := HS
 have hZ5 := hZ
 go_wp2_with fail
 refine (san_one _).mono ?_
 rintro _ w6 ⟨aa, rfl, hsl, ha, hb⟩
 have hsl := Bx.mk hsl
 have ha := Bx.mk ha
 replace hK := Bx.mk (hK.out.trans (Keeps.below hb))
 replace hZ := Nat.le_trans hZ hb.size
 have hb6 := Bx.mk hb
 clear hb
 go_wp2_with fail
 refine (san_from _ _ FS sb (HF2.out _ hZ5) hb6.out aa hsl.out ha.out HS5.out).mono ?_
 rintro _ w7 ⟨rfl, hs, hk⟩
 replace HS := Bx.mk hs
 replace hK := Bx.mk (hK.out.trans hk)
 replace hZ := Nat.le_trans hZ hk.size
 clear hs hk
 clear HS5 hZ5 hsl ha hb6
 go_wp2_with fail
 refine (san_len _ FS sb 100 sn4 4 rfl HS.out).mono ?_
 rintro _ w8 ⟨rfl, rfl⟩
 go_wp2_with fail
 refine (hat.out _ _ _ _).mono ?_
 rintro _ w8 ⟨rfl, hb⟩
 replace HS := Bx.mk (HS.out.later hb)
 replace hK := Bx.mk (hK.out.trans (Keeps.below hb))
 replace hZ := Nat.le_trans hZ hb.size
 clear hb
 go_wp2_with fail
 refine (san_set' _ FS sb (HF2.out _ hZ) HS.out).mono ?_
 rintro _ w9 ⟨rfl, hs, hk⟩
 replace HS := Bx.mk hs
 replace hK := Bx.mk (hK.out.trans hk)
 replace hZ := Nat.le_trans hZ hk.size
 clear hs hk
 go_wp2_with fail
 refine (hat.out _ _ _ _).mono ?_
 rintro _ w10 ⟨rfl, hb⟩
 replace HS := Bx.mk (HS.out.later hb)
 replace hK := Bx.mk (hK.out.trans (Keeps.below hb))
 replace hZ := Nat.le_trans hZ hb.size
 clear hb
 go_wp2_with fail
 refine (san_part' _ FS sb HS.out).mono ?_
 rintro _ w11 ⟨rfl, hb⟩
 replace HS := Bx.mk (HS.out.later hb)
 replace hK := Bx.mk (hK.out.trans (Keeps.below hb))
 replace hZ := Nat.le_trans hZ hb.size
 clear hb
 have HM11 : Bx (StoreIs w11 (fun k => k < w1.heap.size ∨ w2.heap.size ≤ k) sm 1 []) := ⟨HM.out.other hK.out (fun k h1 h2 => by rw [HFS.out]; right; omega)⟩
 have HM12 : Bx (StoreIs w11 (fun k => (k < w1.heap.size ∨ w2.heap.size ≤ k) ∧ k < w11.heap.size) sm 1 []) := ⟨HM11.out.less (fun k hk => hk.1)⟩
 clear HM HM11
 have hZ11 := hZ
 go_wp2_with fail
 refine (san_u0 w11 (fun k => (k < w1.heap.size ∨ w2.heap.size ≤ k) ∧ k < w11.heap.size) sm (fun k hk => hk.2) 1 (by omega) HM12.out).mono ?_
 rintro _ w12 ⟨rfl, hs, hk⟩
 have HM := Bx.mk hs
 have hKm := Bx.mk hk
 clear hs hk HM12
 go_wp2_with fail
 refine (uniform_full w12 _ sm 1 sn1 1 (by omega) sn_good1 (by simp [sn1]) (by decide) HM.out).mono ?_
 rintro _ w13 ⟨rfl, hb⟩
 replace HM := Bx.mk (HM.out.later hb)
 replace hKm := Bx.mk (hKm.out.trans (Keeps.below hb))
 replace hZ := Nat.le_trans (Nat.le_trans hZ11 hKm.out.size) (Nat.le_refl _)
 replace HS := Bx.mk (HS.out.other hKm.out (fun k h1 h2 => by rw [HFS.out] at h1; refine ⟨?_, h2⟩; omega))
 have HB13 := Bx.mk (below_of_keeps (below_of_keeps HB.out hK.out HL.out) hKm.out (fun k hk => ⟨.inl (by omega), by omega⟩))
 clear hb hKm hK HB HF2 HFS
 have HK := Bx.mk (Below.refl w13.heap.size w13)
 go_wp2_with fail
 refine (san_bad _ sb).mono ?_
 rintro _ w14 ⟨rfl, hb⟩
 replace HS := Bx.mk (HS.out.later hb)
 replace HM := Bx.mk (HM.out.later hb)
 replace HB13 := Bx.mk (HB13.out.trans (hb.mono HB13.out.size))
 clear hb
 go_wp2_with fail
 refine (san_children _ FS sb HS.out).mono ?_
 rintro _ w15 ⟨rfl, hb⟩
 replace HS := Bx.mk (HS.out.later hb)
 replace HM := Bx.mk (HM.out.later hb)
 replace HB13 := Bx.mk (HB13.out.trans (hb.mono HB13.out.size))
 clear hb
 go_wp2_with fail
 generalize hW16 : World.alloc w15 _ = w16
 have hb : Below w15.heap.size w15 w16 := by rw [← hW16]; exact below_lit _ _
 have kc : Bk w16 w15.heap.size #[.int .i64 2, .int .i64 0, .int .i64 0, .int .i64 0, .int .i64 0, .int .i64 0, .int .i64 0, .int .i64 0] 59 := by rw [← hW16]; exact blk_new _ _ _ rfl
 clear hW16
 replace HS := Bx.mk (HS.out.later hb)
 replace HM := Bx.mk (HM.out.later hb)
 replace HB13 := Bx.mk (HB13.out.trans (hb.mono HB13.out.size))
 clear hb
 have cc0 := kc.cell 0 rfl
 have cc7 := kc.cell 7 rfl
 have Kc := Bx.mk kc
 clear kc
 refine (san_kind0 _ FS sb HS.out).mono ?_
 rintro _ w17 ⟨rfl, rfl⟩
 go_wp2_with fail
 refine (san_kind3 _ FS sb HS.out).mono ?_
 rintro _ w17 ⟨rfl, rfl⟩
 go_wp2_with fail
 refine (san_kind2 _ FS sb HS.out).mono ?_
 rintro _ w17 ⟨rfl, rfl⟩
 go_wp2_with fail
 refine (san_depth3 _ FS sb HS.out).mono ?_
 rintro _ w17 ⟨rfl, rfl⟩
 go_wp2_with fail
 refine (san_depth2 _ FS sb HS.out).mono ?_
 rintro _ w17 ⟨rfl, rfl⟩
 go_wp2_with fail
 refine (san_depth0 _ FS sb HS.out).mono ?_
 rintro _ w17 ⟨rfl, rfl⟩
 go_wp2_with fail
 refine (san_cells _ FS sb HS.out).mono ?_
 rintro _ w18 ⟨ca, cp, rfl, hb⟩
 replace HS := Bx.mk (HS.out.later hb)
 replace HM := Bx.mk (HM.out.later hb)
 replace HB13 := Bx.mk (HB13.out.trans (hb.mono HB13.out.size))
 clear hb
 go_wp2_with fail
 refine (hat.out _ _ _ _).mono ?_
 rintro _ w19 ⟨rfl, hb⟩
 replace HS := Bx.mk (HS.out.later hb)
 replace HM := Bx.mk (HM.out.later hb)
 replace HB13 := Bx.mk (HB13.out.trans (hb.mono HB13.out.size))
 clear hb
 go_wp2_with fail
 refine (san_get' _ FS sb 3 5 (by omega) san_get HS.out).mono ?_
 rintro _ w20 ⟨rfl, hb⟩
 replace HS := Bx.mk (HS.out.later hb)
 replace HM := Bx.mk (HM.out.later hb)
 replace HB13 := Bx.mk (HB13.out.trans (hb.mono HB13.out.size))
 clear hb
 go_wp2_with fail
 refine (hat.out _ _ _ _).mono ?_
 rintro _ w21 ⟨rfl, hb⟩
 replace HS := Bx.mk (HS.out.later hb)
 replace HM := Bx.mk (HM.out.later hb)
 replace HB13 := Bx.mk (HB13.out.trans (hb.mono HB13.out.size))
 clear hb
 go_wp2_with fail
 refine (san_get' _ FS sb 4 0 (by omega) san_get2 HS.out).mono ?_
 rintro _ w22 ⟨rfl, hb⟩
 replace HS := Bx.mk (HS.out.later hb)
 replace HM := Bx.mk (HM.out.later hb)
 replace HB13 := Bx.mk (HB13.out.trans (hb.mono HB13.out.size))
 clear hb
 go_wp2_with fail
 refine (san_len _ _ sm 1 sn1 1 rfl HM.out).mono ?_
 rintro _ w23 ⟨rfl, rfl⟩
 go_wp2_with fail
 go_ret
 exact ⟨rfl, HB13.out⟩
end Go.Proofs.YtabclecmehdeoaaGreatDoor
end
section
namespace Go.Proofs.YtabclecmehdeoaaGreatDoor
open Go.RowKit Go.Sort Go.Maps
open Oct
set_option maxHeartbeats 1000000 in
theorem ref_in (px py pz a b c d e f : Int) (w : World) :
 Calls Tryz.prog 39 #[.agg #[.int .i64 px, .int .i64 py, .int .i64 pz], .agg #[.int .i64 a, .int .i64 b, .int .i64 c, .int .i64 d, .int .i64 e, .int .i64 f]] w fun e' w' => e' = .returned (.bool (inB ⟨px, py, pz⟩ ⟨⟨a, b, c⟩, ⟨d, e, f⟩⟩)) ∧ Below w.heap.size w w' := by
 go_enter Tryz.func39, Tryz.ntmps39
 go_wp2_with fail
 all_goals
  go_ret
  exact ⟨ret_bool (by rw [Bool.eq_iff_iff]; simp [inB]; omega), ((Below.refl _ _).alloc (Nat.le_refl _) _).alloc (by simp) _⟩
theorem ref_empty (a b c d e f : Int) (w : World) :
 Calls Tryz.prog 72 #[.agg #[.int .i64 a, .int .i64 b, .int .i64 c, .int .i64 d, .int .i64 e, .int .i64 f]] w fun e' w' => e' = .returned (.bool (emptyB ⟨⟨a, b, c⟩, ⟨d, e, f⟩⟩)) ∧ Below w.heap.size w w' := by
 go_enter Tryz.func72, Tryz.ntmps72
 go_wp2_with fail
 all_goals
  go_ret
  exact ⟨ret_bool (by rw [Bool.eq_iff_iff]; simp [emptyB, inB]; omega), (Below.refl _ _).alloc (Nat.le_refl _) _⟩
theorem ref_sub (px py pz qx qy qz : Int) (h1 : -4000000000 ≤ px ∧ px ≤ 4000000000) (h2 : -4000000000 ≤ py ∧ py ≤ 4000000000) (h3 : -4000000000 ≤ pz ∧ pz ≤ 4000000000) (h4 : -4000000000 ≤ qx ∧ qx ≤ 4000000000) (h5 : -4000000000 ≤ qy ∧ qy ≤ 4000000000) (h6 : -4000000000 ≤ qz ∧ qz ≤ 4000000000) (w : World) :
 Calls Tryz.prog 73 #[.agg #[.int .i64 px, .int .i64 py, .int .i64 pz], .agg #[.int .i64 qx, .int .i64 qy, .int .i64 qz]] w fun e' w' => e' = .returned (.agg #[.int .i64 (px - qx), .int .i64 (py - qy), .int .i64 (pz - qz)]) ∧ Below w.heap.size w w' := by
 obtain ⟨a1, a2⟩ := h1
 obtain ⟨a3, a4⟩ := h2
 obtain ⟨a5, a6⟩ := h3
 obtain ⟨b1, b2⟩ := h4
 obtain ⟨b3, b4⟩ := h5
 obtain ⟨b5, b6⟩ := h6
 go_enter Tryz.func73, Tryz.ntmps73
 go_wp2_with fail
 generalize hW : World.alloc (World.alloc (World.alloc w _) _) _ = W
 have hB : Below w.heap.size w W := by rw [← hW]; exact (((Below.refl _ _).alloc (Nat.le_refl _) _).alloc (by simp) _).alloc (by simp; omega) _
 have kr : Bk W (w.heap.size + 1 + 1) #[.int .i64 (px - qx), .int .i64 (py - qy), .int .i64 (pz - qz)] 23 := by rw [← hW]; exact blk_new _ _ _ (by simp)
 clear hW
 exact bodyPost_ret (v := .agg #[.int .i64 (px - qx), .int .i64 (py - qy), .int .i64 (pz - qz)]) (results_cell_row rfl _ _ _ 23 #[.int .i64 (px - qx), .int .i64 (py - qy), .int .i64 (pz - qz)] (0, 0) _ rfl kr Tryz.underlying23 rfl (by kernel_rfl)) rfl ⟨rfl, hB⟩
theorem ref_add (px py pz qx qy qz : Int) (h1 : -4000000000 ≤ px ∧ px ≤ 4000000000) (h2 : -4000000000 ≤ py ∧ py ≤ 4000000000) (h3 : -4000000000 ≤ pz ∧ pz ≤ 4000000000) (h4 : -4000000000 ≤ qx ∧ qx ≤ 4000000000) (h5 : -4000000000 ≤ qy ∧ qy ≤ 4000000000) (h6 : -4000000000 ≤ qz ∧ qz ≤ 4000000000) (w : World) :
 Calls Tryz.prog 88 #[.agg #[.int .i64 px, .int .i64 py, .int .i64 pz], .agg #[.int .i64 qx, .int .i64 qy, .int .i64 qz]] w fun e' w' => e' = .returned (.agg #[.int .i64 (px + qx), .int .i64 (py + qy), .int .i64 (pz + qz)]) ∧ Below w.heap.size w w' := by
 obtain ⟨a1, a2⟩ := h1
 obtain ⟨a3, a4⟩ := h2
 obtain ⟨a5, a6⟩ := h3
 obtain ⟨b1, b2⟩ := h4
 obtain ⟨b3, b4⟩ := h5
 obtain ⟨b5, b6⟩ := h6
 go_enter Tryz.func88, Tryz.ntmps88
 go_wp2_with fail
 generalize hW : World.alloc (World.alloc (World.alloc w _) _) _ = W
 have hB : Below w.heap.size w W := by rw [← hW]; exact (((Below.refl _ _).alloc (Nat.le_refl _) _).alloc (by simp) _).alloc (by simp; omega) _
 have kr : Bk W (w.heap.size + 1 + 1) #[.int .i64 (px + qx), .int .i64 (py + qy), .int .i64 (pz + qz)] 23 := by rw [← hW]; exact blk_new _ _ _ (by simp)
 clear hW
 exact bodyPost_ret (v := .agg #[.int .i64 (px + qx), .int .i64 (py + qy), .int .i64 (pz + qz)]) (results_cell_row rfl _ _ _ 23 #[.int .i64 (px + qx), .int .i64 (py + qy), .int .i64 (pz + qz)] (0, 0) _ rfl kr Tryz.underlying23 rfl (by kernel_rfl)) rfl ⟨rfl, hB⟩
theorem ref_size (a b c d e f : Int) (hS : Small ⟨⟨a, b, c⟩, ⟨d, e, f⟩⟩ 1048575) (he : emptyB ⟨⟨a, b, c⟩, ⟨d, e, f⟩⟩ = false) (w : World) :
 Calls Tryz.prog 30 #[.agg #[.int .i64 a, .int .i64 b, .int .i64 c, .int .i64 d, .int .i64 e, .int .i64 f]] w fun e' w' => e' = .returned (.agg #[.int .i64 (d - a), .int .i64 (e - b), .int .i64 (f - c)]) ∧ Below w.heap.size w w' := by
 obtain ⟨s1, s2, s3, s4, s5, s6⟩ := hS
 simp only [] at s1 s2 s3 s4 s5 s6
 have hem := Bx.mk (fun W => ref_empty a b c d e f W)
 have he2 := emptyB_iff.1 he
 simp only [] at he2
 have hsub := Bx.mk (fun W => ref_sub d e f a b c (by omega) (by omega) (by omega) (by omega) (by omega) (by omega) W)
 rw [he] at hem
 clear s1 s2 s3 s4 s5 s6 he he2
 go_enter Tryz.func30, Tryz.ntmps30
 go_wp2_with fail
 generalize hW : World.alloc (World.alloc w _) _ = W
 have hSz : w.heap.size + 1 + 1 ≤ W.heap.size := by rw [← hW]; simp
 have hB : Below w.heap.size w W := by rw [← hW]; exact ((Below.refl _ _).alloc (Nat.le_refl _) _).alloc (by simp) _
 have kb : Bk W (w.heap.size) #[.int .i64 a, .int .i64 b, .int .i64 c, .int .i64 d, .int .i64 e, .int .i64 f] 25 := by rw [← hW]; exact blk_old (blk_new _ _ _ (by simp))
 have kr : Bk W (w.heap.size + 1) #[.int .i64 0, .int .i64 0, .int .i64 0] 23 := by rw [← hW]; exact blk_new _ _ _ (by simp)
 clear hW
 refine (hem.out _).mono ?_
 rintro e1 w1 ⟨rfl, hb⟩
 replace hB := hB.trans (hb.mono hB.size)
 replace kb := kb.later hb
 replace kr := kr.later hb
 replace hSz := Nat.le_trans hSz hb.size
 clear hb
 obtain ⟨cb0, cb1, cb2, cb3, cb4, cb5⟩ := kb.c6
 go_wp2_with fail
 refine (hsub.out _).mono ?_
 rintro e2 w2 ⟨rfl, hb⟩
 clear cb0 cb1 cb2 cb3 cb4 cb5
 replace hB := hB.trans (hb.mono hB.size)
 replace kb := kb.later hb
 replace kr := kr.later hb
 replace hSz := Nat.le_trans hSz hb.size
 clear hb
 obtain ⟨cr0, cr1, cr2⟩ := kr.c3
 obtain ⟨fr0, fr1, fr2⟩ := kr.f3
 go_wp2_with fail
 replace kr := kr.put3 (.int .i64 (d - a)) (.int .i64 (e - b)) (.int .i64 (f - c))
 exact bodyPost_ret (v := .agg #[.int .i64 (d - a), .int .i64 (e - b), .int .i64 (f - c)]) (results_cell_row rfl _ _ _ 23 #[.int .i64 (d - a), .int .i64 (e - b), .int .i64 (f - c)] (0, 0) _ rfl kr Tryz.underlying23 rfl (by kernel_rfl)) rfl ⟨rfl, blw3 hB (by omega) _ _ _⟩
theorem ref_size0 (a b c d e f : Int) (he : emptyB ⟨⟨a, b, c⟩, ⟨d, e, f⟩⟩ = true) (w : World) :
 Calls Tryz.prog 30 #[.agg #[.int .i64 a, .int .i64 b, .int .i64 c, .int .i64 d, .int .i64 e, .int .i64 f]] w fun e' w' => e' = .returned (.agg #[.int .i64 0, .int .i64 0, .int .i64 0]) ∧ Below w.heap.size w w' := by
 have hem := Bx.mk (fun W => ref_empty a b c d e f W)
 rw [he] at hem
 clear he
 go_enter Tryz.func30, Tryz.ntmps30
 go_wp2_with fail
 generalize hW : World.alloc (World.alloc w _) _ = W
 have hSz : w.heap.size + 1 + 1 ≤ W.heap.size := by rw [← hW]; simp
 have hB : Below w.heap.size w W := by rw [← hW]; exact ((Below.refl _ _).alloc (Nat.le_refl _) _).alloc (by simp) _
 have kb : Bk W (w.heap.size) #[.int .i64 a, .int .i64 b, .int .i64 c, .int .i64 d, .int .i64 e, .int .i64 f] 25 := by rw [← hW]; exact blk_old (blk_new _ _ _ (by simp))
 have kr : Bk W (w.heap.size + 1) #[.int .i64 0, .int .i64 0, .int .i64 0] 23 := by rw [← hW]; exact blk_new _ _ _ (by simp)
 clear hW
 refine (hem.out _).mono ?_
 rintro e1 w1 ⟨rfl, hb⟩
 replace hB := hB.trans (hb.mono hB.size)
 replace kb := kb.later hb
 replace kr := kr.later hb
 replace hSz := Nat.le_trans hSz hb.size
 clear hb
 obtain ⟨cr0, cr1, cr2⟩ := kr.c3
 obtain ⟨fr0, fr1, fr2⟩ := kr.f3
 go_wp2_with fail
 replace kr := kr.put3 (.int .i64 0) (.int .i64 0) (.int .i64 0)
 exact bodyPost_ret (v := .agg #[.int .i64 0, .int .i64 0, .int .i64 0]) (results_cell_row rfl _ _ _ 23 #[.int .i64 0, .int .i64 0, .int .i64 0] (0, 0) _ rfl kr Tryz.underlying23 rfl (by kernel_rfl)) rfl ⟨rfl, blw3 hB (by omega) _ _ _⟩
end Go.Proofs.YtabclecmehdeoaaGreatDoor
end
