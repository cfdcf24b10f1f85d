/- Crop2, Bld, Bld2: joined by program, for one claim. -/
import Derived.Test.YtabclecmehdeoaaGreatDoorM15
import Derived.Deep.Cut
import Derived.Test.YtabclecmehdeoaaGreatDoorM12
section
namespace Go.Proofs.YtabclecmehdeoaaGreatDoor
open Go.RowKit Go.Sort
theorem crop_law {A B : Box} {ys : List Int} {n : Nat} (_hn : (volB A).toNat = n) : pasteL A B (List.replicate n 0) ys = cellsOf A (cellG B ys) := by
 refine cellsOf_congr fun p hp => ?_
 split
 · rfl
 · rename_i h
   have e : cellG B ys p = 0 := by unfold cellG; rw [if_neg h]
   rw [e]
   unfold cellG
   rw [if_pos hp, List.getD_eq_getElem?_getD, List.getElem?_replicate]
   split <;> rfl
set_option maxRecDepth 100000 in
set_option maxHeartbeats 1000000 in
theorem crop_full (a b c d e f a2 b2 c2 d2 e2 f2 : Int) (ha : Option Addr) (hcp n : Nat) (ys : List Int) (h0 : newE ⟨⟨a, b, c⟩, ⟨d, e, f⟩⟩ 0 = 0) (hem : emptyB ⟨⟨a, b, c⟩, ⟨d, e, f⟩⟩ = false) (hn : volB ⟨⟨a, b, c⟩, ⟨d, e, f⟩⟩ = (n : Int)) (hSB : Small ⟨⟨a2, b2, c2⟩, ⟨d2, e2, f2⟩⟩ 1048575)
 (hyl : ys.length = (volB ⟨⟨a2, b2, c2⟩, ⟨d2, e2, f2⟩⟩).toNat) (hY : ys.length ≤ 4194304) (hcap : ys.length ≤ hcp) (w : World) (hx : Sl w .i64 ha ys) :
 Calls Tryz.prog 63 #[.agg #[.int .i64 a2, .int .i64 b2, .int .i64 c2, .int .i64 d2, .int .i64 e2, .int .i64 f2, .slice ha ys.length hcp], .agg #[.int .i64 a, .int .i64 b, .int .i64 c, .int .i64 d, .int .i64 e, .int .i64 f]] w (RetG a b c d e f (cellsOf ⟨⟨a, b, c⟩, ⟨d, e, f⟩⟩ (cellG ⟨⟨a2, b2, c2⟩, ⟨d2, e2, f2⟩⟩ ys)) 0 w) := by
 have hok : okB ⟨⟨a, b, c⟩, ⟨d, e, f⟩⟩ = true ∧ volB ⟨⟨a, b, c⟩, ⟨d, e, f⟩⟩ ≤ 2097152 := by
  unfold newE at h0
  split at h0
  · cases h0
  · rename_i h1
    split at h0
    · cases h0
    · exact ⟨by cases h : okB ⟨⟨a, b, c⟩, ⟨d, e, f⟩⟩ <;> simp_all, by omega⟩
 have hnn : (volB ⟨⟨a, b, c⟩, ⟨d, e, f⟩⟩).toNat = n := by omega
 have hpos := atB_pos hem
 have hc := Bx.mk fun W => new_full a b c d e f 0 h0 hem n hn W
 have hp := Bx.mk fun pa pc W h1 h2 => paste_any a b c d e f a2 b2 c2 d2 e2 f2 pa ha pc hcp (List.replicate n 0) ys W (okB_small hok.1) hSB (by rw [List.length_replicate, hnn]) hyl (by rw [List.length_replicate]; omega) (by rw [List.length_replicate]; omega) hY hcap h1 h2
 rw [crop_law hnn, List.length_replicate] at hp
 have hz := Bx.mk ((cellsOf_length ⟨⟨a, b, c⟩, ⟨d, e, f⟩⟩ (cellG ⟨⟨a2, b2, c2⟩, ⟨d2, e2, f2⟩⟩ ys)).trans hnn)
 have Hx := Bx.mk hx
 clear h0 hem hn hSB hyl hY hcap hx hok hpos hnn
 generalize cellsOf ⟨⟨a, b, c⟩, ⟨d, e, f⟩⟩ (cellG ⟨⟨a2, b2, c2⟩, ⟨d2, e2, f2⟩⟩ ys) = zs at *
 go_enter Tryz.func63, Tryz.ntmps63
 go_wp2_with fail
 generalize hW : World.alloc (World.alloc (World.alloc w _) _) _ = W
 have hSz : w.heap.size + 1 + 1 + 1 ≤ W.heap.size := by rw [← hW]; simp
 have hB : Below w.heap.size w W := by rw [← hW]; exact (((Below.refl _ _).alloc (Nat.le_refl _) _).alloc (by simp) _).alloc (by simp; omega) _
 have kh : Bk W (w.heap.size) #[.int .i64 a2, .int .i64 b2, .int .i64 c2, .int .i64 d2, .int .i64 e2, .int .i64 f2, .slice ha ys.length hcp] 28 := by rw [← hW]; exact blk_old (blk_old (blk_new _ _ _ (by simp)))
 have kb : Bk W (w.heap.size + 1) #[.int .i64 a, .int .i64 b, .int .i64 c, .int .i64 d, .int .i64 e, .int .i64 f] 25 := by rw [← hW]; exact blk_old (blk_new _ _ _ (by simp))
 have kr : Bk W (w.heap.size + 1 + 1) #[.int .i64 0, .int .i64 0, .int .i64 0, .int .i64 0, .int .i64 0, .int .i64 0, .slice none 0 0] 28 := by rw [← hW]; exact blk_new _ _ _ (by simp)
 clear hW
 obtain ⟨cb0, cb1, cb2, cb3, cb4, cb5⟩ := kb.c6
 go_wp2_with fail
 refine (hc.out _).mono ?_
 rintro e' w1 ⟨pa, pc, rfl, ho, hb1⟩
 rw [List.length_replicate] at ho ⊢
 have hx1 := (Hx.out.below hB).below hb1
 obtain ⟨Bd, hBd⟩ : ∃ Bd, Bd = W.heap.size := ⟨_, rfl⟩
 rw [← hBd] at ho
 have hSd : w.heap.size + 3 ≤ Bd := by omega
 clear hc Hx hBd
 clear cb0 cb1 cb2 cb3 cb4 cb5
 replace hB := hB.trans (hb1.mono hB.size)
 replace kh := kh.later hb1
 replace kb := kb.later hb1
 replace kr := kr.later hb1
 replace hSz := Nat.le_trans hSz hb1.size
 clear hb1
 go_upto_region 2 with fail
 obtain ⟨go, hgo⟩ : ∃ go, go = w1.heap.size := ⟨_, rfl⟩
 generalize hW2 : World.alloc w1 _ = W2
 have hb2 : Below w1.heap.size w1 W2 := by rw [← hW2]; exact (Below.refl _ _).alloc (Nat.le_refl _) _
 have ko : Bk W2 go #[.int .i64 a, .int .i64 b, .int .i64 c, .int .i64 d, .int .i64 e, .int .i64 f, .slice pa n pc] 28 := by rw [hgo, ← hW2]; exact blk_new _ _ _ rfl
 have hx2 := hx1.below hb2
 have ho2 := ho.sl.below hb2
 rw [← hgo]
 have hgl : w.heap.size ≤ go := by omega
 clear hW2 ho hx1
 replace hB := hB.trans (hb2.mono hB.size)
 replace kh := kh.later hb2
 replace kb := kb.later hb2
 replace kr := kr.later hb2
 replace hSz := Nat.le_trans hSz hb2.size
 clear hb2
 obtain ⟨ch0, ch1, ch2, ch3, ch4, ch5, ch6⟩ := kh.c7
 obtain ⟨co0, co1, co2, co3, co4, co5, co6⟩ := ko.c7
 clear hgo
 have Hx := Bx.mk hx2
 have Ho := Bx.mk ho2
 clear hx2 ho2
 go_wp2_with fail
 refine (hp.out pa pc _ Hx.out Ho.out).mono ?_
 rintro e' w3 ⟨qa, qc, rfl, -, hown, hb3⟩
 obtain ⟨Be, hBe⟩ : ∃ Be, Be = W2.heap.size := ⟨_, rfl⟩
 rw [← hBe] at hown
 have hSe : w.heap.size + 3 ≤ Be := by omega
 have Ho2 := Bx.mk hown
 clear hown hBe hp Hx Ho
 clear ch0 ch1 ch2 ch3 ch4 ch5 ch6 co0 co1 co2 co3 co4 co5 co6
 replace hB := hB.trans (hb3.mono hB.size)
 replace kh := kh.later hb3
 replace kb := kb.later hb3
 replace kr := kr.later hb3
 replace hSz := Nat.le_trans hSz hb3.size
 clear hb3
 obtain ⟨cr0, cr1, cr2, cr3, cr4, cr5, cr6⟩ := kr.c7
 obtain ⟨fr0, fr1, fr2, fr3, fr4, fr5, fr6⟩ := kr.f7
 go_wp2_with fail
 replace kr := kr.put7 (.int .i64 a) (.int .i64 b) (.int .i64 c) (.int .i64 d) (.int .i64 e) (.int .i64 f) (.slice qa n qc)
 obtain ⟨z0, z1, z2, z3, z4, z5, z6⟩ := kr.c7
 exact bodyPost_ret (v := .tuple #[.agg #[.int .i64 a, .int .i64 b, .int .i64 c, .int .i64 d, .int .i64 e, .int .i64 f, .slice qa n qc], .int .i64 0]) (by simp [results, Tryz.results63, go_sem, z0, z1, z2, z3, z4, z5, z6]) rfl ⟨qa, qc, by rw [hz.out], by
  rw [hz.out]
  exact (((((((Ho2.out.setBelow (by simp; omega) _).setBelow (by simp; omega) _).setBelow (by simp; omega) _).setBelow (by simp; omega) _).setBelow (by simp; omega) _).setBelow (by simp; omega) _).setBelow (by simp; omega) _).base (by omega), blw7 hB (by omega) _ _ _ _ _ _ _⟩
end Go.Proofs.YtabclecmehdeoaaGreatDoor
end
section
namespace Go.Proofs.YtabclecmehdeoaaGreatDoor
open Go.RowKit Go.Sort Go.Maps
open Oct
structure BCtx (w : World) (Far : Nat → Prop) (pg ps pb sb : Nat) (a b c d e f : Int) (ha : Option Addr) (hcp : Nat) (xs : List Int) : Prop where
 kg : Bk w pg #[.int .i64 a, .int .i64 b, .int .i64 c, .int .i64 d, .int .i64 e, .int .i64 f, .slice ha xs.length hcp] 28
 kr : Bk w ps #[.pointer (some ⟨sb, 0, none⟩)] 32
 kb : Bk w pb #[.func (.func 61) #[] #[.pointer (some ⟨pg, 0, none⟩), .pointer (some ⟨ps, 0, none⟩), .pointer (some ⟨pb, 0, none⟩)]] 99
 fg : Far pg
 fr : Far ps
 fb : Far pb
 sl : Sl w .i64 ha xs
 fx : xs ≠ [] → ∀ b, ha.map (·.block) = some b → Far b
theorem Sl.far {w w' : World} {Far : Nat → Prop} {k : IntKind} {ha : Option Addr} {xs : List Int} (h : Sl w k ha xs) (hk : Keeps Far w w') (hf : xs ≠ [] → ∀ b, ha.map (·.block) = some b → Far b) : Sl w' k ha xs := by
 intro i x hx
 obtain ⟨b, off, rfl, hc⟩ := h i x hx
 refine ⟨b, off, rfl, ?_⟩
 have hlt := World.block_lt_of_cell? w _ hc
 rw [World.cell?_of_block (hk.block b (hf (by rintro rfl; simp at hx) b rfl) hlt)]; exact hc
section
variable {w w' : World} {Far Far' : Nat → Prop} {pg ps pb sb : Nat} {a b c d e f : Int} {ha : Option Addr} {hcp : Nat} {xs : List Int}
theorem BCtx.far (h : BCtx w Far pg ps pb sb a b c d e f ha hcp xs) (hk : Keeps Far w w') : BCtx w' Far pg ps pb sb a b c d e f ha hcp xs :=
 ⟨h.kg.far hk h.fg, h.kr.far hk h.fr, h.kb.far hk h.fb, h.fg, h.fr, h.fb, h.sl.far hk h.fx, h.fx⟩
theorem BCtx.later (h : BCtx w Far pg ps pb sb a b c d e f ha hcp xs) (hb : Below w.heap.size w w') : BCtx w' Far pg ps pb sb a b c d e f ha hcp xs := h.far (Keeps.below hb)
theorem BCtx.wider (h : BCtx w Far pg ps pb sb a b c d e f ha hcp xs) (hf : ∀ k, Far k → Far' k) : BCtx w Far' pg ps pb sb a b c d e f ha hcp xs :=
 ⟨h.kg, h.kr, h.kb, hf _ h.fg, hf _ h.fr, hf _ h.fb, h.sl, fun hx b hb => hf _ (h.fx hx b hb)⟩
end
set_option maxRecDepth 100000 in
set_option maxHeartbeats 1000000 in
theorem build_empty (w : World) (Far : Nat → Prop) (pg ps pb sb : Nat) (a b c d e f : Int) (ha : Option Addr) (hcp : Nat) (xs : List Int) (HC : Bx (BCtx w Far pg ps pb sb a b c d e f ha hcp xs)) (n : Nat) (hn : n ≤ 12) (ax ay az m : Int) (hm : m = 2 ^ (n + 2)) (hx : 0 ≤ ax ∧ ax ≤ 16384) (hy : 0 ≤ ay ∧ ay ≤ 16384) (hz : 0 ≤ az ∧ az ≤ 16384) (he : emptyB (meetB ⟨⟨ax, ay, az⟩, ⟨ax + m, ay + m, az + m⟩⟩ ⟨⟨a, b, c⟩, ⟨d, e, f⟩⟩) = true) (most : Int) (ts : List Tr) (hG : Good ts) (hlen : ts.length ≤ 1000000000000) (hFar : ∀ k, Far k → k < w.heap.size) (hS : StoreIs w Far sb most ts) :
 Calls Tryz.prog 61 #[.agg #[.int .i64 ax, .int .i64 ay, .int .i64 az], .int .i64 ((n : Int) + 2), .pointer (some ⟨pg, 0, none⟩), .pointer (some ⟨ps, 0, none⟩), .pointer (some ⟨pb, 0, none⟩)] w (Grew Far sb most ts (Tr.add (.uni 0) ts) (.uni 0) w) := by
 have hcube := Bx.mk (fun W => cubeAt_any (n + 2) (by omega) ax ay az m hm (by omega) (by omega) (by omega) W)
 rw [show ((n + 2 : Nat) : Int) = (n : Int) + 2 by omega] at hcube
 have hmeet := Bx.mk (fun W => meet_any ax ay az (ax + m) (ay + m) (az + m) a b c d e f W)
 have hempty := Bx.mk (fun W => empty_any (meetB ⟨⟨ax, ay, az⟩, ⟨ax + m, ay + m, az + m⟩⟩ ⟨⟨a, b, c⟩, ⟨d, e, f⟩⟩).lo.x (meetB ⟨⟨ax, ay, az⟩, ⟨ax + m, ay + m, az + m⟩⟩ ⟨⟨a, b, c⟩, ⟨d, e, f⟩⟩).lo.y (meetB ⟨⟨ax, ay, az⟩, ⟨ax + m, ay + m, az + m⟩⟩ ⟨⟨a, b, c⟩, ⟨d, e, f⟩⟩).lo.z (meetB ⟨⟨ax, ay, az⟩, ⟨ax + m, ay + m, az + m⟩⟩ ⟨⟨a, b, c⟩, ⟨d, e, f⟩⟩).hi.x (meetB ⟨⟨ax, ay, az⟩, ⟨ax + m, ay + m, az + m⟩⟩ ⟨⟨a, b, c⟩, ⟨d, e, f⟩⟩).hi.y (meetB ⟨⟨ax, ay, az⟩, ⟨ax + m, ay + m, az + m⟩⟩ ⟨⟨a, b, c⟩, ⟨d, e, f⟩⟩).hi.z W)
 rw [show (⟨⟨(meetB ⟨⟨ax, ay, az⟩, ⟨ax + m, ay + m, az + m⟩⟩ ⟨⟨a, b, c⟩, ⟨d, e, f⟩⟩).lo.x, (meetB ⟨⟨ax, ay, az⟩, ⟨ax + m, ay + m, az + m⟩⟩ ⟨⟨a, b, c⟩, ⟨d, e, f⟩⟩).lo.y, (meetB ⟨⟨ax, ay, az⟩, ⟨ax + m, ay + m, az + m⟩⟩ ⟨⟨a, b, c⟩, ⟨d, e, f⟩⟩).lo.z⟩, ⟨(meetB ⟨⟨ax, ay, az⟩, ⟨ax + m, ay + m, az + m⟩⟩ ⟨⟨a, b, c⟩, ⟨d, e, f⟩⟩).hi.x, (meetB ⟨⟨ax, ay, az⟩, ⟨ax + m, ay + m, az + m⟩⟩ ⟨⟨a, b, c⟩, ⟨d, e, f⟩⟩).hi.y, (meetB ⟨⟨ax, ay, az⟩, ⟨ax + m, ay + m, az + m⟩⟩ ⟨⟨a, b, c⟩, ⟨d, e, f⟩⟩).hi.z⟩⟩ : Box) = meetB ⟨⟨ax, ay, az⟩, ⟨ax + m, ay + m, az + m⟩⟩ ⟨⟨a, b, c⟩, ⟨d, e, f⟩⟩ from rfl, he] at hempty
 generalize meetB ⟨⟨ax, ay, az⟩, ⟨ax + m, ay + m, az + m⟩⟩ ⟨⟨a, b, c⟩, ⟨d, e, f⟩⟩ = M at *
 have hu := Bx.mk (fun W (hb : Below w.heap.size w W) => uniform_any W Far sb most ts 0 (by omega) hG hlen (fun k hk => Nat.lt_of_lt_of_le (hFar k hk) hb.size) (hS.later hb))
 clear he hm hx hy hz hG hlen hFar hS
 go_enter Tryz.func61, Tryz.ntmps61
 go_wp2_with fail
 generalize hW : World.alloc w _ = W
 have hSz : w.heap.size + 1 ≤ W.heap.size := by rw [← hW]; simp
 have hB : Below w.heap.size w W := by rw [← hW]; exact (Below.refl _ _).alloc (Nat.le_refl _) _
 have kp : Bk W (w.heap.size) #[.int .i64 ax, .int .i64 ay, .int .i64 az] 23 := by rw [← hW]; exact blk_new _ _ _ (by simp)
 clear hW
 refine (hcube.out _).mono ?_
 rintro e1 w1 ⟨rfl, hb⟩
 replace hB := hB.trans (hb.mono hB.size)
 replace kp := kp.later hb
 replace hSz := Nat.le_trans hSz hb.size
 clear hb
 have hcg := HC.out.later hB
 have hsz1 := hB.size
 have kp1 := Bx.mk kp
 have ag : ∀ o, Bk (w1.alloc o) pg #[.int .i64 a, .int .i64 b, .int .i64 c, .int .i64 d, .int .i64 e, .int .i64 f, .slice ha xs.length hcp] 28 := fun o => hcg.kg.alloc o
 have ag0 : ∀ o, (w1.alloc o).cell? ⟨pg, 0, none⟩ = some (.int .i64 a) := fun o => (ag o).cell 0 rfl
 have ag1 : ∀ o, (w1.alloc o).cell? ⟨pg, 1, none⟩ = some (.int .i64 b) := fun o => (ag o).cell 1 rfl
 have ag2 : ∀ o, (w1.alloc o).cell? ⟨pg, 2, none⟩ = some (.int .i64 c) := fun o => (ag o).cell 2 rfl
 have ag3 : ∀ o, (w1.alloc o).cell? ⟨pg, 3, none⟩ = some (.int .i64 d) := fun o => (ag o).cell 3 rfl
 have ag4 : ∀ o, (w1.alloc o).cell? ⟨pg, 4, none⟩ = some (.int .i64 e) := fun o => (ag o).cell 4 rfl
 have ag5 : ∀ o, (w1.alloc o).cell? ⟨pg, 5, none⟩ = some (.int .i64 f) := fun o => (ag o).cell 5 rfl
 clear ag hcg
 go_wp2_with fail
 generalize hW2 : World.alloc w1 _ = W2
 have hb2 : Below w1.heap.size w1 W2 := by rw [← hW2]; exact below_lit _ _
 have kc : Bk W2 w1.heap.size #[.int .i64 ax, .int .i64 ay, .int .i64 az, .int .i64 (ax + m), .int .i64 (ay + m), .int .i64 (az + m)] 25 := by rw [← hW2]; exact blk_new _ _ _ rfl
 clear hW2 ag0 ag1 ag2 ag3 ag4 ag5
 replace kp1 := Bx.mk (kp1.out.later hb2)
 replace hB := hB.trans (hb2.mono hB.size)
 have hgc : w.heap.size + 1 ≤ w1.heap.size := hSz
 clear kp hb2 hSz hsz1
 generalize w1.heap.size = gc at *
 refine (hmeet.out _).mono ?_
 rintro e2 w2 ⟨rfl, hb⟩
 replace kc := kc.later hb
 replace kp1 := Bx.mk (kp1.out.later hb)
 replace hB := hB.trans (hb.mono hB.size)
 clear hb
 go_wp2_with fail
 refine (hempty.out _).mono ?_
 rintro e3 w3 ⟨rfl, hb⟩
 replace kc := kc.later hb
 replace kp1 := Bx.mk (kp1.out.later hb)
 replace hB := hB.trans (hb.mono hB.size)
 clear hb hcube hmeet hempty
 have hC3 := HC.out.later hB
 have cr := hC3.kr.cell 0 rfl
 clear hC3 kp1
 go_wp2_with fail
 refine (hu.out _ hB).mono ?_
 rintro e4 w4 hg
 have Hg := Bx.mk (hg.since hB)
 obtain ⟨-, -, (⟨hf, rfl, hs⟩ | ⟨hf, rfl, us, hs⟩)⟩ := hg
 all_goals
  clear hf hs
  go_wp2_with fail
  go_ret2
  exact Hg.out
end Go.Proofs.YtabclecmehdeoaaGreatDoor
end
section
namespace Go.Proofs.YtabclecmehdeoaaGreatDoor
open Go.RowKit Go.Sort Go.Maps
open Oct
theorem cube4 (ax ay az : Int) : emptyB ⟨⟨ax, ay, az⟩, ⟨ax + 4, ay + 4, az + 4⟩⟩ = false ∧ sizeB ⟨⟨ax, ay, az⟩, ⟨ax + 4, ay + 4, az + 4⟩⟩ = ⟨4, 4, 4⟩ ∧ volB ⟨⟨ax, ay, az⟩, ⟨ax + 4, ay + 4, az + 4⟩⟩ = 64 := by
 have h1 : emptyB ⟨⟨ax, ay, az⟩, ⟨ax + 4, ay + 4, az + 4⟩⟩ = false := emptyB_iff.2 (by simp only []; omega)
 have h2 : sizeB ⟨⟨ax, ay, az⟩, ⟨ax + 4, ay + 4, az + 4⟩⟩ = ⟨4, 4, 4⟩ := by
  rw [sizeB_full h1]; simp only [Pt.sub, Pt.mk.injEq]; omega
 exact ⟨h1, h2, by unfold volB; rw [h2]; decide⟩
theorem cells_cube (ax ay az : Int) (f : Pt → Int) : cellsOf ⟨⟨ax, ay, az⟩, ⟨ax + 4, ay + 4, az + 4⟩⟩ f = (List.range 64).map fun k => f (Tr.cellAt ⟨ax, ay, az⟩ k) := by
 obtain ⟨h1, h2, h3⟩ := cube4 ax ay az
 unfold cellsOf
 rw [h3]
 apply List.map_congr_left
 intro k hk
 have hk' : k < 64 := by simpa using hk
 congr 1
 unfold atB Tr.cellAt
 rw [h3, h2, if_pos (by omega)]
 simp only [Pt.mk.injEq]
 omega
structure GoodG (b : Box) (xs : List Int) (hcp : Nat) : Prop where
 small : Small b 1048575
 len : xs.length = (volB b).toNat
 le : xs.length ≤ 300
 cells : ∀ x ∈ xs, 0 ≤ x ∧ x ≤ 255
 cap : xs.length ≤ hcp
theorem GoodG.range {b : Box} {xs : List Int} {hcp : Nat} (h : GoodG b xs hcp) (p : Pt) : 0 ≤ cellG b xs p ∧ cellG b xs p ≤ 255 := by
 unfold cellG
 split
 · rename_i hp
   have hi := indexB_bd hp
   have hl := h.len
   have hlt : (indexB b p).toNat < xs.length := by omega
   rw [Tr.getD_el hlt]
   exact h.cells _ (List.getElem_mem _)
 · omega
set_option maxRecDepth 100000 in
set_option maxHeartbeats 1000000 in
theorem build_brick (w : World) (Far : Nat → Prop) (pg ps pb sb : Nat) (a b c d e f : Int) (ha : Option Addr) (hcp : Nat) (xs : List Int) (HC : Bx (BCtx w Far pg ps pb sb a b c d e f ha hcp xs)) (HX : GoodG ⟨⟨a, b, c⟩, ⟨d, e, f⟩⟩ xs hcp) (ax ay az : Int) (hx : 0 ≤ ax ∧ ax ≤ 16384) (hy : 0 ≤ ay ∧ ay ≤ 16384) (hz : 0 ≤ az ∧ az ≤ 16384) (he : emptyB (meetB ⟨⟨ax, ay, az⟩, ⟨ax + 4, ay + 4, az + 4⟩⟩ ⟨⟨a, b, c⟩, ⟨d, e, f⟩⟩) = false) (most : Int) (ts : List Tr) (hG : Good ts) (hlen : ts.length ≤ 1000000000000) (hFar : ∀ k, Far k → k < w.heap.size) (hS : StoreIs w Far sb most ts) :
 Calls Tryz.prog 61 #[.agg #[.int .i64 ax, .int .i64 ay, .int .i64 az], .int .i64 2, .pointer (some ⟨pg, 0, none⟩), .pointer (some ⟨ps, 0, none⟩), .pointer (some ⟨pb, 0, none⟩)] w (Grew Far sb most ts (Tr.add (Tr.can (cellG ⟨⟨a, b, c⟩, ⟨d, e, f⟩⟩ xs) 0 ⟨ax, ay, az⟩) ts) (Tr.can (cellG ⟨⟨a, b, c⟩, ⟨d, e, f⟩⟩ xs) 0 ⟨ax, ay, az⟩) w) := by
 have hcube := Bx.mk (fun W => cubeAt_any 2 (by omega) ax ay az 4 (by decide) (by omega) (by omega) (by omega) W)
 rw [show ((2 : Nat) : Int) = 2 from rfl] at hcube
 have hmeet := Bx.mk (fun W => meet_any ax ay az (ax + 4) (ay + 4) (az + 4) a b c d e f W)
 have hempty := Bx.mk (fun W => empty_any (meetB ⟨⟨ax, ay, az⟩, ⟨ax + 4, ay + 4, az + 4⟩⟩ ⟨⟨a, b, c⟩, ⟨d, e, f⟩⟩).lo.x (meetB ⟨⟨ax, ay, az⟩, ⟨ax + 4, ay + 4, az + 4⟩⟩ ⟨⟨a, b, c⟩, ⟨d, e, f⟩⟩).lo.y (meetB ⟨⟨ax, ay, az⟩, ⟨ax + 4, ay + 4, az + 4⟩⟩ ⟨⟨a, b, c⟩, ⟨d, e, f⟩⟩).lo.z (meetB ⟨⟨ax, ay, az⟩, ⟨ax + 4, ay + 4, az + 4⟩⟩ ⟨⟨a, b, c⟩, ⟨d, e, f⟩⟩).hi.x (meetB ⟨⟨ax, ay, az⟩, ⟨ax + 4, ay + 4, az + 4⟩⟩ ⟨⟨a, b, c⟩, ⟨d, e, f⟩⟩).hi.y (meetB ⟨⟨ax, ay, az⟩, ⟨ax + 4, ay + 4, az + 4⟩⟩ ⟨⟨a, b, c⟩, ⟨d, e, f⟩⟩).hi.z W)
 rw [show (⟨⟨(meetB ⟨⟨ax, ay, az⟩, ⟨ax + 4, ay + 4, az + 4⟩⟩ ⟨⟨a, b, c⟩, ⟨d, e, f⟩⟩).lo.x, (meetB ⟨⟨ax, ay, az⟩, ⟨ax + 4, ay + 4, az + 4⟩⟩ ⟨⟨a, b, c⟩, ⟨d, e, f⟩⟩).lo.y, (meetB ⟨⟨ax, ay, az⟩, ⟨ax + 4, ay + 4, az + 4⟩⟩ ⟨⟨a, b, c⟩, ⟨d, e, f⟩⟩).lo.z⟩, ⟨(meetB ⟨⟨ax, ay, az⟩, ⟨ax + 4, ay + 4, az + 4⟩⟩ ⟨⟨a, b, c⟩, ⟨d, e, f⟩⟩).hi.x, (meetB ⟨⟨ax, ay, az⟩, ⟨ax + 4, ay + 4, az + 4⟩⟩ ⟨⟨a, b, c⟩, ⟨d, e, f⟩⟩).hi.y, (meetB ⟨⟨ax, ay, az⟩, ⟨ax + 4, ay + 4, az + 4⟩⟩ ⟨⟨a, b, c⟩, ⟨d, e, f⟩⟩).hi.z⟩⟩ : Box) = meetB ⟨⟨ax, ay, az⟩, ⟨ax + 4, ay + 4, az + 4⟩⟩ ⟨⟨a, b, c⟩, ⟨d, e, f⟩⟩ from rfl, he] at hempty
 generalize meetB ⟨⟨ax, ay, az⟩, ⟨ax + 4, ay + 4, az + 4⟩⟩ ⟨⟨a, b, c⟩, ⟨d, e, f⟩⟩ = M at *
 obtain ⟨q1, q2, q3⟩ := cube4 ax ay az
 have hE : newE ⟨⟨ax, ay, az⟩, ⟨ax + 4, ay + 4, az + 4⟩⟩ 0 = 0 := by
  unfold newE
  have hok : okB ⟨⟨ax, ay, az⟩, ⟨ax + 4, ay + 4, az + 4⟩⟩ = true := by
   unfold okB
   rw [Bool.and_eq_true]
   exact ⟨okP_iff.2 (by simp only []; omega), okP_iff.2 (by simp only []; omega)⟩
  rw [if_neg (by rw [hok]; simp [Pal.cell]), if_neg (by rw [q3]; omega)]
 have hcan : Tr.can (cellG ⟨⟨a, b, c⟩, ⟨d, e, f⟩⟩ xs) 0 ⟨ax, ay, az⟩ = Tr.mkBrick (cellsOf ⟨⟨ax, ay, az⟩, ⟨ax + 4, ay + 4, az + 4⟩⟩ (cellG ⟨⟨a, b, c⟩, ⟨d, e, f⟩⟩ xs)) := by
  rw [cells_cube]; rfl
 rw [hcan]
 have hzl : (cellsOf ⟨⟨ax, ay, az⟩, ⟨ax + 4, ay + 4, az + 4⟩⟩ (cellG ⟨⟨a, b, c⟩, ⟨d, e, f⟩⟩ xs)).length = 64 := by rw [cellsOf_length, q3]; rfl
 have hcells : (cellsOf ⟨⟨ax, ay, az⟩, ⟨ax + 4, ay + 4, az + 4⟩⟩ (cellG ⟨⟨a, b, c⟩, ⟨d, e, f⟩⟩ xs)).all Pal.cell = true := by
  rw [List.all_eq_true]
  intro x hx
  unfold cellsOf at hx
  obtain ⟨k, _, rfl⟩ := List.mem_map.1 hx
  have := HX.range (atB ⟨⟨ax, ay, az⟩, ⟨ax + 4, ay + 4, az + 4⟩⟩ (k : Int))
  rw [Pal.cell_eq]; simpa using this
 have hcrop := Bx.mk (fun W h => crop_full ax ay az (ax + 4) (ay + 4) (az + 4) a b c d e f ha hcp 64 xs hE q1 q3 HX.small HX.len (by have := HX.le; omega) HX.cap W h)
 unfold RetG at hcrop
 rw [hzl] at hcrop
 have hu := Bx.mk (fun W (hb : Below w.heap.size w W) pa pc hsl => brick_any W Far sb most ts pa pc (cellsOf ⟨⟨ax, ay, az⟩, ⟨ax + 4, ay + 4, az + 4⟩⟩ (cellG ⟨⟨a, b, c⟩, ⟨d, e, f⟩⟩ xs)) hzl hcells hsl hG hlen (fun k hk => Nat.lt_of_lt_of_le (hFar k hk) hb.size) (hS.later hb))
 clear he hx hy hz hG hlen hFar hS hE hcan hzl hcells q1 q2 q3 HX
 generalize cellsOf ⟨⟨ax, ay, az⟩, ⟨ax + 4, ay + 4, az + 4⟩⟩ (cellG ⟨⟨a, b, c⟩, ⟨d, e, f⟩⟩ xs) = zs at *
 go_enter Tryz.func61, Tryz.ntmps61
 go_wp2_with fail
 generalize hW : World.alloc w _ = W
 have hSz : w.heap.size + 1 ≤ W.heap.size := by rw [← hW]; simp
 have hB : Below w.heap.size w W := by rw [← hW]; exact (Below.refl _ _).alloc (Nat.le_refl _) _
 have kp : Bk W (w.heap.size) #[.int .i64 ax, .int .i64 ay, .int .i64 az] 23 := by rw [← hW]; exact blk_new _ _ _ (by simp)
 clear hW
 refine (hcube.out _).mono ?_
 rintro e1 w1 ⟨rfl, hb⟩
 replace hB := hB.trans (hb.mono hB.size)
 replace kp := kp.later hb
 replace hSz := Nat.le_trans hSz hb.size
 clear hb
 have hcg := HC.out.later hB
 have hsz1 := hB.size
 have kp1 := Bx.mk kp
 have ag : ∀ o, Bk (w1.alloc o) pg #[.int .i64 a, .int .i64 b, .int .i64 c, .int .i64 d, .int .i64 e, .int .i64 f, .slice ha xs.length hcp] 28 := fun o => hcg.kg.alloc o
 have ag0 : ∀ o, (w1.alloc o).cell? ⟨pg, 0, none⟩ = some (.int .i64 a) := fun o => (ag o).cell 0 rfl
 have ag1 : ∀ o, (w1.alloc o).cell? ⟨pg, 1, none⟩ = some (.int .i64 b) := fun o => (ag o).cell 1 rfl
 have ag2 : ∀ o, (w1.alloc o).cell? ⟨pg, 2, none⟩ = some (.int .i64 c) := fun o => (ag o).cell 2 rfl
 have ag3 : ∀ o, (w1.alloc o).cell? ⟨pg, 3, none⟩ = some (.int .i64 d) := fun o => (ag o).cell 3 rfl
 have ag4 : ∀ o, (w1.alloc o).cell? ⟨pg, 4, none⟩ = some (.int .i64 e) := fun o => (ag o).cell 4 rfl
 have ag5 : ∀ o, (w1.alloc o).cell? ⟨pg, 5, none⟩ = some (.int .i64 f) := fun o => (ag o).cell 5 rfl
 clear ag hcg
 go_wp2_with fail
 generalize hW2 : World.alloc w1 _ = W2
 have hb2 : Below w1.heap.size w1 W2 := by rw [← hW2]; exact below_lit _ _
 have kc : Bk W2 w1.heap.size #[.int .i64 ax, .int .i64 ay, .int .i64 az, .int .i64 (ax + 4), .int .i64 (ay + 4), .int .i64 (az + 4)] 25 := by rw [← hW2]; exact blk_new _ _ _ rfl
 clear hW2 ag0 ag1 ag2 ag3 ag4 ag5
 replace kp1 := Bx.mk (kp1.out.later hb2)
 replace hB := hB.trans (hb2.mono hB.size)
 have hgc : w.heap.size + 1 ≤ w1.heap.size := hSz
 clear kp hb2 hSz hsz1
 generalize w1.heap.size = gc at *
 refine (hmeet.out _).mono ?_
 rintro e2 w2 ⟨rfl, hb⟩
 replace kc := kc.later hb
 replace kp1 := Bx.mk (kp1.out.later hb)
 replace hB := hB.trans (hb.mono hB.size)
 clear hb
 go_wp2_with fail
 refine (hempty.out _).mono ?_
 rintro e3 w3 ⟨rfl, hb⟩
 replace kc := kc.later hb
 replace kp1 := Bx.mk (kp1.out.later hb)
 replace hB := hB.trans (hb.mono hB.size)
 clear hb hcube hmeet hempty
 have hC3 := HC.out.later hB
 have cr := hC3.kr.cell 0 rfl
 have hsl3 := Bx.mk hC3.sl
 have cg0 : w3.cell? ⟨pg, 0, none⟩ = some (.int .i64 a) := hC3.kg.cell 0 rfl
 have cg1 : w3.cell? ⟨pg, 1, none⟩ = some (.int .i64 b) := hC3.kg.cell 1 rfl
 have cg2 : w3.cell? ⟨pg, 2, none⟩ = some (.int .i64 c) := hC3.kg.cell 2 rfl
 have cg3 : w3.cell? ⟨pg, 3, none⟩ = some (.int .i64 d) := hC3.kg.cell 3 rfl
 have cg4 : w3.cell? ⟨pg, 4, none⟩ = some (.int .i64 e) := hC3.kg.cell 4 rfl
 have cg5 : w3.cell? ⟨pg, 5, none⟩ = some (.int .i64 f) := hC3.kg.cell 5 rfl
 have cg6 : w3.cell? ⟨pg, 6, none⟩ = some (.slice ha xs.length hcp) := hC3.kg.cell 6 rfl
 obtain ⟨cc0, cc1, cc2, cc3, cc4, cc5⟩ := kc.c6
 have hC3 := Bx.mk hC3
 go_wp2_with fail
 refine (hcrop.out _ hsl3.out).mono ?_
 rintro e4 w4 ⟨pa, pc, rfl, hown, hb⟩
 have hB4 := Bx.mk (hB.trans (hb.mono hB.size))
 have hC4 := HC.out.later hB4.out
 have hsl4 := hown.sl
 have hown := Bx.mk hown
 have hcr4 := Bx.mk hC4.kr
 have hr0 : w4.cell? ⟨ps, 0, none⟩ = some (.pointer (some ⟨sb, 0, none⟩)) := hcr4.out.cell 0 rfl
 have ar0 : ∀ o, (w4.alloc o).cell? ⟨ps, 0, none⟩ = some (.pointer (some ⟨sb, 0, none⟩)) := fun o => (hcr4.out.alloc o).cell 0 rfl
 have hsl5 : Bx (∀ o, Sl (w4.alloc o) .i64 pa zs) := ⟨fun o => hsl4.below (below_lit _ _)⟩
 clear hb hC4 hsl4 cg0 cg1 cg2 cg3 cg4 cg5 cg6 cc0 cc1 cc2 cc3 cc4 cc5 cr hC3 kc hsl3 hcrop
 go_wp2_with fail
 refine (hu.out _ (hB4.out.trans ((below_lit _ _).mono hB4.out.size)) pa pc (hsl5.out _)).mono ?_
 rintro e5 w5 hg
 have Hg := Bx.mk (hg.since (hB4.out.trans ((below_lit _ _).mono hB4.out.size)))
 obtain ⟨-, -, (⟨hf, rfl, hs⟩ | ⟨hf, rfl, us, hs⟩)⟩ := hg
 all_goals
  clear hf hs
  go_wp2_with fail
  go_ret2
  exact Hg.out
end Go.Proofs.YtabclecmehdeoaaGreatDoor
end
