/- Lines, Geo, Crop: joined by program, for one claim. -/
import Derived.Test.YtabclecmehdeoaaGreatDoorMr
import Derived.Test.YtabclecmehdeoaaGreatDoorM14
import Derived.Test.YtabclecmehdeoaaGreatDoorM10
import Derived.Test.YtabclecmehdeoaaGreatDoorM1
section
namespace Go.Proofs.YtabclecmehdeoaaGreatDoor
open Go.RowKit Go.Sort
theorem Bk.grown {w w' : World} {b g : Nat} {vs : Array Value} {t : TypeId} (h : Bk w b vs t) (hg : w.grownBy w' (some g)) (hne : b ≠ g) : Bk w' b vs t := by
 have hlt : b < w.heap.size := (Array.getElem?_eq_some_iff.1 h).1
 exact (hg.block b hlt (fun e => hne (by injection e))).trans h
theorem grown_below {w w1 w2 : World} {g : Nat} (h : w.grownBy w1 (some g)) (hb : Below w1.heap.size w1 w2) : w.grownBy w2 (some g) :=
 ⟨hb.os.trans h.os, hb.tape.trans h.tape, hb.output.trans h.output, Nat.le_trans h.size hb.size, fun k hk hne => (hb.block k (Nat.lt_of_lt_of_le hk h.size)).trans (h.block k hk hne)⟩
theorem grown_trans {w w1 w2 : World} {g : Nat} (h : w.grownBy w1 (some g)) (hb : w1.grownBy w2 (some g)) : w.grownBy w2 (some g) :=
 ⟨hb.os.trans h.os, hb.tape.trans h.tape, hb.output.trans h.output, Nat.le_trans h.size hb.size, fun k hk hne => (hb.block k (Nat.lt_of_lt_of_le hk h.size) hne).trans (h.block k hk hne)⟩
set_option maxRecDepth 100000 in
set_option maxHeartbeats 2000000 in
theorem rows_paste (ph pb g : Nat) (a b c d e f a2 b2 c2 d2 e2 f2 la lb lc ld le lf : Int) (cs : Value) (hS : Small ⟨⟨a, b, c⟩, ⟨d, e, f⟩⟩ 1048575)
 (hM : meetB ⟨⟨a, b, c⟩, ⟨d, e, f⟩⟩ ⟨⟨a2, b2, c2⟩, ⟨d2, e2, f2⟩⟩ = ⟨⟨la, lb, lc⟩, ⟨ld, le, lf⟩⟩) (hbd : -1048576 ≤ la ∧ -1048576 ≤ lb ∧ -1048576 ≤ lc ∧ ld ≤ 1048576 ∧ le ≤ 1048576 ∧ lf ≤ 1048576 ∧ la ≤ ld ∧ lb ≤ le ∧ lc ≤ lf)
 (I : Int → Int → World → Prop) (w : World) (hg : g < w.heap.size) (hI : ∀ z y W W', I z y W → Below W.heap.size W W' → I z y W') (h0 : I lc lb w)
 (hcall : ∀ z y W, lc ≤ z → z < lf → lb ≤ y → y < le → I z y W → w.grownBy W (some g) → Calls Tryz.prog 142 #[.int .i64 (indexB ⟨⟨a, b, c⟩, ⟨d, e, f⟩⟩ ⟨la, y, z⟩), .agg #[.int .i64 la, .int .i64 y, .int .i64 z], .int .i64 (ld - la), .pointer (some ⟨ph, 0, none⟩), .pointer (some ⟨pb, 0, none⟩)] W fun e' W' => e' = .returned (.tuple #[]) ∧ I z (y + 1) W' ∧ W.grownBy W' (some g))
 (hnext : ∀ z W, lc ≤ z → z < lf → I z le W → I (z + 1) lb W) :
 Calls Tryz.prog 141 #[.agg #[.int .i64 a, .int .i64 b, .int .i64 c, .int .i64 d, .int .i64 e, .int .i64 f, cs], .agg #[.int .i64 a2, .int .i64 b2, .int .i64 c2, .int .i64 d2, .int .i64 e2, .int .i64 f2], .func (.func 142) #[] #[.pointer (some ⟨ph, 0, none⟩), .pointer (some ⟨pb, 0, none⟩)]] w fun e' w' => e' = .returned (.tuple #[]) ∧ I lf lb w' ∧ w.grownBy w' (some g) := by
 have HI := Bx.mk hI
 have H0 := Bx.mk h0
 have Hc := Bx.mk hcall
 have Hn := Bx.mk hnext
 have hmeet := Bx.mk fun W => meet_any a b c d e f a2 b2 c2 d2 e2 f2 W
 rw [hM] at hmeet
 have hind := Bx.mk fun y z W => index_any a b c d e f la y z hS W
 clear hI h0 hcall hnext hM hS
 go_enter Tryz.func141, Tryz.ntmps141
 go_wp2_with fail
 generalize hW : World.alloc (World.alloc w _) _ = W
 have hSz : w.heap.size + 1 + 1 ≤ W.heap.size := by rw [← hW]; simp
 have hB : Below w.heap.size w W := by rw [← hW]; exact ((Below.refl _ _).alloc (Nat.le_refl _) _).alloc (by simp) _
 have kg : Bk W (w.heap.size) #[.int .i64 a, .int .i64 b, .int .i64 c, .int .i64 d, .int .i64 e, .int .i64 f, cs] 28 := by rw [← hW]; exact blk_old (blk_new _ _ _ (by simp))
 have kb : Bk W (w.heap.size + 1) #[.int .i64 a2, .int .i64 b2, .int .i64 c2, .int .i64 d2, .int .i64 e2, .int .i64 f2] 25 := by rw [← hW]; exact blk_new _ _ _ (by simp)
 clear hW
 obtain ⟨cg0, cg1, cg2, cg3, cg4, cg5, cg6⟩ := kg.c7
 obtain ⟨cb0, cb1, cb2, cb3, cb4, cb5⟩ := kb.c6
 go_wp2_with fail
 refine (hmeet.out _).mono ?_
 rintro e' w1 ⟨rfl, hb⟩
 clear hmeet
 clear cg0 cg1 cg2 cg3 cg4 cg5 cg6 cb0 cb1 cb2 cb3 cb4 cb5
 replace hB := hB.trans (hb.mono hB.size)
 replace kg := kg.later hb
 replace kb := kb.later hb
 replace hSz := Nat.le_trans hSz hb.size
 clear hb
 obtain ⟨gm, hgm⟩ : ∃ gm, gm = w1.heap.size := ⟨_, rfl⟩
 clear kb
 have b1 := hbd.1
 go_wp2_with fail
 generalize hW2 : World.alloc w1 _ = W2
 have km : Bk W2 gm #[.int .i64 la, .int .i64 lb, .int .i64 lc, .int .i64 ld, .int .i64 le, .int .i64 lf] 25 := by rw [hgm, ← hW2]; exact blk_new _ _ _ rfl
 have hb : Below w1.heap.size w1 W2 := by rw [← hW2]; exact (Below.refl _ _).alloc (Nat.le_refl _) _
 rw [← hgm]
 have hgg : g < gm := by omega
 replace hB := hB.trans (hb.mono hB.size)
 replace kg := kg.later hb
 have hG : w.grownBy W2 (some g) := ⟨hB.os, hB.tape, hB.output, hB.size, fun k hk _ => hB.block k hk⟩
 have hJ := HI.out _ _ _ _ H0.out hB
 clear hW2 hb hB H0 hSz hgm
 have Hbd := Bx.mk hbd
 clear hbd b1
 go_loopw [7] (fun i wr => ∃ z : Int, lc ≤ z ∧ z ≤ lf ∧ i = .int .i64 z ∧ Bk wr w.heap.size #[.int .i64 a, .int .i64 b, .int .i64 c, .int .i64 d, .int .i64 e, .int .i64 f, cs] 28 ∧ Bk wr gm #[.int .i64 la, .int .i64 lb, .int .i64 lc, .int .i64 ld, .int .i64 le, .int .i64 lf] 25 ∧ I z lb wr ∧ w.grownBy wr (some g)) (fun i _ => (lf - intOf i).toNat)
 case atStart => exact ⟨lc, by omega, Hbd.out.2.2.2.2.2.2.2.2, rfl, kg, km, hJ, hG⟩
 case round =>
  clear kg km hJ hG
  obtain ⟨z, z1, z2, rfl, kg, km, hJ, hG⟩ := hrel
  have hJ' := Bx.mk hJ
  have hG' := Bx.mk hG
  clear hJ hG
  obtain ⟨cm0, cm1, cm2, cm3, cm4, cm5⟩ := km.c6
  by_cases hz : z < lf
  · go_wp2_with fail
    clear cm0 cm1 cm2 cm3 cm4 cm5
    obtain ⟨wo, hwo⟩ : ∃ wo : World, wo = wr := ⟨_, rfl⟩
    rw [← hwo] at kg km hJ' hG'
    have Kgo := Bx.mk kg
    have Kmo := Bx.mk km
    clear kg km
    go_loopw [8] (fun i wr => ∃ y : Int, lb ≤ y ∧ y ≤ le ∧ i = .int .i64 y ∧ Bk wr w.heap.size #[.int .i64 a, .int .i64 b, .int .i64 c, .int .i64 d, .int .i64 e, .int .i64 f, cs] 28 ∧ Bk wr gm #[.int .i64 la, .int .i64 lb, .int .i64 lc, .int .i64 ld, .int .i64 le, .int .i64 lf] 25 ∧ I z y wr ∧ w.grownBy wr (some g)) (fun i _ => (le - intOf i).toNat)
    case atStart => subst hwo; exact ⟨lb, by omega, Hbd.out.2.2.2.2.2.2.2.1, rfl, Kgo.out, Kmo.out, hJ'.out, hG'.out⟩
    case round =>
     clear Kgo Kmo hJ' hG' hwo
     obtain ⟨y, y1, y2, rfl, kg, km, hJ, hG⟩ := hrel
     by_cases hy : y < le
     · have hB := Below.refl wr.heap.size wr
       have hSz := Nat.le_refl wr.heap.size
       have hgw : w.heap.size ≤ wr.heap.size := hG.size
       have hJ' := Bx.mk hJ
       have hG' := Bx.mk hG
       clear hJ hG
       obtain ⟨cm0, cm1, cm2, cm3, cm4, cm5⟩ := km.c6
       go_wp2_with fail
       generalize hW : World.alloc wr _ = W
       have hb : Below wr.heap.size wr W := by rw [← hW]; exact (Below.refl _ _).alloc (Nat.le_refl _) _
       have kp : Bk W wr.heap.size #[.int .i64 la, .int .i64 y, .int .i64 z] 23 := by rw [← hW]; exact blk_new _ _ _ rfl
       clear hW hSz cm0 cm1 cm2 cm3 cm4 cm5
       replace hB := hb
       replace kg := kg.later hb
       replace km := km.later hb
       have hSz := hb.size
       have i1 := IntWalk.i64_in (ld - la) (by have := Hbd.out; omega)
       obtain ⟨cg0, cg1, cg2, cg3, cg4, cg5, cg6⟩ := kg.r7
       obtain ⟨cm0, cm1, cm2, cm3, cm4, cm5⟩ := km.r6
       obtain ⟨cp0, cp1, cp2⟩ := kp.r3
       have q0 := Bx.mk fun dk osk => Calls.regrown_of (hind.out y z (grow (redrawn W dk) osk))
       refine wp_region_headT_below 13 (by kernel_rfl) (by kernel_rfl) ?_
       simp only [List.take_succ_cons, List.take_zero, List.drop_succ_cons, List.drop_zero]
       repeat (first | go_big_quiet_step ((first | with_reducible exact q0.out _ _)) | quiet_step (first | with_reducible exact q0.out _ _))
       refine wpQuiet_nil ?_
       rintro _ ⟨⟨dq, osq⟩, rfl⟩
       have hb := below_regrown W dq osq
       replace hB := hB.trans (hb.mono hB.size)
       clear cg0 cg1 cg2 cg3 cg4 cg5 cg6
       clear cm0 cm1 cm2 cm3 cm4 cm5
       clear cp0 cp1 cp2
       clear q0
       replace kg := kg.later hb
       replace km := km.later hb
       replace kp := kp.later hb
       replace hSz := Nat.le_trans hSz hb.size
       clear hb
       generalize grow (redrawn W dq) osq = W1 at *
       go_wp2_with fail
       refine (Hc.out z y W1 z1 hz y1 hy (HI.out _ _ _ _ hJ'.out hB) (grown_below hG'.out hB)).mono ?_
       rintro e' w3 ⟨rfl, hJ, hb⟩
       replace kg := kg.grown hb (by omega)
       replace km := km.grown hb (by omega)
       have hG := grown_trans (grown_below hG'.out hB) hb
       have hJ' := Bx.mk hJ
       have Kg := Bx.mk kg
       have Km := Bx.mk km
       have HG := Bx.mk hG
       clear hJ hG kg km hb hG' hB kp
       have i2 := IntWalk.i64_in (y + 1) (by have := Hbd.out; omega)
       go_wp2_with fail
       go_roundw
       case rel => exact ⟨y + 1, by omega, by omega, rfl, Kg.out, Km.out, hJ'.out, HG.out⟩
       case measure => simp [intOf]; omega
     · obtain rfl : y = le := by omega
       have hN := HI.out _ _ _ _ (Hn.out z wr z1 hz hJ) (Below.refl _ _)
       have Kg := Bx.mk kg
       have Km := Bx.mk km
       have HN := Bx.mk hN
       have HG := Bx.mk hG
       clear hJ hG kg km hN
       have cm := Km.out
       obtain ⟨cm0, cm1, cm2, cm3, cm4, cm5⟩ := cm.c6
       clear cm
       have i2 := IntWalk.i64_in (z + 1) (by have := Hbd.out; omega)
       go_wp2_with fail
       go_roundw
       case rel => exact ⟨z + 1, by omega, by omega, rfl, Kg.out, Km.out, HN.out, HG.out⟩
       case measure => simp [intOf]; omega
  · obtain rfl : z = lf := by omega
    go_wp2_with fail
    go_end0
    exact ⟨rfl, hJ'.out, hG'.out⟩
end Go.Proofs.YtabclecmehdeoaaGreatDoor
end
section
namespace Go.Proofs.YtabclecmehdeoaaGreatDoor
open Go.Sort
theorem at_index {p : Pt} {b : Box} (h : inB p b = true) : atB b (indexB b p) = p := by
 have he := in_not_empty h
 have hb := indexB_bd h
 have h' := inB_iff.1 h
 unfold atB
 rw [if_pos hb]
 have hi : indexB b p = ((p.z - b.lo.z) * (b.hi.y - b.lo.y) + (p.y - b.lo.y)) * (b.hi.x - b.lo.x) + (p.x - b.lo.x) := by
  unfold indexB; rw [if_pos h, sizeB_full he]; rfl
 rw [hi, sizeB_full he]
 simp only [Pt.sub]
 obtain ⟨px, py, pz⟩ := p
 simp only at *
 have e1 : ∀ t sx dx : Int, 0 ≤ dx → dx < sx → (t * sx + dx) % sx = dx ∧ (t * sx + dx) / sx = t := by
  intro t sx dx h1 h2
  constructor
  · rw [Int.add_comm, Int.add_mul_emod_self_right, Int.emod_eq_of_lt h1 h2]
  · rw [Int.add_comm, Int.add_mul_ediv_right _ _ (by omega), Int.ediv_eq_zero_of_lt h1 h2]; omega
 have f1 := e1 ((pz - b.lo.z) * (b.hi.y - b.lo.y) + (py - b.lo.y)) (b.hi.x - b.lo.x) (px - b.lo.x) (by omega) (by omega)
 have f2 := e1 (pz - b.lo.z) (b.hi.y - b.lo.y) (py - b.lo.y) (by omega) (by omega)
 rw [f1.1, f1.2, f2.1, f2.2]
 simp; omega
theorem index_row {b : Box} {x y z j : Int} (h : inB ⟨x, y, z⟩ b = true) (h' : inB ⟨x + j, y, z⟩ b = true) : indexB b ⟨x + j, y, z⟩ = indexB b ⟨x, y, z⟩ + j := by
 unfold indexB
 rw [if_pos h, if_pos h']
 simp only; omega
theorem in_join {p : Pt} {a b : Box} : inB p (joinB a b) = true ↔ inB p a = true ∧ inB p b = true := by
 simp only [inB_iff, joinB]; omega
theorem in_meet {p : Pt} {a b : Box} (h : inB p a = true) (h' : inB p b = true) : inB p (meetB a b) = true ∧ meetB a b = joinB a b := by
 have hj := in_join.2 ⟨h, h'⟩
 have e : meetB a b = joinB a b := by
  unfold meetB
  rw [if_neg (by rw [in_not_empty hj]; decide)]
 exact ⟨by rw [e]; exact hj, e⟩
theorem meet_join {a b : Box} (h : emptyB (meetB a b) = false) : meetB a b = joinB a b := by
 unfold meetB at h ⊢
 split
 · rename_i he; rw [if_pos he] at h; exact absurd h (by decide)
 · rfl
def cellG (b : Box) (xs : List Int) (p : Pt) : Int := if inB p b = true then xs.getD (indexB b p).toNat 0 else 0
def cellsOf (b : Box) (f : Pt → Int) : List Int := (List.range (volB b).toNat).map fun i : Nat => f (atB b (i : Int))
theorem cellsOf_length (b : Box) (f : Pt → Int) : (cellsOf b f).length = (volB b).toNat := by simp [cellsOf]
theorem cellsOf_get {b : Box} {f : Pt → Int} {i : Nat} (h : i < (volB b).toNat) : (cellsOf b f)[i]? = some (f (atB b i)) := by
 unfold cellsOf
 rw [List.getElem?_map, List.getElem?_range h]; rfl
theorem at_nat {b : Box} {i : Nat} (h : i < (volB b).toNat) : inB (atB b i) b = true ∧ indexB b (atB b i) = i := atB_in (by omega) (by omega)
theorem cellsOf_cellG {b : Box} {xs : List Int} (h : xs.length = (volB b).toNat) : cellsOf b (cellG b xs) = xs := by
 apply List.ext_getElem?
 intro i
 by_cases hi : i < (volB b).toNat
 · rw [cellsOf_get hi]
   obtain ⟨h1, h2⟩ := at_nat hi
   unfold cellG
   rw [if_pos h1, h2, Int.toNat_natCast, List.getD_eq_getElem?_getD, List.getElem?_eq_getElem (by omega)]; rfl
 · rw [List.getElem?_eq_none (by rw [cellsOf_length]; omega), List.getElem?_eq_none (by omega)]
theorem cellsOf_congr {b : Box} {f g : Pt → Int} (h : ∀ p, inB p b = true → f p = g p) : cellsOf b f = cellsOf b g := by
 unfold cellsOf
 apply List.map_congr_left
 intro i hi
 exact h _ (at_nat (List.mem_range.1 hi)).1
def pasteL (A B : Box) (xs ys : List Int) : List Int := cellsOf A fun p => if inB p B = true then cellG B ys p else cellG A xs p
def partL (A B : Box) (xs ys : List Int) (z y : Int) : List Int := cellsOf A fun p => if inB p B = true ∧ (p.z < z ∨ (p.z = z ∧ p.y < y)) then cellG B ys p else cellG A xs p
theorem partL_start {A B : Box} {xs ys : List Int} (h : xs.length = (volB A).toNat) : partL A B xs ys (meetB A B).lo.z (meetB A B).lo.y = xs := by
 refine Eq.trans (cellsOf_congr fun p hp => ?_) (cellsOf_cellG h)
 refine if_neg fun ⟨h1, h2⟩ => ?_
 have := inB_iff.1 (in_meet hp h1).1
 omega
theorem partL_end {A B : Box} {xs ys : List Int} : partL A B xs ys (meetB A B).hi.z (meetB A B).lo.y = pasteL A B xs ys := by
 refine cellsOf_congr fun p hp => ?_
 by_cases h1 : inB p B = true
 · have := inB_iff.1 (in_meet hp h1).1
   rw [if_pos h1, if_pos ⟨h1, by omega⟩]
 · rw [if_neg h1, if_neg (fun h => h1 h.1)]
theorem partL_next {A B : Box} {xs ys : List Int} {z : Int} : partL A B xs ys z (meetB A B).hi.y = partL A B xs ys (z + 1) (meetB A B).lo.y := by
 refine cellsOf_congr fun p hp => ?_
 by_cases h1 : inB p B = true
 · have := inB_iff.1 (in_meet hp h1).1
   have e : (p.z < z ∨ p.z = z ∧ p.y < (meetB A B).hi.y) ↔ (p.z < z + 1 ∨ p.z = z + 1 ∧ p.y < (meetB A B).lo.y) := by omega
   simp only [e]
 · rw [if_neg (fun h => h1 h.1), if_neg (fun h => h1 h.1)]
theorem row_in {A B : Box} {la lb lc ld le lf z y : Int} (hM : meetB A B = ⟨⟨la, lb, lc⟩, ⟨ld, le, lf⟩⟩) (hz : lc ≤ z ∧ z < lf) (hy : lb ≤ y ∧ y < le) : la < ld ∧ ∀ j, 0 ≤ j → j < ld - la → inB ⟨la + j, y, z⟩ A = true ∧ inB ⟨la + j, y, z⟩ B = true := by
 have hlt : la < ld := by
  unfold meetB at hM
  split at hM
  · simp [Box.zero, Pt.zero] at hM; omega
  · rename_i he
    have := emptyB_iff.1 (by simpa using he)
    rw [hM] at this
    exact this.1
 refine ⟨hlt, fun j h1 h2 => ?_⟩
 have hne : emptyB (meetB A B) = false := by rw [hM, emptyB_iff]; simp only; omega
 rw [meet_join hne] at hM
 refine in_join.1 ?_
 rw [hM, inB_iff]
 simp only; omega
theorem partL_row {A B : Box} {xs ys : List Int} {la lb lc ld le lf z y : Int} {k from_ n : Nat} (hM : meetB A B = ⟨⟨la, lb, lc⟩, ⟨ld, le, lf⟩⟩) (hz : lc ≤ z ∧ z < lf) (hy : lb ≤ y ∧ y < le)
 (hk : indexB A ⟨la, y, z⟩ = (k : Int)) (hf : indexB B ⟨la, y, z⟩ = (from_ : Int)) (hn : ld - la = (n : Int)) (hyl : ys.length = (volB B).toNat) :
 1 ≤ n ∧ from_ + n ≤ ys.length ∧ k + n ≤ (volB A).toNat ∧ over (partL A B xs ys z y) k ((ys.drop from_).take n) = partL A B xs ys z (y + 1) := by
 obtain ⟨hlt, hrow⟩ := row_in hM hz hy
 have hr0 := hrow 0 (by omega) (by omega)
 rw [Int.add_zero] at hr0
 have ka : ∀ j, 0 ≤ j → j < (n : Int) → indexB A ⟨la + j, y, z⟩ = (k : Int) + j := fun j h1 h2 => by
  rw [index_row hr0.1 (hrow j h1 (by omega)).1, hk]
 have kb : ∀ j, 0 ≤ j → j < (n : Int) → indexB B ⟨la + j, y, z⟩ = (from_ : Int) + j := fun j h1 h2 => by
  rw [index_row hr0.2 (hrow j h1 (by omega)).2, hf]
 have e1 := indexB_bd (hrow ((n : Int) - 1) (by omega) (by omega)).1
 have e2 := indexB_bd (hrow ((n : Int) - 1) (by omega) (by omega)).2
 rw [ka _ (by omega) (by omega)] at e1
 rw [kb _ (by omega) (by omega)] at e2
 have hfn : from_ + n ≤ ys.length := by omega
 have hkn : k + n ≤ (volB A).toNat := by omega
 refine ⟨by omega, hfn, hkn, ?_⟩
 have hcl : ((ys.drop from_).take n).length = n := by simp only [List.length_take, List.length_drop]; omega
 have hpl : (partL A B xs ys z y).length = (volB A).toNat := cellsOf_length _ _
 apply List.ext_getElem?
 intro i
 by_cases hi : i < (volB A).toNat
 · obtain ⟨a1, a2⟩ := at_nat hi
   have hrhs : (partL A B xs ys z (y + 1))[i]? = _ := cellsOf_get hi
   have hlhs : (partL A B xs ys z y)[i]? = _ := cellsOf_get hi
   rw [hrhs]
   unfold over splice
   by_cases hin : k ≤ i ∧ i < k + n
   · -- in the row
     have hp : atB A i = ⟨la + ((i : Int) - k), y, z⟩ := by
      have := at_index (hrow ((i : Int) - k) (by omega) (by omega)).1
      rw [ka _ (by omega) (by omega)] at this
      rw [show (k : Int) + ((i : Int) - k) = i by omega] at this
      exact this
     have hB := (hrow ((i : Int) - k) (by omega) (by omega)).2
     rw [hp, if_pos ⟨hB, Or.inr ⟨rfl, show y < y + 1 by omega⟩⟩]
     unfold cellG
     rw [if_pos hB, kb _ (by omega) (by omega)]
     have hmin : (List.take k (partL A B xs ys z y)).length = k := by rw [List.length_take]; omega
     have hik : i - k < ((ys.drop from_).take n).length := by omega
     rw [List.getElem?_append_right (by omega), hmin, List.getElem?_append_left hik, List.getElem?_take, if_pos (by omega), List.getElem?_drop]
     rw [show from_ + (i - k) = ((from_ : Int) + ((i : Int) - k)).toNat by omega, List.getD_eq_getElem?_getD, List.getElem?_eq_getElem (by omega)]
     rfl
   · have hl : (List.take k (partL A B xs ys z y) ++ (List.take n (List.drop from_ ys) ++ List.drop (k + (List.take n (List.drop from_ ys)).length) (partL A B xs ys z y)))[i]? = (partL A B xs ys z y)[i]? := by
      rw [hcl]
      by_cases hik : i < k
      · rw [List.getElem?_append_left (by rw [List.length_take]; omega), List.getElem?_take, if_pos hik]
      · rw [List.getElem?_append_right (by rw [List.length_take]; omega), List.length_take, List.getElem?_append_right (by omega), List.getElem?_drop, hcl]
        congr 1; omega
     rw [hl, hlhs]
     congr 1
     by_cases hB : inB (atB A i) B = true
     · have hm := inB_iff.1 (in_meet a1 hB).1
       rw [hM] at hm
       simp only at hm
       have hno : ¬((atB A i).z = z ∧ (atB A i).y = y) := by
        rintro ⟨h1, h2⟩
        have hp : atB A i = ⟨la + ((atB A i).x - la), y, z⟩ := by
         rw [← h1, ← h2, show la + ((atB A i).x - la) = (atB A i).x by omega]
        have := ka ((atB A i).x - la) (by omega) (by omega)
        rw [← hp, a2] at this
        omega
       have e : ((atB A i).z < z ∨ (atB A i).z = z ∧ (atB A i).y < y) ↔ ((atB A i).z < z ∨ (atB A i).z = z ∧ (atB A i).y < y + 1) := by omega
       simp only [e]
     · rw [if_neg (fun h => hB h.1), if_neg (fun h => hB h.1)]
 · rw [List.getElem?_eq_none (by rw [over_length (by omega)]; omega), List.getElem?_eq_none (by rw [show (partL A B xs ys z (y + 1)).length = _ from cellsOf_length _ _]; omega)]
end Go.Proofs.YtabclecmehdeoaaGreatDoor
end
section
namespace Go.Proofs.YtabclecmehdeoaaGreatDoor
open Go.RowKit Go.Sort
theorem Sl.grown {w w' : World} {k : IntKind} {b off g : Nat} {xs : List Int} (h : Sl w k (some ⟨b, off, none⟩) xs) (hg : w.grownBy w' (some g)) (hne : b ≠ g) : Sl w' k (some ⟨b, off, none⟩) xs := by
 intro i x hx
 obtain ⟨b', off', e, hc⟩ := h i x hx
 refine ⟨b', off', e, ?_⟩
 injection e with e; injection e with e1 e2; subst e1 e2
 have hlt : b < w.heap.size := World.block_lt_of_cell? _ _ hc
 exact (World.cell?_of_block (hg.block b hlt (fun e => hne (by injection e)))).trans hc
theorem meet_bd {A B : Box} {la lb lc ld le lf : Int} (h : Small A 1048575) (hM : meetB A B = ⟨⟨la, lb, lc⟩, ⟨ld, le, lf⟩⟩) :
 -1048576 ≤ la ∧ -1048576 ≤ lb ∧ -1048576 ≤ lc ∧ ld ≤ 1048576 ∧ le ≤ 1048576 ∧ lf ≤ 1048576 ∧ la ≤ ld ∧ lb ≤ le ∧ lc ≤ lf := by
 obtain ⟨s1, s2, s3, s4, s5, s6⟩ := h
 unfold meetB at hM
 split at hM
 · simp [Box.zero, Pt.zero] at hM; omega
 · rename_i he
   have he := emptyB_iff.1 (by simpa using he)
   rw [hM] at he
   simp only [joinB, Box.mk.injEq, Pt.mk.injEq] at hM
   simp only at he
   omega
theorem Sl.any {w : World} {k : IntKind} {a a' : Option Addr} (_h : Sl w k a []) : Sl w k a' [] := Sl.nil _ _ _
set_option maxRecDepth 100000 in
set_option maxHeartbeats 1000000 in
theorem paste_clo (pg ph g N cap Bd : Nat) (a b c d e f a2 b2 c2 d2 e2 f2 : Int) (gc : Value) (ha : Option Addr) (hcp : Nat) (xs ys : List Int) (w : World) (hSA : Small ⟨⟨a, b, c⟩, ⟨d, e, f⟩⟩ 1048575) (hSB : Small ⟨⟨a2, b2, c2⟩, ⟨d2, e2, f2⟩⟩ 1048575)
 (hxl : xs.length = (volB ⟨⟨a, b, c⟩, ⟨d, e, f⟩⟩).toNat) (hyl : ys.length = (volB ⟨⟨a2, b2, c2⟩, ⟨d2, e2, f2⟩⟩).toNat) (hN : N ≤ 4194304) (hY : ys.length ≤ 4194304) (hcap : ys.length ≤ hcp) (hag : 0 < ys.length → ∀ b off, ha = some ⟨b, off, none⟩ → b ≠ g)
 (kg : Bk w pg #[.int .i64 a, .int .i64 b, .int .i64 c, .int .i64 d, .int .i64 e, .int .i64 f, gc] 28) (kh : Bk w ph #[.int .i64 a2, .int .i64 b2, .int .i64 c2, .int .i64 d2, .int .i64 e2, .int .i64 f2, .slice ha ys.length hcp] 28) (hx : Sl w .i64 ha ys) (ho : Own w Bd 3 .i64 (.slice (some ⟨g, 0, none⟩) N cap) xs) (_hgp : g ≠ pg) (hgh : g ≠ ph) :
 Calls Tryz.prog 140 #[.slice (some ⟨g, 0, none⟩) N cap, .pointer (some ⟨pg, 0, none⟩), .pointer (some ⟨ph, 0, none⟩)] w fun e' w' => e' = .returned (.tuple #[]) ∧ Own w' Bd 3 .i64 (.slice (some ⟨g, 0, none⟩) N cap) (pasteL ⟨⟨a, b, c⟩, ⟨d, e, f⟩⟩ ⟨⟨a2, b2, c2⟩, ⟨d2, e2, f2⟩⟩ xs ys) ∧ w.grownBy w' (some g) := by
 obtain ⟨⟨⟨la, lb, lc⟩, ⟨ld, le, lf⟩⟩, hM⟩ : ∃ M, meetB ⟨⟨a, b, c⟩, ⟨d, e, f⟩⟩ ⟨⟨a2, b2, c2⟩, ⟨d2, e2, f2⟩⟩ = M := ⟨_, rfl⟩
 have hgl := (ho.lt g rfl).2
 have hNl : xs.length = N := ho.raw.choose_spec.2.2.2.2.2.2.symm
 have hsz := kg.lt
 have hsz2 := kh.lt
 have cg := fun (j : Nat) v (h : (#[.int .i64 a, .int .i64 b, .int .i64 c, .int .i64 d, .int .i64 e, .int .i64 f, gc] : Array Value)[j]? = some v) => (kg.alloc (.cells #[.slice (some ⟨g, 0, none⟩) N cap] 26)).cell j h
 have ch := fun (j : Nat) v (h : (#[.int .i64 a2, .int .i64 b2, .int .i64 c2, .int .i64 d2, .int .i64 e2, .int .i64 f2, .slice ha ys.length hcp] : Array Value)[j]? = some v) => (kh.alloc (.cells #[.slice (some ⟨g, 0, none⟩) N cap] 26)).cell j h
 have cg0 := cg 0 _ rfl
 have ch0 := ch 0 _ rfl
 have cg1 := cg 1 _ rfl
 have ch1 := ch 1 _ rfl
 have cg2 := cg 2 _ rfl
 have ch2 := ch 2 _ rfl
 have cg3 := cg 3 _ rfl
 have ch3 := ch 3 _ rfl
 have cg4 := cg 4 _ rfl
 have ch4 := ch 4 _ rfl
 have cg5 := cg 5 _ rfl
 have ch5 := ch 5 _ rfl
 have cg6 := cg 6 _ rfl
 have ch6 := ch 6 _ rfl
 clear cg ch
 go_enter Tryz.func140, Tryz.ntmps140
 go_wp2_with fail
 generalize hW : World.alloc w _ = W
 have hb : Below w.heap.size w W := by rw [← hW]; exact (Below.refl _ _).alloc (Nat.le_refl _) _
 have kb : Bk W w.heap.size #[.slice (some ⟨g, 0, none⟩) N cap] 26 := by rw [← hW]; exact blk_new _ _ _ rfl
 clear hW cg0 ch0 cg1 ch1 cg2 ch2 cg3 ch3 cg4 ch4 cg5 ch5 cg6 ch6
 have kh1 := kh.later hb
 have ho1 := ho.below hb
 have hx1 := hx.below hb
 have hSz := hb.size
 have hSA' := hSA
 obtain ⟨s1, s2, s3, s4, s5, s6⟩ := hSA'
 have hJ := hM
 refine (rows_paste ph w.heap.size g a b c d e f a2 b2 c2 d2 e2 f2 la lb lc ld le lf gc hSA hM ?_
  (fun z y W' => Own W' Bd 3 .i64 (.slice (some ⟨g, 0, none⟩) N cap) (partL ⟨⟨a, b, c⟩, ⟨d, e, f⟩⟩ ⟨⟨a2, b2, c2⟩, ⟨d2, e2, f2⟩⟩ xs ys z y) ∧ Bk W' ph #[.int .i64 a2, .int .i64 b2, .int .i64 c2, .int .i64 d2, .int .i64 e2, .int .i64 f2, .slice ha ys.length hcp] 28 ∧ Bk W' w.heap.size #[.slice (some ⟨g, 0, none⟩) N cap] 26 ∧ Sl W' .i64 ha ys) W (by omega) ?_ ?_ ?_ ?_).mono ?_
 · exact meet_bd hSA hM
 · rintro z y W1 W2 ⟨h1, h2, h3, h4⟩ hb
   exact ⟨h1.below hb, h2.later hb, h3.later hb, h4.below hb⟩
 · refine ⟨?_, kh1, kb, hx1⟩
   have := partL_start (A := ⟨⟨a, b, c⟩, ⟨d, e, f⟩⟩) (B := ⟨⟨a2, b2, c2⟩, ⟨d2, e2, f2⟩⟩) (ys := ys) hxl
   rw [hM] at this
   rw [this]; exact ho1
 · rintro z y W1 z1 z2 y1 y2 ⟨h1, h2, h3, h4⟩ hgr
   obtain ⟨hlt, hrow⟩ := row_in hM ⟨z1, z2⟩ ⟨y1, y2⟩
   have hr0 := hrow 0 (by omega) (by omega)
   rw [Int.add_zero] at hr0
   obtain ⟨k, hk⟩ : ∃ k : Nat, indexB ⟨⟨a, b, c⟩, ⟨d, e, f⟩⟩ ⟨la, y, z⟩ = (k : Int) := ⟨_, (Int.toNat_of_nonneg (indexB_bd hr0.1).1).symm⟩
   obtain ⟨from_, hf⟩ : ∃ k : Nat, indexB ⟨⟨a2, b2, c2⟩, ⟨d2, e2, f2⟩⟩ ⟨la, y, z⟩ = (k : Int) := ⟨_, (Int.toNat_of_nonneg (indexB_bd hr0.2).1).symm⟩
   obtain ⟨n, hn⟩ : ∃ n : Nat, ld - la = (n : Int) := ⟨(ld - la).toNat, by omega⟩
   obtain ⟨p1, p2, p3, p4⟩ := partL_row (xs := xs) hM ⟨z1, z2⟩ ⟨y1, y2⟩ hk hf hn hyl
   rw [hk, hn]
   refine (row_copy ph w.heap.size g k n N cap la y z a2 b2 c2 d2 e2 f2 ha hcp ys _ hSB Bd from_ W1 hf p1 p2 (by omega) hN hY hcap h2 h3 h4 h1 hgh (by omega)).mono ?_
   rintro e' w3 ⟨rfl, h5, h6⟩
   rw [p4] at h5
   refine ⟨rfl, ⟨h5, h2.grown h6 (Ne.symm hgh), h3.grown h6 (by omega), ?_⟩, h6⟩
   obtain ⟨bb, oo, e, _⟩ := h4 from_ (ys[from_]'(by omega)) (by simp)
   subst e
   exact h4.grown h6 (hag (by omega) _ _ rfl)
 · rintro z W1 z1 z2 ⟨h1, h2, h3, h4⟩
   have := partL_next (A := ⟨⟨a, b, c⟩, ⟨d, e, f⟩⟩) (B := ⟨⟨a2, b2, c2⟩, ⟨d2, e2, f2⟩⟩) (xs := xs) (ys := ys) (z := z)
   rw [hM] at this
   rw [this] at h1
   exact ⟨h1, h2, h3, h4⟩
 · rintro e' w2 ⟨rfl, ⟨h1, h2, h3, h4⟩, h5⟩
   have := partL_end (A := ⟨⟨a, b, c⟩, ⟨d, e, f⟩⟩) (B := ⟨⟨a2, b2, c2⟩, ⟨d2, e2, f2⟩⟩) (xs := xs) (ys := ys)
   rw [hM] at this
   rw [this] at h1
   go_wp2_with fail
   go_end0
   exact ⟨rfl, h1, (grown_trans ⟨hb.os, hb.tape, hb.output, hb.size, fun k hk _ => hb.block k hk⟩ h5)⟩
set_option maxRecDepth 100000 in
set_option maxHeartbeats 1000000 in
theorem changed_paste (pg ph : Nat) (a b c d e f a2 b2 c2 d2 e2 f2 : Int) (ga ha : Option Addr) (gcap hcp : Nat) (xs ys : List Int) (w : World) (hSA : Small ⟨⟨a, b, c⟩, ⟨d, e, f⟩⟩ 1048575) (hSB : Small ⟨⟨a2, b2, c2⟩, ⟨d2, e2, f2⟩⟩ 1048575)
 (hxl : xs.length = (volB ⟨⟨a, b, c⟩, ⟨d, e, f⟩⟩).toNat) (hyl : ys.length = (volB ⟨⟨a2, b2, c2⟩, ⟨d2, e2, f2⟩⟩).toNat) (hX1 : 1 ≤ xs.length) (hN : xs.length ≤ 4194304) (hY : ys.length ≤ 4194304) (hcap : ys.length ≤ hcp)
 (kg : Bk w pg #[.int .i64 a, .int .i64 b, .int .i64 c, .int .i64 d, .int .i64 e, .int .i64 f, .slice ga xs.length gcap] 28) (kh : Bk w ph #[.int .i64 a2, .int .i64 b2, .int .i64 c2, .int .i64 d2, .int .i64 e2, .int .i64 f2, .slice ha ys.length hcp] 28) (hx : Sl w .i64 ha ys) (hg : Sl w .i64 ga xs) :
 Calls Tryz.prog 139 #[.agg #[.int .i64 a, .int .i64 b, .int .i64 c, .int .i64 d, .int .i64 e, .int .i64 f, .slice ga xs.length gcap], .func (.func 140) #[] #[.pointer (some ⟨pg, 0, none⟩), .pointer (some ⟨ph, 0, none⟩)]] w
  fun e' w' => ∃ v, e' = .returned (.agg #[.int .i64 a, .int .i64 b, .int .i64 c, .int .i64 d, .int .i64 e, .int .i64 f, v]) ∧ Own w' w.heap.size 3 .i64 v (pasteL ⟨⟨a, b, c⟩, ⟨d, e, f⟩⟩ ⟨⟨a2, b2, c2⟩, ⟨d2, e2, f2⟩⟩ xs ys) ∧ Below w.heap.size w w' := by
 have hpg := kg.lt
 have hph := kh.lt
 have hcl := Bx.mk fun W h => slices_clone ga gcap xs W (by omega) h
 have hclo := Bx.mk fun Bd g N cap W h1 h2 h3 h4 h5 h6 h7 h8 => paste_clo pg ph g N cap Bd a b c d e f a2 b2 c2 d2 e2 f2 (.slice ga xs.length gcap) ha hcp xs ys W hSA hSB hxl hyl h8 hY hcap h1 h2 h3 h4 h5 h6 h7
 have hab : 0 < ys.length → ∀ b off, ha = some ⟨b, off, none⟩ → b < w.heap.size := fun h b off e => by
  subst e
  obtain ⟨b', off', e, hc⟩ := hx 0 (ys[0]'h) (by simp)
  injection e with e; injection e with e1 e2; subst e1 e2
  exact World.block_lt_of_cell? _ _ hc
 have Hab := Bx.mk hab
 have Hx := Bx.mk hx
 have Hg := Bx.mk hg
 have Kg := Bx.mk kg
 have Kh := Bx.mk kh
 clear hab hx hg kg kh hSA hSB hxl hyl hY hcap
 go_enter Tryz.func139, Tryz.ntmps139
 go_wp2_with fail
 generalize hW : World.alloc (World.alloc w _) _ = W
 have hSz : w.heap.size + 1 + 1 ≤ W.heap.size := by rw [← hW]; simp
 have hB : Below w.heap.size w W := by rw [← hW]; exact ((Below.refl _ _).alloc (Nat.le_refl _) _).alloc (by simp) _
 have kr : Bk W (w.heap.size) #[.int .i64 a, .int .i64 b, .int .i64 c, .int .i64 d, .int .i64 e, .int .i64 f, .slice ga xs.length gcap] 28 := by rw [← hW]; exact blk_old (blk_new _ _ _ (by simp))
 have kq : Bk W (w.heap.size + 1) #[.int .i64 0, .int .i64 0, .int .i64 0, .int .i64 0, .int .i64 0, .int .i64 0, .slice none 0 0] 28 := by rw [← hW]; exact blk_new _ _ _ (by simp)
 clear hW
 obtain ⟨cr0, cr1, cr2, cr3, cr4, cr5, cr6⟩ := kr.c7
 go_wp2_with fail
 refine (hcl.out _ (Hg.out.below hB)).mono ?_
 rintro e' w1 ⟨v, rfl, ho, hb⟩
 clear hcl
 obtain ⟨Bd, hBd⟩ : ∃ Bd, Bd = W.heap.size := ⟨_, rfl⟩
 rw [← hBd] at ho hb
 have hSd : w.heap.size + 2 ≤ Bd := by omega
 replace hb : Below W.heap.size W w1 := hBd ▸ hb
 clear cr0 cr1 cr2 cr3 cr4 cr5 cr6
 replace hB := hB.trans (hb.mono hB.size)
 replace kr := kr.later hb
 replace kq := kq.later hb
 replace hSz := Nat.le_trans hSz hb.size
 clear hb
 obtain ⟨g, cap, rfl, hg1, hg2, -, -, -⟩ := ho.at (by omega)
 go_wp2_with fail
 refine (hclo.out Bd g xs.length cap w1 (fun h b off e => by have := Hab.out h b off e; omega) (Kg.out.later hB) (Kh.out.later hB) (Hx.out.below hB) ho (by omega) (by omega) hN).mono ?_
 rintro e' w3 ⟨rfl, h1, hgr⟩
 clear hclo
 replace hB := hB.grown hgr hB.size (fun k hk => by injection hk; omega)
 replace kr := kr.grown hgr (by omega)
 replace kq := kq.grown hgr (by omega)
 have H1 := Bx.mk h1
 clear h1 hgr ho hg1 hg2 Hg Hx Kg Kh Hab
 obtain ⟨cr0, cr1, cr2, cr3, cr4, cr5, cr6⟩ := kr.c7
 obtain ⟨cq0, cq1, cq2, cq3, cq4, cq5, cq6⟩ := kq.c7
 obtain ⟨fq0, fq1, fq2, fq3, fq4, fq5, fq6⟩ := kq.f7
 go_wp2_with fail
 replace kq := kq.put7 (.int .i64 a) (.int .i64 b) (.int .i64 c) (.int .i64 d) (.int .i64 e) (.int .i64 f) (.slice (some ⟨g, 0, none⟩) xs.length cap)
 exact bodyPost_ret (v := .agg #[.int .i64 a, .int .i64 b, .int .i64 c, .int .i64 d, .int .i64 e, .int .i64 f, .slice (some ⟨g, 0, none⟩) xs.length cap]) (results_cell_row rfl _ _ _ 28 #[.int .i64 a, .int .i64 b, .int .i64 c, .int .i64 d, .int .i64 e, .int .i64 f, .slice (some ⟨g, 0, none⟩) xs.length cap] (0, 0) _ rfl kq Tryz.underlying28 rfl (by kernel_rfl)) rfl ⟨_, rfl, (((((((H1.out.setBelow (by simp; omega) _).setBelow (by simp; omega) _).setBelow (by simp; omega) _).setBelow (by simp; omega) _).setBelow (by simp; omega) _).setBelow (by simp; omega) _).setBelow (by simp; omega) _).base (by omega), blw7 hB (by omega) _ _ _ _ _ _ _⟩
def RetG1 (a b c d e f : Int) (n : Nat) (zs : List Int) (w : World) (E : Ending) (w' : World) : Prop :=
 ∃ pa pc, E = .returned (.agg #[.int .i64 a, .int .i64 b, .int .i64 c, .int .i64 d, .int .i64 e, .int .i64 f, .slice pa n pc]) ∧ n = zs.length ∧ Own w' w.heap.size 3 .i64 (.slice pa n pc) zs ∧ Below w.heap.size w w'
theorem pasteL_length (A B : Box) (xs ys : List Int) : (pasteL A B xs ys).length = (volB A).toNat := cellsOf_length _ _
set_option maxRecDepth 100000 in
set_option maxHeartbeats 1000000 in
theorem paste_any (a b c d e f a2 b2 c2 d2 e2 f2 : Int) (ga ha : Option Addr) (gcap hcp : Nat) (xs ys : List Int) (w : World) (hSA : Small ⟨⟨a, b, c⟩, ⟨d, e, f⟩⟩ 1048575) (hSB : Small ⟨⟨a2, b2, c2⟩, ⟨d2, e2, f2⟩⟩ 1048575)
 (hxl : xs.length = (volB ⟨⟨a, b, c⟩, ⟨d, e, f⟩⟩).toNat) (hyl : ys.length = (volB ⟨⟨a2, b2, c2⟩, ⟨d2, e2, f2⟩⟩).toNat) (hX1 : 1 ≤ xs.length) (hN : xs.length ≤ 4194304) (hY : ys.length ≤ 4194304) (hcap : ys.length ≤ hcp)
 (hx : Sl w .i64 ha ys) (hg : Sl w .i64 ga xs) :
 Calls Tryz.prog 110 #[.agg #[.int .i64 a, .int .i64 b, .int .i64 c, .int .i64 d, .int .i64 e, .int .i64 f, .slice ga xs.length gcap], .agg #[.int .i64 a2, .int .i64 b2, .int .i64 c2, .int .i64 d2, .int .i64 e2, .int .i64 f2, .slice ha ys.length hcp]] w (RetG1 a b c d e f xs.length (pasteL ⟨⟨a, b, c⟩, ⟨d, e, f⟩⟩ ⟨⟨a2, b2, c2⟩, ⟨d2, e2, f2⟩⟩ xs ys) w) := by
 have hch := Bx.mk fun pg ph W h1 h2 h3 h4 => changed_paste pg ph a b c d e f a2 b2 c2 d2 e2 f2 ga ha gcap hcp xs ys W hSA hSB hxl hyl hX1 hN hY hcap h1 h2 h3 h4
 have hlen := Bx.mk (hxl.trans (pasteL_length ⟨⟨a, b, c⟩, ⟨d, e, f⟩⟩ ⟨⟨a2, b2, c2⟩, ⟨d2, e2, f2⟩⟩ xs ys).symm)
 have Hx := Bx.mk hx
 have Hg := Bx.mk hg
 clear hSA hSB hxl hyl hY hcap hX1 hN hx hg
 go_enter Tryz.func110, Tryz.ntmps110
 go_wp2_with fail
 generalize hW : World.alloc (World.alloc (World.alloc w _) _) _ = W
 have hSz : w.heap.size + 1 + 1 + 1 ≤ W.heap.size := by rw [← hW]; simp
 have hB : Below w.heap.size w W := by rw [← hW]; exact (((Below.refl _ _).alloc (Nat.le_refl _) _).alloc (by simp) _).alloc (by simp; omega) _
 have kg : Bk W (w.heap.size) #[.int .i64 a, .int .i64 b, .int .i64 c, .int .i64 d, .int .i64 e, .int .i64 f, .slice ga xs.length gcap] 28 := by rw [← hW]; exact blk_old (blk_old (blk_new _ _ _ (by simp)))
 have kh : Bk W (w.heap.size + 1) #[.int .i64 a2, .int .i64 b2, .int .i64 c2, .int .i64 d2, .int .i64 e2, .int .i64 f2, .slice ha ys.length hcp] 28 := by rw [← hW]; exact blk_old (blk_new _ _ _ (by simp))
 have kr : Bk W (w.heap.size + 1 + 1) #[.int .i64 0, .int .i64 0, .int .i64 0, .int .i64 0, .int .i64 0, .int .i64 0, .slice none 0 0] 28 := by rw [← hW]; exact blk_new _ _ _ (by simp)
 clear hW
 obtain ⟨cg0, cg1, cg2, cg3, cg4, cg5, cg6⟩ := kg.c7
 go_wp2_with fail
 refine (hch.out _ _ _ kg kh (Hx.out.below hB) (Hg.out.below hB)).mono ?_
 rintro e' w1 ⟨v, rfl, ho, hb⟩
 obtain ⟨Bd, hBd⟩ : ∃ Bd, Bd = W.heap.size := ⟨_, rfl⟩
 rw [← hBd] at ho hb
 have hSd : w.heap.size + 3 ≤ Bd := by omega
 replace hb : Below W.heap.size W w1 := hBd ▸ hb
 clear hch Hx Hg
 clear cg0 cg1 cg2 cg3 cg4 cg5 cg6
 replace hB := hB.trans (hb.mono hB.size)
 replace kg := kg.later hb
 replace kh := kh.later hb
 replace kr := kr.later hb
 replace hSz := Nat.le_trans hSz hb.size
 clear hb
 obtain ⟨pa, pc, rfl, -⟩ := ho.form
 rw [← hlen.out] at ho
 rw [← hlen.out]
 have Ho := Bx.mk ho
 clear ho
 obtain ⟨cr0, cr1, cr2, cr3, cr4, cr5, cr6⟩ := kr.c7
 obtain ⟨fr0, fr1, fr2, fr3, fr4, fr5, fr6⟩ := kr.f7
 go_wp2_with fail
 replace kr := kr.put7 (.int .i64 a) (.int .i64 b) (.int .i64 c) (.int .i64 d) (.int .i64 e) (.int .i64 f) (.slice pa xs.length pc)
 exact bodyPost_ret (v := .agg #[.int .i64 a, .int .i64 b, .int .i64 c, .int .i64 d, .int .i64 e, .int .i64 f, .slice pa xs.length pc]) (results_cell_row rfl _ _ _ 28 #[.int .i64 a, .int .i64 b, .int .i64 c, .int .i64 d, .int .i64 e, .int .i64 f, .slice pa xs.length pc] (0, 0) _ rfl kr Tryz.underlying28 rfl (by kernel_rfl)) rfl ⟨_, _, rfl, hlen.out, (((((((Ho.out.setBelow (by simp; omega) _).setBelow (by simp; omega) _).setBelow (by simp; omega) _).setBelow (by simp; omega) _).setBelow (by simp; omega) _).setBelow (by simp; omega) _).setBelow (by simp; omega) _).base (by omega), blw7 hB (by omega) _ _ _ _ _ _ _⟩
end Go.Proofs.YtabclecmehdeoaaGreatDoor
end
