/- Gen, Gri, CanP, ShaP, Cub, Enp, Stl: joined by program, for one claim. -/
import Derived.Test.YtabclecmehdeoaaGreatDoorMr
import Derived.Test.YtabclecmehdeoaaGreatDoorM22
import Derived.Test.YtabclecmehdeoaaGreatDoorM2
import Derived.Test.YtabclecmehdeoaaGreatDoorM11
section
namespace Go.Proofs.YtabclecmehdeoaaGreatDoor
open Go.RowKit
open Oct
structure FnC (n : Nat) (f : Pt → Int) : Prop where
 range : ∀ p, 0 ≤ f p ∧ f p ≤ 255
 out : ∀ p, inB p (cubeB (2 ^ (n + 2))) = false → f p = 0
noncomputable abbrev trF (n : Nat) (f : Pt → Int) : Tr := Tr.can f n ⟨0, 0, 0⟩
theorem inC_of_in {n : Nat} {p : Pt} (h : inB p (cubeB (2 ^ (n + 2))) = true) : Tr.InC n ⟨0, 0, 0⟩ p := by
 have hl := inB_iff.1 h
 simp only [cubeB, Pt.zero] at hl
 unfold Tr.InC
 simp only [Int.zero_ediv]
 refine ⟨Int.ediv_eq_zero_of_lt (by omega) (by omega), Int.ediv_eq_zero_of_lt (by omega) (by omega), Int.ediv_eq_zero_of_lt (by omega) (by omega)⟩
theorem FnC.upd {n : Nat} {f : Pt → Int} (h : FnC n f) {p : Pt} (hI : inB p (cubeB (2 ^ (n + 2))) = true) {c : Int} (hc : 0 ≤ c ∧ c ≤ 255) : FnC n (Tr.upd f p c) := by
 refine ⟨fun q => ?_, fun q hq => ?_⟩
 · unfold Tr.upd; split
   · exact hc
   · exact h.range q
 · unfold Tr.upd; split
   · rename_i e; rw [e, hI] at hq; cases hq
   · exact h.out q hq
theorem grid_fn {b : Box} {xs : List Int} {hcp n : Nat} (HX : GoodG b xs hcp) (hC : emptyB b = true ∨ containsB ⟨⟨0, 0, 0⟩, ⟨2 ^ (n + 2), 2 ^ (n + 2), 2 ^ (n + 2)⟩⟩ b = true) : FnC n (cellG b xs) := by
 refine ⟨HX.range, fun p hp => ?_⟩
 cases hb : inB p b with
 | false => unfold cellG; rw [if_neg (by simp [hb])]
 | true =>
   exfalso
   have h1 := inB_iff.1 hb
   rcases hC with hC | hC
   · have := emptyB_iff'.1 hC
     omega
   · unfold containsB at hC
     rw [Bool.or_eq_true] at hC
     rcases hC with hC | hC
     · have := emptyB_iff'.1 hC
       omega
     · have h2 : inB p (meetB ⟨⟨0, 0, 0⟩, ⟨2 ^ (n + 2), 2 ^ (n + 2), 2 ^ (n + 2)⟩⟩ b) = true := by rw [of_decide_eq_true hC]; exact hb
       have h3 : inB p (cubeB (2 ^ (n + 2))) = true := inB_iff.2 (by
        unfold meetB at h2
        split at h2
        · have := inB_iff.1 h2
          simp only [Box.zero, Pt.zero] at this
          omega
        · have := inB_iff.1 h2
          simp only [joinB] at this
          simp only [cubeB, Pt.zero]
          omega)
       rw [hp] at h3; cases h3
theorem get_tr {n : Nat} {f : Pt → Int} {p : Pt} (hI : inB p (cubeB (2 ^ (n + 2))) = true) : Tr.getT (trF n f) n p = f p := Tr.get_can f n _ p (al_zero n) (inC_of_in hI)
theorem good_fn {n : Nat} {f : Pt → Int} (hn : n ≤ 12) (hF : FnC n f) {ts : List Tr} (hG : Good ts) : Good (Tr.add (trF n f) ts) := good_add _ hG (wf_can hF.range n _ (by omega))
theorem get_fn (w : World) (Far : Nat → Prop) (sb : Nat) (most : Int) (ts : List Tr) (n : Nat) (f : Pt → Int) (hn : n ≤ 12) (hF : FnC n f) (hG : Good ts) (hlen : ts.length ≤ 1000000000000) (ht : trF n f ∈ ts) (px py pz : Int) (hS : StoreIs w Far sb most ts) :
 Calls Tryz.prog 15 #[.pointer (some ⟨sb, 0, none⟩), .int .i64 (idT ts (trF n f) : Int), .int .i64 ((n : Int) + 2), .agg #[.int .i64 px, .int .i64 py, .int .i64 pz]] w fun e w' => e = .returned (.int .i64 (f ⟨px, py, pz⟩)) ∧ Below w.heap.size w w' := by
 cases hI : inB ⟨px, py, pz⟩ (cubeB (2 ^ (n + 2))) with
 | false =>
   rw [hF.out _ hI]
   have := get_out w sb (idT ts (trF n f) : Int) (n + 2) (by omega) px py pz hI
   rwa [show ((n + 2 : Nat) : Int) = (n : Int) + 2 by omega] at this
 | true =>
   have := get_in w Far sb most ts (trF n f) ht n hn (dep_can f n _) hG hlen px py pz hI hS
   rwa [get_tr hI] at this
end Go.Proofs.YtabclecmehdeoaaGreatDoor
end
section
namespace Go.Proofs.YtabclecmehdeoaaGreatDoor
open Go.RowKit Go.Sort Go.Maps
open Oct
def fillL (b : Box) (F : Pt → Int) (m k : Nat) : List Int := (List.range m).map fun j : Nat => if j < k then F (atB b (j : Int)) else 0
theorem fillL_length (b : Box) (F : Pt → Int) (m k : Nat) : (fillL b F m k).length = m := by simp [fillL]
theorem fillL_zero (b : Box) (F : Pt → Int) (m : Nat) : fillL b F m 0 = List.replicate m 0 := by
 unfold fillL
 apply List.ext_getElem?
 intro i
 simp only [List.getElem?_map, List.getElem?_replicate]
 by_cases hi : i < m
 · simp [hi]
 · simp [hi]
theorem fillL_all (b : Box) (F : Pt → Int) : fillL b F (volB b).toNat (volB b).toNat = cellsOf b F := by
 unfold fillL cellsOf
 apply List.map_congr_left
 intro i hi
 rw [if_pos (List.mem_range.1 hi)]
theorem fillL_set (b : Box) (F : Pt → Int) {m k : Nat} (hk : k < m) : (fillL b F m k).set k (F (atB b (k : Int))) = fillL b F m (k + 1) := by
 unfold fillL
 apply List.ext_getElem?
 intro i
 rw [List.getElem?_set]
 simp only [List.getElem?_map, List.length_map, List.length_range]
 by_cases hi : i < m
 · by_cases e : k = i
   · subst e; simp [hk]
   · rw [if_neg e]
     simp only [List.getElem?_range hi, Option.map_some, Option.some.injEq]
     by_cases h1 : i < k
     · rw [if_pos h1, if_pos (by omega)]
     · rw [if_neg h1, if_neg (by omega)]
 · rw [if_neg (by omega)]
   simp [hi]
theorem fillL_at (b : Box) (F : Pt → Int) {m k : Nat} (hk : k < m) : (fillL b F m k)[k]? = some 0 := by
 unfold fillL
 simp [hk]
theorem sl_put7 {w : World} {k : IntKind} {g r off : Nat} {xs : List Int} (h : Sl w k (some ⟨g, off, none⟩) xs) (hne : g ≠ r) (x0 x1 x2 x3 x4 x5 x6 : Value) :
 Sl (((((((w.setCell ⟨r, 0, none⟩ x0).setCell ⟨r, 1, none⟩ x1).setCell ⟨r, 2, none⟩ x2).setCell ⟨r, 3, none⟩ x3).setCell ⟨r, 4, none⟩ x4).setCell ⟨r, 5, none⟩ x5).setCell ⟨r, 6, none⟩ x6) k (some ⟨g, off, none⟩) xs := by
 have one : ∀ (w : World) (j : Nat) (x : Value), Sl w k (some ⟨g, off, none⟩) xs → Sl (w.setCell ⟨r, j, none⟩ x) k (some ⟨g, off, none⟩) xs := fun w j x h => h.grown (grown_setCell w ⟨r, j, none⟩ x) hne
 exact one _ _ _ (one _ _ _ (one _ _ _ (one _ _ _ (one _ _ _ (one _ _ _ (one _ _ _ h))))))
structure GrI (w : World) (bv rv gv : Array Value) (g gg m cap : Nat) (xs : List Int) (wr : World) : Prop where
 own : Own wr w.heap.size 3 .i64 (.slice (some ⟨g, 0, none⟩) m cap) xs
 bel : Below w.heap.size w wr
 kb : Bk wr w.heap.size bv 25
 kr : Bk wr (w.heap.size + 1) rv 28
 kg : Bk wr gg gv 28
set_option maxRecDepth 100000 in
set_option maxHeartbeats 4000000 in
theorem grid_full (w : World) (Far : Nat → Prop) (sb : Nat) (most : Int) (ts : List Tr) (n : Nat) (F : Pt → Int) (hn : n ≤ 12) (hF : FnC n F) (hG : Good ts) (hlen : ts.length ≤ 1000000000000) (ht : trF n F ∈ ts) (hS : StoreIs w Far sb most ts)
 (a b c d e f : Int) (h0 : newE ⟨⟨a, b, c⟩, ⟨d, e, f⟩⟩ 0 = 0) (hem : emptyB ⟨⟨a, b, c⟩, ⟨d, e, f⟩⟩ = false) (m : Nat) (hm : volB ⟨⟨a, b, c⟩, ⟨d, e, f⟩⟩ = (m : Int)) (hs : Small ⟨⟨a, b, c⟩, ⟨d, e, f⟩⟩ 1048575) (hmm : m ≤ 2097152) :
 Calls Tryz.prog 9 #[.pointer (some ⟨sb, 0, none⟩), .int .i64 (idT ts (trF n F) : Int), .int .i64 ((n : Int) + 2), .agg #[.int .i64 a, .int .i64 b, .int .i64 c, .int .i64 d, .int .i64 e, .int .i64 f]] w fun e' w' => ∃ pa pc, e' = .returned (.tuple #[.agg #[.int .i64 a, .int .i64 b, .int .i64 c, .int .i64 d, .int .i64 e, .int .i64 f, .slice pa m pc], .int .i64 0]) ∧ Sl w' .i64 pa (cellsOf ⟨⟨a, b, c⟩, ⟨d, e, f⟩⟩ F) ∧ Below w.heap.size w w' := by
 have hNew := Bx.mk fun W => new_full a b c d e f 0 h0 hem m hm W
 have hAt := Bx.mk fun W (k : Nat) (hk : k < m) => at_yes a b c d e f (k : Int) hs (by omega) W
 have hGet := Bx.mk fun W (h : Below w.heap.size w W) (p : Pt) => get_fn W Far sb most ts n F hn hF hG hlen ht p.x p.y p.z (hS.later h)
 have hfin := Bx.mk (fillL_all ⟨⟨a, b, c⟩, ⟨d, e, f⟩⟩ F)
 rw [hm, Int.toNat_natCast] at hfin
 have hpos : 0 < m := by
  have := emptyB_iff.1 hem
  have h1 : volB ⟨⟨a, b, c⟩, ⟨d, e, f⟩⟩ = (d - a) * (e - b) * (f - c) := by unfold volB; rw [sizeB_full hem]; rfl
  simp only at this
  have h2 : 0 < (d - a) * (e - b) := Int.mul_pos (by omega) (by omega)
  have h3 : 0 < (d - a) * (e - b) * (f - c) := Int.mul_pos h2 (by omega)
  omega
 generalize (idT ts (trF n F) : Int) = id at *
 generalize ((n : Int) + 2) = dd at *
 clear hF hG hlen ht hS h0 hem hm hs hn
 go_enter Tryz.func9, Tryz.ntmps9
 go_wp2_with fail
 generalize hW : World.alloc (World.alloc w _) _ = W
 have hSz : w.heap.size + 1 + 1 ≤ W.heap.size := by rw [← hW]; simp
 have hB : Below w.heap.size w W := by rw [← hW]; exact ((Below.refl _ _).alloc (Nat.le_refl _) _).alloc (by simp) _
 have kb : Bk W (w.heap.size) #[.int .i64 a, .int .i64 b, .int .i64 c, .int .i64 d, .int .i64 e, .int .i64 f] 25 := by rw [← hW]; exact blk_old (blk_new _ _ _ (by simp))
 have kr : Bk W (w.heap.size + 1) #[.int .i64 0, .int .i64 0, .int .i64 0, .int .i64 0, .int .i64 0, .int .i64 0, .slice none 0 0] 28 := by rw [← hW]; exact blk_new _ _ _ (by simp)
 clear hW
 have hWs : w.heap.size + 1 + 1 ≤ W.heap.size := by omega
 obtain ⟨cb0, cb1, cb2, cb3, cb4, cb5⟩ := kb.c6
 go_wp2_with fail
 refine (hNew.out _).mono ?_
 rintro _ w1 ⟨pa, pc, rfl, how, hb0⟩
 replace hB := hB.trans (hb0.mono hB.size)
 replace kb := kb.later hb0
 replace kr := kr.later hb0
 replace hSz := Nat.le_trans hSz hb0.size
 clear hb0
 clear cb0 cb1 cb2 cb3 cb4 cb5
 obtain ⟨g, cap, hpa, hg1, hg2, -, -, -⟩ := how.at (by simp; omega)
 simp only [List.length_replicate] at hpa how ⊢
 injection hpa with e1 _ e3
 subst e1 e3
 have hgw : w.heap.size + 1 + 1 ≤ g := Nat.le_trans hWs hg1
 have how2 : Own w1 w.heap.size 3 .i64 (.slice (some ⟨g, 0, none⟩) m pc) (fillL ⟨⟨a, b, c⟩, ⟨d, e, f⟩⟩ F m 0) := by rw [fillL_zero]; exact how.base (by omega)
 clear how
 go_wp2_with fail
 obtain ⟨gg, hgg⟩ : ∃ gg, gg = w1.heap.size := ⟨_, rfl⟩
 generalize hW2 : World.alloc w1 _ = W2
 have HI : Bx (GrI w #[.int .i64 a, .int .i64 b, .int .i64 c, .int .i64 d, .int .i64 e, .int .i64 f] #[.int .i64 0, .int .i64 0, .int .i64 0, .int .i64 0, .int .i64 0, .int .i64 0, .slice none 0 0] #[.int .i64 a, .int .i64 b, .int .i64 c, .int .i64 d, .int .i64 e, .int .i64 f, .slice (some ⟨g, 0, none⟩) m pc] g gg m pc (fillL ⟨⟨a, b, c⟩, ⟨d, e, f⟩⟩ F m 0) W2) := ⟨by
  rw [← hW2]
  exact ⟨how2.alloc _, hB.alloc hB.size _, kb.alloc _, kr.alloc _, by rw [hgg]; exact Bk.new _ _ _⟩⟩
 have hgl : g < gg := by rw [hgg]; exact hg2
 rw [← hgg]
 clear hW2 how2 hB kb kr hg2 hSz hWs hNew hg1 hgg
 go_loopw [23] (fun v23 wr => ∃ k : Nat, k ≤ m ∧ v23 = .int .i64 k ∧ Bx (GrI w #[.int .i64 a, .int .i64 b, .int .i64 c, .int .i64 d, .int .i64 e, .int .i64 f] #[.int .i64 0, .int .i64 0, .int .i64 0, .int .i64 0, .int .i64 0, .int .i64 0, .slice none 0 0] #[.int .i64 a, .int .i64 b, .int .i64 c, .int .i64 d, .int .i64 e, .int .i64 f, .slice (some ⟨g, 0, none⟩) m pc] g gg m pc (fillL ⟨⟨a, b, c⟩, ⟨d, e, f⟩⟩ F m k) wr)) (fun i _ => m - (intOf i).toNat)
 case atStart => exact ⟨0, Nat.zero_le _, rfl, HI⟩
 case round =>
  clear HI
  obtain ⟨k, hk, rfl, HI⟩ := hrel
  obtain ⟨ho, hB, kb, kr, kg⟩ := HI.out
  have HO := Bx.mk ho
  clear ho HI
  by_cases hlt : k < m
  · have t0 : decide ((k : Int) < (m : Int)) = true := by simp; omega
    have t0' : (k : Int) < (m : Int) := by omega
    have t1 : (0 : Int) ≤ (k : Int) := by omega
    obtain ⟨cb0, cb1, cb2, cb3, cb4, cb5⟩ := kb.c6
    have hat := hAt.out (k := k)
    have hpv : Bx (F (atB ⟨⟨a, b, c⟩, ⟨d, e, f⟩⟩ (k : Int)) = F (atB ⟨⟨a, b, c⟩, ⟨d, e, f⟩⟩ (k : Int))) := ⟨rfl⟩
    rcases hpt : atB ⟨⟨a, b, c⟩, ⟨d, e, f⟩⟩ (k : Int) with ⟨px, py, pz⟩
    simp only [hpt] at hat
    replace hat := Bx.mk hat
    replace hpt := Bx.mk hpt
    clear hpv
    go_wp2_with fail
    refine (hat.out _ hlt).mono ?_
    rintro _ w5 ⟨rfl, hb0⟩
    replace HO := Bx.mk (HO.out.below hb0)
    replace hB := hB.trans (hb0.mono hB.size)
    replace kb := kb.later hb0
    replace kr := kr.later hb0
    replace kg := kg.later hb0
    clear hb0 cb0 cb1 cb2 cb3 cb4 cb5
    go_wp2_with fail
    obtain ⟨gp, hgp⟩ : ∃ gp, gp = w5.heap.size := ⟨_, rfl⟩
    generalize hW6 : World.alloc w5 _ = W6
    have hb0 : Below w5.heap.size w5 W6 := by rw [← hW6]; exact (Below.refl _ _).alloc (Nat.le_refl _) _
    have kp : Bk W6 gp #[.int .i64 px, .int .i64 py, .int .i64 pz] 23 := by rw [← hW6, hgp]; exact Bk.new _ _ _
    rw [← hgp]
    replace HO := Bx.mk (HO.out.below hb0)
    replace hB := hB.trans (hb0.mono hB.size)
    replace kb := kb.later hb0
    replace kr := kr.later hb0
    replace kg := kg.later hb0
    clear hb0 hW6 hgp
    have hSz := hB.size
    obtain ⟨cg0, cg1, cg2, cg3, cg4, cg5, cg6⟩ := kg.r7
    obtain ⟨cp0, cp1, cp2⟩ := kp.r3
    have q0 := Bx.mk fun dk osk => Calls.regrown_of (hGet.out (grow (redrawn W6 dk) osk) (hB.trans ((below_regrown W6 dk osk).mono hB.size)) ⟨px, py, pz⟩)
    refine wp_region_head_below 8 (by kernel_rfl) (by kernel_rfl) ?_
    simp only [List.take_succ_cons, List.take_zero, List.drop_succ_cons, List.drop_zero]
    repeat (first | go_big_quiet_step ((first | with_reducible exact q0.out _ _)) | quiet_step (first | with_reducible exact q0.out _ _))
    refine wpQuiet_nil ?_
    rintro _ ⟨⟨dq, osq⟩, rfl⟩
    have hb := below_regrown W6 dq osq
    replace hB := hB.trans (hb.mono hB.size)
    clear cg0 cg1 cg2 cg3 cg4 cg5 cg6
    clear cp0 cp1 cp2
    clear q0
    replace HO := Bx.mk (HO.out.below hb)
    replace kb := kb.later hb
    replace kr := kr.later hb
    replace kg := kg.later hb
    replace kp := kp.later hb
    replace hSz := Nat.le_trans hSz hb.size
    clear hb
    generalize grow (redrawn W6 dq) osq = W7 at *
    clear kp
    have hx := fillL_at ⟨⟨a, b, c⟩, ⟨d, e, f⟩⟩ F hlt
    obtain ⟨g', cap', he, -, hgl2, hcs, hfr, hst⟩ := HO.out.at (by rw [fillL_length]; exact hpos)
    simp only [Value.slice.injEq, Option.some.injEq, Addr.mk.injEq, and_true] at he
    obtain ⟨rfl, hl2, rfl⟩ := he
    have hcell := hcs k _ hx
    have hfr0 := hfr k
    have hst0 := hst k (F ⟨px, py, pz⟩)
    have hset := fillL_set ⟨⟨a, b, c⟩, ⟨d, e, f⟩⟩ F hlt
    rw [hpt.out] at hset
    rw [hset, ← hl2] at hst0
    replace hst0 := Bx.mk hst0
    clear hcs hfr hst hset hl2 hx
    go_wp2_with fail
    have HI2 : Bx (GrI w #[.int .i64 a, .int .i64 b, .int .i64 c, .int .i64 d, .int .i64 e, .int .i64 f] #[.int .i64 0, .int .i64 0, .int .i64 0, .int .i64 0, .int .i64 0, .int .i64 0, .slice none 0 0] #[.int .i64 a, .int .i64 b, .int .i64 c, .int .i64 d, .int .i64 e, .int .i64 f, .slice (some ⟨g, 0, none⟩) m pc] g gg m pc (fillL ⟨⟨a, b, c⟩, ⟨d, e, f⟩⟩ F m (k + 1)) (W7.setCell ⟨g, k, none⟩ (.int .i64 (F ⟨px, py, pz⟩)))) := ⟨⟨hst0.out, hB.setCell (show w.heap.size ≤ g by omega) _, kb.other _ _ (show w.heap.size ≠ g by omega), kr.other _ _ (show w.heap.size + 1 ≠ g by omega), kg.other _ _ (show gg ≠ g by omega)⟩⟩
    clear hst0 hB kb kr kg hcell hfr0
    go_roundw
    case rel => exact ⟨k + 1, by omega, by go_num, HI2⟩
    case measure => simp [intOf]; omega
  · obtain rfl : k = m := by omega
    have t0 : decide ((k : Int) < (k : Int)) = false := by simp
    have hsl := Bx.mk HO.out.sl
    rw [hfin.out] at hsl
    obtain ⟨cg0, cg1, cg2, cg3, cg4, cg5, cg6⟩ := kg.c7
    obtain ⟨cr0, cr1, cr2, cr3, cr4, cr5, cr6⟩ := kr.c7
    obtain ⟨fr0, fr1, fr2, fr3, fr4, fr5, fr6⟩ := kr.f7
    go_wp2_with fail
    replace kr := kr.put7 (.int .i64 a) (.int .i64 b) (.int .i64 c) (.int .i64 d) (.int .i64 e) (.int .i64 f) (.slice (some ⟨g, 0, none⟩) k pc)
    clear cr0 cr1 cr2 cr3 cr4 cr5 cr6
    obtain ⟨cz0, cz1, cz2, cz3, cz4, cz5, cz6⟩ := kr.c7
    exact bodyPost_ret (v := .tuple #[.agg #[.int .i64 a, .int .i64 b, .int .i64 c, .int .i64 d, .int .i64 e, .int .i64 f, .slice (some ⟨g, 0, none⟩) k pc], .int .i64 0]) (by simp [results, Tryz.results9, go_sem, cz0, cz1, cz2, cz3, cz4, cz5, cz6]) rfl ⟨_, _, rfl, sl_put7 hsl.out (by omega) _ _ _ _ _ _ _, blw7 hB (by omega) _ _ _ _ _ _ _⟩
end Go.Proofs.YtabclecmehdeoaaGreatDoor
end
section
namespace Go.Proofs.YtabclecmehdeoaaGreatDoor
open Oct
def fs (F H : Pt → Int) (pt : Nat → Pt) : Nat → Pt → Int
 | 0 => F
 | i + 1 => Tr.upd (fs F H pt i) (pt i) (H (pt i))
end Go.Proofs.YtabclecmehdeoaaGreatDoor
end
section
namespace Go.Proofs.YtabclecmehdeoaaGreatDoor
open Oct
def AlP (L : Nat) (p : Pt) : Prop := p.x % 2 ^ L = 0 ∧ p.y % 2 ^ L = 0 ∧ p.z % 2 ^ L = 0
theorem corner_eq {m : Nat} {a p : Pt} (ha : Tr.Al m a) (hI : Tr.InC m a p) (hp : AlP (m + 2) p) : p = a := by
 obtain ⟨a1, a2, a3⟩ := ha
 obtain ⟨i1, i2, i3⟩ := hI
 obtain ⟨p1, p2, p3⟩ := hp
 have e1 := Int.mul_ediv_add_emod p.x (2 ^ (m + 2))
 have e2 := Int.mul_ediv_add_emod p.y (2 ^ (m + 2))
 have e3 := Int.mul_ediv_add_emod p.z (2 ^ (m + 2))
 have f1 := Int.mul_ediv_add_emod a.x (2 ^ (m + 2))
 have f2 := Int.mul_ediv_add_emod a.y (2 ^ (m + 2))
 have f3 := Int.mul_ediv_add_emod a.z (2 ^ (m + 2))
 rw [i1, p1] at e1
 rw [i2, p2] at e2
 rw [i3, p3] at e3
 rw [a1] at f1
 rw [a2] at f2
 rw [a3] at f3
 cases p; cases a
 simp only [Pt.mk.injEq] at *
 omega
theorem partT_kid {t : Tr} {m L : Nat} {p : Pt} (hD : Dep (m + 1) t) (hL : L < m + 3) : partT t (m + 1) L p = partT (t.kid (Tr.oct m p)) m L p := by
 cases hD with
 | uni _ c => rw [partT_uni]; exact partT_uni.symm
 | node _ ch hch => rw [partT_node hL]; rfl
theorem partT_can (f : Pt → Int) : ∀ (m L : Nat) (a p : Pt), Tr.Al m a → Tr.InC m a p → 2 ≤ L → L ≤ m + 2 → AlP L p → partT (Tr.can f m a) m L p = Tr.can f (L - 2) p
 | 0, L, a, p, ha, hI, h2, hL, hp => by
   obtain rfl : L = 2 := by omega
   rw [partT_stop (by omega), corner_eq ha hI hp]
 | m + 1, L, a, p, ha, hI, h2, hL, hp => by
   by_cases h : L < m + 3
   · rw [partT_kid (dep_can f (m + 1) a) h]
     have e : (Tr.can f (m + 1) a).kid (Tr.oct m p) = Tr.can f m (Tr.cor a m (Tr.oct m p).val) := Tr.mkInner_kid _ _ _
     rw [e]
     exact partT_can f m L _ p (Tr.al_cor ha _) (Tr.inC_step ha hI) h2 (by omega) hp
   · obtain rfl : L = m + 1 + 2 := by omega
     rw [partT_stop (by omega), corner_eq ha hI hp]
     rfl
def cb (p : Pt) (L : Nat) : Box := ⟨p, ⟨p.x + 2 ^ L, p.y + 2 ^ L, p.z + 2 ^ L⟩⟩
theorem alB_iff {L : Nat} {p : Pt} : alB L p = true ↔ AlP L p := by unfold alB AlP; simp
end Go.Proofs.YtabclecmehdeoaaGreatDoor
end
section
namespace Go.Proofs.YtabclecmehdeoaaGreatDoor
open Go.RowKit Go.Sort Go.Maps
open Oct
theorem side_any (L : Nat) (hL : L ≤ 14) (w : World) :
 Calls Tryz.prog 41 #[.int .i64 (L : Int)] w fun e w' => e = .returned (.int .i64 ((2 : Int) ^ L)) ∧ w = w' := by
 go_enter Tryz.func41, Tryz.ntmps41
 go_wp2_with fail
 go_loop [3, 4] (fun v3 v4 => ∃ k : Nat, k ≤ L ∧ v4 = .int .i64 k ∧ v3 = .int .i64 ((2 : Int) ^ k)) (fun _ i => L - (intOf i).toNat)
 case atStart => exact ⟨0, Nat.zero_le _, rfl, rfl⟩
 case round =>
  obtain ⟨k, hk, rfl, rfl⟩ := hrel
  by_cases hlt : k < L
  · have t0 : decide ((k : Int) < (L : Int)) = true := by simp; omega
    have hp := (pow_le (show k ≤ 14 by omega))
    have hp2 := (pow_le (show k + 1 ≤ 14 by omega))
    have hs : (2 : Int) * 2 ^ k = 2 ^ (k + 1) := by rw [Int.pow_succ]; omega
    have hw : IntKind.i64.wrap ((2 : Int) * 2 ^ k) = 2 ^ (k + 1) := by rw [hs]; exact IntWalk.i64_in _ (by omega)
    generalize hq : (2 : Int) ^ k = q at *
    generalize hr : (2 : Int) ^ (k + 1) = r at *
    go_wp2_with fail
    go_round
    case rel => exact ⟨k + 1, by omega, by go_num, by rw [hr]⟩
    case measure => simp [intOf]; omega
  · obtain rfl : k = L := by omega
    have t0 : decide ((k : Int) < (k : Int)) = false := by simp
    go_wp2_with fail
    go_ret
    exact ⟨rfl, rfl⟩
set_option maxRecDepth 100000 in
theorem cube9_any (px py pz : Int) (L : Nat) (hL : L ≤ 14) (hx : 0 ≤ px ∧ px ≤ 100000) (hy : 0 ≤ py ∧ py ≤ 100000) (hz : 0 ≤ pz ∧ pz ≤ 100000) (w : World) :
 Calls Tryz.prog 40 #[.agg #[.int .i64 px, .int .i64 py, .int .i64 pz], .int .i64 (L : Int)] w fun e w' => e = .returned (.agg #[.int .i64 px, .int .i64 py, .int .i64 pz, .int .i64 (px + 2 ^ L), .int .i64 (py + 2 ^ L), .int .i64 (pz + 2 ^ L)]) ∧ Below w.heap.size w w' := by
 have hsd := fun W => side_any L hL W
 have hp := (pow_le hL)
 generalize hm : (2 : Int) ^ L = m at *
 have hsd := Bx.mk hsd
 have t1 := IntWalk.i64_in (px + m) (by omega)
 have t2 := IntWalk.i64_in (py + m) (by omega)
 have t3 := IntWalk.i64_in (pz + m) (by omega)
 clear hp hx hy hz hm
 go_enter Tryz.func40, Tryz.ntmps40
 go_wp2_with fail
 generalize hW : World.alloc (World.alloc w _) _ = W
 have hSz : w.heap.size + 1 + 1 ≤ W.heap.size := by rw [← hW]; simp
 have hB : Below w.heap.size w W := by rw [← hW]; exact ((Below.refl _ _).alloc (Nat.le_refl _) _).alloc (by simp) _
 have kp : Bk W (w.heap.size) #[.int .i64 px, .int .i64 py, .int .i64 pz] 23 := by rw [← hW]; exact blk_old (blk_new _ _ _ (by simp))
 have kr : Bk W (w.heap.size + 1) #[.int .i64 0, .int .i64 0, .int .i64 0, .int .i64 0, .int .i64 0, .int .i64 0] 25 := by rw [← hW]; exact blk_new _ _ _ (by simp)
 clear hW
 refine (hsd.out _).mono ?_
 rintro _ _ ⟨rfl, rfl⟩
 obtain ⟨cp0, cp1, cp2⟩ := kp.c3
 obtain ⟨cr0, cr1, cr2, cr3, cr4, cr5⟩ := kr.c6
 obtain ⟨fr0, fr1, fr2, fr3, fr4, fr5⟩ := kr.f6
 go_wp2_with fail
 replace kr := kr.put6 (.int .i64 px) (.int .i64 py) (.int .i64 pz) (.int .i64 (px + m)) (.int .i64 (py + m)) (.int .i64 (pz + m))
 clear cr0 cr1 cr2 cr3 cr4 cr5
 obtain ⟨z0, z1, z2, z3, z4, z5⟩ := kr.c6
 exact bodyPost_ret (v := .agg #[.int .i64 px, .int .i64 py, .int .i64 pz, .int .i64 (px + m), .int .i64 (py + m), .int .i64 (pz + m)]) (results_cell_row rfl _ _ (w.heap.size + 1) 25 #[.int .i64 px, .int .i64 py, .int .i64 pz, .int .i64 (px + m), .int .i64 (py + m), .int .i64 (pz + m)] (0, 0) _ rfl kr Tryz.underlying25 rfl (by kernel_rfl)) rfl ⟨rfl, blw6 hB (by omega) _ _ _ _ _ _⟩
end Go.Proofs.YtabclecmehdeoaaGreatDoor
end
section
namespace Go.Proofs.YtabclecmehdeoaaGreatDoor
namespace Oct
namespace Tr
def pos (ch : Fin 8 → Tr) (k : Nat) : Nat := 2 + ((List.ofFn fun i => enc (ch i)).take k).flatten.length
theorem pos_zero (ch : Fin 8 → Tr) : pos ch 0 = 2 := by simp [pos]
theorem pos_succ (ch : Fin 8 → Tr) {k : Nat} (hk : k < 8) : pos ch (k + 1) = pos ch k + (enc (ch ⟨k, hk⟩)).length := by
 unfold pos
 rw [List.take_succ_eq_append_getElem (by rw [List.length_ofFn]; exact hk), List.flatten_append, List.length_append, List.getElem_ofFn, List.flatten_cons, List.flatten_nil, List.append_nil]
 omega
theorem pos_all (d : Nat) (ch : Fin 8 → Tr) : pos ch 8 = (enc (.node d ch)).length := by
 unfold pos
 rw [List.take_of_length_le (by simp), enc]
 simp only [List.length_cons]
 omega
theorem enc_node (d : Nat) (ch : Fin 8 → Tr) : enc (.node d ch) = 110 :: (d : Int) :: (List.ofFn fun i => enc (ch i)).flatten := by rw [enc]
theorem drop_pos (d : Nat) (ch : Fin 8 → Tr) (r : List Int) {k : Nat} (hk : k < 8) :
 (enc (.node d ch) ++ r).drop (pos ch k) = enc (ch ⟨k, hk⟩) ++ (((List.ofFn fun i => enc (ch i)).drop (k + 1)).flatten ++ r) := by
 rw [enc_node]
 unfold pos
 generalize hL : (List.ofFn fun i => enc (ch i)) = L
 have hl : k < L.length := by rw [← hL, List.length_ofFn]; exact hk
 have hg : L[k] = enc (ch ⟨k, hk⟩) := by subst hL; rw [List.getElem_ofFn]
 rw [Nat.add_comm, List.cons_append, List.cons_append, List.drop_succ_cons, List.drop_succ_cons]
 conv => lhs; rw [← List.take_append_drop k L, List.flatten_append, List.append_assoc]
 rw [List.drop_append_of_le_length (by rw [List.take_append_drop]; exact Nat.le_refl _)]
 rw [List.take_append_drop]
 rw [List.drop_length, List.nil_append, List.drop_eq_getElem_cons hl, List.flatten_cons, hg, List.append_assoc]
theorem pos_le (d : Nat) (ch : Fin 8 → Tr) {k : Nat} (hk : k ≤ 8) : pos ch k ≤ (enc (.node d ch)).length := by
 rw [← pos_all d ch]
 unfold pos
 have : ∀ m, k ≤ m → ((List.ofFn fun i => enc (ch i)).take k).flatten.length ≤ ((List.ofFn fun i => enc (ch i)).take m).flatten.length := by
  intro m hm
  obtain ⟨j, rfl⟩ : ∃ j, m = k + j := ⟨m - k, by omega⟩
  rw [List.take_add, List.flatten_append, List.length_append]; omega
 have := this 8 hk
 omega
theorem enc_byt : ∀ t : Tr, WF t → ∀ x ∈ enc t, 0 ≤ x ∧ x ≤ 255 := by
 intro t
 induction t with
 | uni c => intro h x hx; rw [enc] at hx; simp at hx; have h : 0 ≤ c ∧ c ≤ 255 := h; rcases hx with rfl | rfl <;> omega
 | brick l => intro h x hx; rw [enc] at hx; have h : l.length = 64 ∧ ∀ x ∈ l, 0 ≤ x ∧ x ≤ 255 := h; rcases List.mem_cons.1 hx with rfl | hx
              · omega
              · exact h.2 x hx
 | node d ch ih =>
   intro h x hx
   have h : d ≤ 255 ∧ ∀ i, WF (ch i) := h
   rw [enc_node] at hx
   rcases List.mem_cons.1 hx with rfl | hx
   · omega
   · rcases List.mem_cons.1 hx with rfl | hx
     · omega
     · obtain ⟨l, hl, hx⟩ := List.mem_flatten.1 hx
       obtain ⟨i, rfl⟩ := List.mem_ofFn.1 hl
       exact ih i (h.2 i) x hx
def small : Nat → Tr → Prop
 | _, .uni _ => True
 | _, .brick _ => True
 | 0, .node _ _ => False
 | n + 1, .node _ ch => ∀ i, small n (ch i)
theorem enc_small : ∀ (n : Nat) (t : Tr), WF t → small n t → (enc t).length ≤ 73 * 8 ^ n - 8 := by
 intro n
 induction n with
 | zero =>
   intro t h hs
   cases t with
   | uni c => simp [enc]
   | brick l => have h : l.length = 64 ∧ ∀ x ∈ l, 0 ≤ x ∧ x ≤ 255 := h; simp [enc, h.1]
   | node d ch => exact absurd hs (by simp [small])
 | succ n ih =>
   intro t h hs
   have hp : 1 ≤ 8 ^ n := Nat.pow_pos (by decide)
   cases t with
   | uni c => rw [Nat.pow_succ]; simp [enc]; omega
   | brick l => have h : l.length = 64 ∧ ∀ x ∈ l, 0 ≤ x ∧ x ≤ 255 := h; rw [Nat.pow_succ]; simp [enc, h.1]; omega
   | node d ch =>
     have h : d ≤ 255 ∧ ∀ i, WF (ch i) := h
     have hk : ∀ i, (enc (ch i)).length ≤ 73 * 8 ^ n - 8 := fun i => ih (ch i) (h.2 i) (hs i)
     have key : ∀ k, k ≤ 8 → pos ch k ≤ 2 + k * (73 * 8 ^ n - 8) := by
      intro k
      induction k with
      | zero => intro _; rw [pos_zero]; omega
      | succ k ihk =>
        intro hk8
        rw [pos_succ ch (by omega), Nat.succ_mul]
        have h1 := ihk (by omega)
        have h2 := hk ⟨k, by omega⟩
        omega
     have := key 8 (Nat.le_refl _)
     rw [pos_all d ch] at this
     rw [Nat.pow_succ]
     omega
end Tr
end Oct
end Go.Proofs.YtabclecmehdeoaaGreatDoor
end
section
namespace Go.Proofs.YtabclecmehdeoaaGreatDoor
open Go.RowKit
def Slv (w : World) (a : Option Addr) (vs : List Value) : Prop := ∀ i v, vs[i]? = some v → ∃ b off, a = some ⟨b, off, none⟩ ∧ w.cell? ⟨b, off + i, none⟩ = some v
theorem Slv.nil (w : World) (a : Option Addr) : Slv w a [] := fun i x h => by simp at h
theorem Slv.below {w w' : World} {a : Option Addr} {vs : List Value} (h : Slv w a vs) (hb : Below w.heap.size w w') : Slv w' a vs := by
 intro i x hx
 obtain ⟨b, off, rfl, hc⟩ := h i x hx
 exact ⟨b, off, rfl, cell_later hb hc⟩
def Ownv (w : World) (B : Nat) (e : TypeId) (v : Value) (vs : List Value) : Prop := w.ownsRow B e 1 v vs.length vs
theorem Ownv.nil (w : World) (B : Nat) (e : TypeId) : Ownv w B e (.slice none 0 0) [] := World.ownsRow_nil w B e 1
theorem Ownv.form {w : World} {B : Nat} {e : TypeId} {v : Value} {vs : List Value} (h : Ownv w B e v vs) : ∃ a cap, v = .slice a vs.length cap ∧ Slv w a vs := by
 rcases h.2 with ⟨rfl, hn⟩ | ⟨g, cap, cur, rfl, hb, hg, hnc, hcm, hcs, ht⟩
 · have hx : vs = [] := List.eq_nil_of_length_eq_zero hn
   subst hx
   exact ⟨none, 0, rfl, Slv.nil _ _⟩
 · refine ⟨_, cap, rfl, fun i x hx => ⟨g, 0, rfl, ?_⟩⟩
   have hi : i < vs.length := (List.getElem?_eq_some_iff.1 hx).1
   have hcell : w.cell? ⟨g, i, none⟩ = cur[i]? := by simp [World.cell?, hg]
   rw [Nat.zero_add, hcell]
   rw [← ht, List.getElem?_take, if_pos (by omega)] at hx
   simpa using hx
theorem Ownv.form1 {w : World} {B : Nat} {e : TypeId} {v : Value} {vs : List Value} (h : Ownv w B e v vs) (hn : 0 < vs.length) : ∃ g cap, v = .slice (some ⟨g, 0, none⟩) vs.length cap ∧ Slv w (some ⟨g, 0, none⟩) vs ∧ B ≤ g ∧ g < w.heap.size := by
 obtain ⟨a, cap, he, hs⟩ := h.form
 rcases h.2 with ⟨_, hz⟩ | ⟨g, cap', cur, hv, hb, hg, _⟩
 · omega
 · rw [hv] at he
   injection he with h1 h2 h3
   exact ⟨g, cap', hv, by rw [h1]; exact hs, hb, (Array.getElem?_eq_some_iff.1 hg).1⟩
theorem Slv.grown {w w' : World} {g off : Nat} {vs : List Value} {row : Option Nat} (h : Slv w (some ⟨g, off, none⟩) vs) (hg : w.grownBy w' row) (hne : row ≠ some g) : Slv w' (some ⟨g, off, none⟩) vs := by
 intro i x hx
 obtain ⟨b, o, he, hc⟩ := h i x hx
 simp only [Option.some.injEq, Addr.mk.injEq, and_true] at he
 obtain ⟨rfl, rfl⟩ := he
 refine ⟨_, _, rfl, ?_⟩
 have hlt := World.block_lt_of_cell? w _ hc
 rw [World.cell?_of_block (hg.block _ hlt (fun e => hne e.symm))]; exact hc
theorem Ownv.sl {w : World} {B : Nat} {e : TypeId} {a : Option Addr} {n c : Nat} {vs : List Value} (h : Ownv w B e (.slice a n c) vs) : Slv w a vs := by
 obtain ⟨a', c', he, hs⟩ := h.form
 injection he with h1 h2 h3
 subst h1; exact hs
theorem Ownv.lt {w : World} {B : Nat} {e : TypeId} {v : Value} {vs : List Value} (h : Ownv w B e v vs) : ∀ g, v.ownBlock = some g → B ≤ g ∧ g < w.heap.size := World.ownsRow.lt h
theorem Ownv.below {w w' : World} {B : Nat} {e : TypeId} {v : Value} {vs : List Value} (h : Ownv w B e v vs) (hb : Below w.heap.size w w') : Ownv w' B e v vs :=
 World.ownsRow.kept (row := none) h ⟨hb.os, hb.tape, hb.output, hb.size, fun i hi _ => hb.block i hi⟩ (by cases v.ownBlock <;> simp)
theorem Ownv.alloc {w : World} {B : Nat} {e : TypeId} {v : Value} {vs : List Value} (h : Ownv w B e v vs) (o : Obj) : Ownv (w.alloc o) B e v vs := World.ownsRow.alloc h o
theorem Ownv.base {w : World} {B B' : Nat} {e : TypeId} {v : Value} {vs : List Value} (h : Ownv w B e v vs) (hB : B' ≤ B) : Ownv w B' e v vs := by
 refine ⟨h.1, h.2.imp id ?_⟩
 rintro ⟨g, cap, cur, h1, h2, h3⟩
 exact ⟨g, cap, cur, h1, Nat.le_trans hB h2, h3⟩
theorem Ownv.grown {w w' : World} {B : Nat} {e : TypeId} {v : Value} {vs : List Value} (h : Ownv w B e v vs) {row : Option Nat} (hg : w.grownBy w' row) (hne : v.ownBlock = none ∨ v.ownBlock ≠ row) : Ownv w' B e v vs := World.ownsRow.kept h hg hne
theorem wpList_append_val {P : Program} {w : World} {ops : Array Oper} {rest : List Oper} {o : Oper} {a : Act} {Q : Exit → Act → World → Prop} (hgd : o.guard = none) (s x : Operand) (t : TypeId)
 (ho : o.op = .call { callee := .builtin .append, args := #[s, x], argTypes := #[t, t] })
 (e : TypeId) (z : Value) (bytes : Nat) (hbz : bytes ≤ 24) (ht : P.underlying t = some (.slice e))
 (hi : (P.info? e).map (fun i => (i.zero, i.size, i.bytes)) = some (some z, 1, bytes)) (hzs : z.cells.size = 1)
 (B : Nat) (v : Value) (vs : List Value) (hs : a.eval s = v) (hown : Ownv w B e v vs) (u : Value) (hu1 : u.oneCell' = true)
 (ad : Addr) (c : Nat) (hx : a.eval x = .slice (some ad) 1 c) (hcell : w.cell? ad = some u) (hlen : vs.length ≤ 1000000000) (hbase : B ≤ w.heap.size)
 (h : ∀ v' w', Ownv w' B e v' (vs ++ [u]) → w.grownBy w' v.ownBlock → (v'.ownBlock = v.ownBlock ∨ v'.ownBlock = some w.heap.size) → wpList P ops Q rest (a.put o.dst v') w') :
 wpList P ops Q (o :: rest) a w := by
 obtain ⟨i0, hi0, hz0, hz1, hz2⟩ := info_parts hi
 refine wpList_plain hgd fun K hK => ?_
 have hnews : ∀ j u', [u][j]? = some u' → w.cell? (ad.add j) = some u' := by
  intro j u' hu
  match j with
  | 0 => simp at hu; subst hu; simpa [Addr.add] using hcell
  | j + 1 => simp at hu
 obtain ⟨v', w', hr, h2, h3, _, h4⟩ := run_append_own_at (P := P) w B t o.type e i0 z 1 bytes ht hi0 hz0 hz1 hz2 hzs (by omega) v vs.length _ hown ad 1 c [u] rfl hnews (by simpa using hu1)
  (by simp only [maxLen]; omega) (by have : (vs.length + 1) * bytes ≤ (vs.length + 1) * 24 := Nat.mul_le_mul_left _ hbz; omega) hbase
 unfold Oper.wp execOp
 simp only [ho, resolve, invoke, builtin, Sem.run_bind, Sem.run_pure, Result.andThen_ok, List.map_toArray, List.map_cons, List.map_nil, hs, hx, hr]
 exact hK _ _ (h v' w' (by unfold Ownv; simpa using h2) h3 h4)
def strs (ls : List (List Int)) : List Value := ls.map fun l => .string (strOfNums l)
theorem strs_length (ls : List (List Int)) : (strs ls).length = ls.length := by unfold strs; rw [List.length_map]
theorem strs_at {ls : List (List Int)} {i : Nat} {l : List Int} (h : ls[i]? = some l) : (strs ls)[i]? = some (.string (strOfNums l)) := by unfold strs; rw [List.getElem?_map, h]; rfl
theorem strs_snoc (ls : List (List Int)) (l : List Int) : strs (ls ++ [l]) = strs ls ++ [.string (strOfNums l)] := by unfold strs; rw [List.map_append]; rfl
def RowKeeps (w w' : World) (v : Value) (n : Nat) : Prop := ∀ g, v.ownBlock = some g → ∀ cur e, w.heap[g]? = some (.cells cur e (0, 0)) → ∃ cur', w'.heap[g]? = some (.cells cur' e (0, 0)) ∧ cur'.size = cur.size ∧ cur'.toList.take n = cur.toList.take n
structure Added (w w' : World) (v v' : Value) (n : Nat) : Prop where
 grown : w.grownBy w' v.ownBlock
 keeps : RowKeeps w w' v n
 where_ : v'.ownBlock = v.ownBlock ∨ ∀ g, v'.ownBlock = some g → w.heap.size ≤ g
theorem Added.refl (w : World) (v : Value) (n : Nat) : Added w w v v n := ⟨⟨rfl, rfl, rfl, Nat.le_refl _, fun _ _ _ => rfl⟩, fun _ _ cur _e h => ⟨cur, h, rfl, rfl⟩, .inl rfl⟩
theorem Added.below {w w1 w' : World} {v v' : Value} {n : Nat} (h : Added w w1 v v' n) (hb : Below w1.heap.size w1 w') : Added w w' v v' n := by
 refine ⟨⟨hb.os.trans h.grown.os, hb.tape.trans h.grown.tape, hb.output.trans h.grown.output, Nat.le_trans h.grown.size hb.size, fun k hk hne => (hb.block k (Nat.lt_of_lt_of_le hk h.grown.size)).trans (h.grown.block k hk hne)⟩, fun g hg cur e hc => ?_, h.where_⟩
 obtain ⟨cur', h1, h2, h3⟩ := h.keeps g hg cur e hc
 exact ⟨cur', (hb.block g (Array.getElem?_eq_some_iff.1 h1).1).trans h1, h2, h3⟩
theorem Added.after {w w1 w' : World} {v v' : Value} {n : Nat} (hb : Below w.heap.size w w1) (h : Added w1 w' v v' n) (hv : ∀ g, v.ownBlock = some g → g < w.heap.size) : Added w w' v v' n := by
 refine ⟨⟨h.grown.os.trans hb.os, h.grown.tape.trans hb.tape, h.grown.output.trans hb.output, Nat.le_trans hb.size h.grown.size, fun k hk hne => (h.grown.block k (Nat.lt_of_lt_of_le hk hb.size) hne).trans (hb.block k hk)⟩, fun g hg cur e hc => ?_, ?_⟩
 · exact h.keeps g hg cur e ((hb.block g (hv g hg)).trans hc)
 · rcases h.where_ with h1 | h1
   · exact .inl h1
   · exact .inr fun g hg => Nat.le_trans hb.size (h1 g hg)
theorem Added.trans {w w1 w' : World} {v v1 v' : Value} {n m : Nat} (h : Added w w1 v v1 n) (h' : Added w1 w' v1 v' m) (hnm : n ≤ m) (hlt : ∀ g, v.ownBlock = some g → g < w.heap.size) : Added w w' v v' n := by
 have hne : ∀ k, k < w.heap.size → some k ≠ v.ownBlock → some k ≠ v1.ownBlock := fun k hk hne e => by
  rcases h.where_ with h1 | h1
  · exact hne (by rw [← h1]; exact e)
  · have := h1 k e.symm; omega
 refine ⟨⟨h'.grown.os.trans h.grown.os, h'.grown.tape.trans h.grown.tape, h'.grown.output.trans h.grown.output, Nat.le_trans h.grown.size h'.grown.size, fun k hk hn => (h'.grown.block k (Nat.lt_of_lt_of_le hk h.grown.size) (hne k hk hn)).trans (h.grown.block k hk hn)⟩, fun g hg cur e hc => ?_, ?_⟩
 · obtain ⟨cur1, h1, h2, h3⟩ := h.keeps g hg cur e hc
   rcases h.where_ with he | he
   · obtain ⟨cur', h4, h5, h6⟩ := h'.keeps g (by rw [he]; exact hg) cur1 e h1
     refine ⟨cur', h4, h5.trans h2, ?_⟩
     have : cur'.toList.take n = cur1.toList.take n := by
      have h7 := congrArg (List.take n) h6
      rwa [List.take_take, List.take_take, Nat.min_eq_left hnm] at h7
     exact this.trans h3
   · refine ⟨cur1, (h'.grown.block g (Array.getElem?_eq_some_iff.1 h1).1 fun e1 => ?_).trans h1, h2, h3⟩
     have := he g e1.symm
     have := hlt g hg
     omega
 · rcases h'.where_ with he | he
   · rw [he]; exact h.where_
   · exact .inr fun g hg => Nat.le_trans h.grown.size (he g hg)
theorem Ownv.keep {w w' : World} {v v' u : Value} {n B : Nat} {e : TypeId} {vs : List Value} (h : Added w w' v v' n) (hu : Ownv w B e u vs) (hn : vs.length ≤ n) : Ownv w' B e u vs := by
 by_cases hs : u.ownBlock = v.ownBlock
 · refine ⟨hu.1, ?_⟩
   rcases hu.2 with h1 | ⟨g, cap, cur, rfl, hb, hg, hnc, hcm, hcs, ht⟩
   · exact .inl h1
   · obtain ⟨cur', h1, h2, h3⟩ := h.keeps g (by rw [← hs]; rfl) cur e hg
     refine .inr ⟨g, cap, cur', rfl, hb, h1, hnc, hcm, h2.trans hcs, ?_⟩
     rw [Nat.mul_one] at ht ⊢
     have h7 := congrArg (List.take vs.length) h3
     rw [List.take_take, List.take_take, Nat.min_eq_left hn] at h7
     exact h7.trans ht
 · exact Ownv.grown hu h.grown (.inr hs)
end Go.Proofs.YtabclecmehdeoaaGreatDoor
end
