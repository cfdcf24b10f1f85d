/- Ans, Ant: joined by program, for one claim. -/
import Derived.Test.YtabclecmehdeoaaGreatDoorMr
import Derived.Test.YtabclecmehdeoaaGreatDoorM30
import Derived.Test.YtabclecmehdeoaaGreatDoorM44
import Derived.Test.YtabclecmehdeoaaGreatDoorM47
section
namespace Go.Proofs.YtabclecmehdeoaaGreatDoor
open Go.RowKit Go.Sort Go.Maps
open Oct
theorem eql_dig (xs : List Int) (hl : xs.length = 16) (w : World) : (binOp .eql 49 (.agg (xs.map (Value.int .u8)).toArray) (.agg (xs.map (Value.int .u8)).toArray)).run Tryz.prog w = .ok (.bool true) w := by
 obtain ⟨i, hi⟩ : ∃ i, Tryz.prog.info? 5 = some i := Option.isSome_iff_exists.1 (by kernel_rfl)
 have hc : Tryz.prog.cellsOf 5 = 1 := by kernel_rfl
 match xs, hl with
 | [x0, x1, x2, x3, x4, x5, x6, x7, x8, x9, x10, x11, x12, x13, x14, x15], _ =>
   simp only [List.map_cons, List.map_nil]
   rw [run_eql_struct, run_equalIn_array (n := 16) w 9999 _ _ Tryz.underlying49 hi, hc]
   rw [show List.range 16 = [0, 1, 2, 3, 4, 5, 6, 7, 8, 9, 10, 11, 12, 13, 14, 15] by decide]
   simp only [Op.eqItems]
   go_simp
def VolPost (Q : Prop) (w : World) (e : Ending) (w' : World) : Prop := ∃ v : Int, (v ≤ 300 → Q) ∧ e = .returned (.int .i64 v) ∧ Below w.heap.size w w'
def GrPost (g0 g1 g2 g3 g4 g5 er : Int) (n : Nat) (us : List Int) (w : World) (e : Ending) (w' : World) : Prop := ∃ pa pc, e = .returned (.tuple #[.agg #[.int .i64 g0, .int .i64 g1, .int .i64 g2, .int .i64 g3, .int .i64 g4, .int .i64 g5, .slice pa n pc], .int .i64 er]) ∧ Sl w' .i64 pa us ∧ Below w.heap.size w w'
structure AnI (w : World) (gv pv bv : Array Value) (wr : World) : Prop where
 kg : Bk wr w.heap.size gv 28
 kp : Bk wr (w.heap.size + 1) pv 23
 kb : Bk wr (w.heap.size + 2) bv 25
 bel : Below w.heap.size w wr
theorem AnI.later {w wr w' : World} {gv pv bv : Array Value} (h : AnI w gv pv bv wr) (hb : Below wr.heap.size wr w') : AnI w gv pv bv w' := ⟨h.kg.later hb, h.kp.later hb, h.kb.later hb, h.bel.trans (hb.mono h.bel.size)⟩
theorem AnI.start (w : World) (gv pv bv : Array Value) : AnI w gv pv bv (((w.alloc (.cells gv 28)).alloc (.cells pv 23)).alloc (.cells bv 25)) :=
 ⟨blk_old (blk_old (blk_new _ _ _ (by simp))), blk_old (blk_new _ _ _ (by simp)), blk_new _ _ _ (by simp), (((Below.refl _ _).alloc (Nat.le_refl _) _).alloc (by simp) _).alloc (by simp; omega) _⟩
set_option maxRecDepth 100000 in
set_option maxHeartbeats 4000000 in
theorem answers_many (a b c d e f dd px py pz b0 b1 b2 b3 b4 b5 lv : Int) (ha : Option Addr) (hcp : Nat) (xs : List Int) (w : World) (hl : ¬ xs.length ≤ 300) :
 Calls Tryz.prog 3 #[.agg #[.int .i64 a, .int .i64 b, .int .i64 c, .int .i64 d, .int .i64 e, .int .i64 f, .slice ha xs.length hcp], .int .i64 dd, .agg #[.int .i64 px, .int .i64 py, .int .i64 pz], .agg #[.int .i64 b0, .int .i64 b1, .int .i64 b2, .int .i64 b3, .int .i64 b4, .int .i64 b5], .int .i64 lv] w fun e' w' => e' = .returned (.bool true) ∧ Below w.heap.size w w' := by
 go_enter Tryz.func3, Tryz.ntmps3
 go_upto_region 1 with fail
 generalize hW : World.alloc (World.alloc (World.alloc w _) _) _ = W
 have HI : Bx (AnI w #[.int .i64 a, .int .i64 b, .int .i64 c, .int .i64 d, .int .i64 e, .int .i64 f, .slice ha xs.length hcp] #[.int .i64 px, .int .i64 py, .int .i64 pz] #[.int .i64 b0, .int .i64 b1, .int .i64 b2, .int .i64 b3, .int .i64 b4, .int .i64 b5] W) := by rw [← hW]; exact ⟨AnI.start _ _ _ _⟩
 clear hW
 go_wp2_with fail
 refine (sanity_true _).mono ?_
 rintro _ w1 ⟨rfl, hb⟩
 replace HI := Bx.mk (HI.out.later hb)
 clear hb
 obtain ⟨cg0, cg1, cg2, cg3, cg4, cg5, cg6⟩ := HI.out.kg.c7
 go_wp2_with fail
 refine (few_no a b c d e f ha xs.length hcp hl _).mono ?_
 rintro _ w2 ⟨rfl, hb⟩
 replace HI := Bx.mk (HI.out.later hb)
 clear hb
 clear cg0 cg1 cg2 cg3 cg4 cg5 cg6
 go_wp2_with fail
 go_ret
 exact ⟨rfl, HI.out.bel⟩
set_option maxRecDepth 100000 in
set_option maxHeartbeats 4000000 in
theorem answers_none (a b c d e f dd px py pz b0 b1 b2 b3 b4 b5 lv : Int) (ha : Option Addr) (hcp : Nat) (xs : List Int) (w : World) (hl : xs.length ≤ 300) (hsl : Sl w .i64 ha xs) (Q : Prop) (hV : ∀ W, Calls Tryz.prog 6 #[.agg #[.int .i64 b0, .int .i64 b1, .int .i64 b2, .int .i64 b3, .int .i64 b4, .int .i64 b5]] W (VolPost Q W)) (hE : fromE ⟨⟨a, b, c⟩, ⟨d, e, f⟩⟩ xs dd ≠ 0) :
 Calls Tryz.prog 3 #[.agg #[.int .i64 a, .int .i64 b, .int .i64 c, .int .i64 d, .int .i64 e, .int .i64 f, .slice ha xs.length hcp], .int .i64 dd, .agg #[.int .i64 px, .int .i64 py, .int .i64 pz], .agg #[.int .i64 b0, .int .i64 b1, .int .i64 b2, .int .i64 b3, .int .i64 b4, .int .i64 b5], .int .i64 lv] w fun e' w' => e' = .returned (.bool true) ∧ Below w.heap.size w w' := by
 replace hV := Bx.mk hV
 have hbu := Bx.mk fun W (h : Sl W .i64 ha xs) => built_no a b c d e f dd ha hcp xs hl hE W h
 have hfr := Bx.mk fun W (h : Sl W .i64 ha xs) => ref9_from_no a b c d e f ha hcp xs hl dd hE W h
 have hsl := Bx.mk hsl
 have te : (fromE ⟨⟨a, b, c⟩, ⟨d, e, f⟩⟩ xs dd == 0) = false := by simpa using hE
 generalize fromE ⟨⟨a, b, c⟩, ⟨d, e, f⟩⟩ xs dd = er at *
 clear hE
 go_enter Tryz.func3, Tryz.ntmps3
 go_upto_region 1 with fail
 generalize hW : World.alloc (World.alloc (World.alloc w _) _) _ = W
 have HI : Bx (AnI w #[.int .i64 a, .int .i64 b, .int .i64 c, .int .i64 d, .int .i64 e, .int .i64 f, .slice ha xs.length hcp] #[.int .i64 px, .int .i64 py, .int .i64 pz] #[.int .i64 b0, .int .i64 b1, .int .i64 b2, .int .i64 b3, .int .i64 b4, .int .i64 b5] W) := by rw [← hW]; exact ⟨AnI.start _ _ _ _⟩
 clear hW
 go_wp2_with fail
 refine (sanity_true _).mono ?_
 rintro _ w1 ⟨rfl, hb⟩
 replace HI := Bx.mk (HI.out.later hb)
 clear hb
 obtain ⟨cg0, cg1, cg2, cg3, cg4, cg5, cg6⟩ := HI.out.kg.c7
 go_wp2_with fail
 refine (few_yes a b c d e f ha xs.length hcp hl _).mono ?_
 rintro _ w2 ⟨rfl, hb⟩
 replace HI := Bx.mk (HI.out.later hb)
 clear hb
 clear cg0 cg1 cg2 cg3 cg4 cg5 cg6
 obtain ⟨cb0, cb1, cb2, cb3, cb4, cb5⟩ := HI.out.kb.c6
 go_wp2_with fail
 refine (hV.out _).mono ?_
 rintro _ w3 ⟨v, hQ, rfl, hb⟩
 replace HI := Bx.mk (HI.out.later hb)
 clear hb hV
 clear cb0 cb1 cb2 cb3 cb4 cb5
 by_cases hv : 300 < v
 · have t0 : decide (300 < v) = true := by simpa using hv
   clear hv hQ
   go_wp2_with fail
   go_ret
   exact ⟨rfl, HI.out.bel⟩
 have t0 : decide (300 < v) = false := by simpa using hv
 replace hQ := hQ (by omega)
 clear hv
 obtain ⟨cg0, cg1, cg2, cg3, cg4, cg5, cg6⟩ := HI.out.kg.c7
 go_wp2_with fail
 refine (hbu.out _ (hsl.out.below HI.out.bel)).mono ?_
 rintro _ w4 ⟨p, rfl, hb⟩
 replace HI := Bx.mk (HI.out.later hb)
 clear hb hbu
 clear cg0 cg1 cg2 cg3 cg4 cg5 cg6
 obtain ⟨cg0, cg1, cg2, cg3, cg4, cg5, cg6⟩ := HI.out.kg.c7
 go_wp2_with fail
 refine (hfr.out _ (hsl.out.below HI.out.bel)).mono ?_
 rintro _ w5 ⟨rfl, hb⟩
 replace HI := Bx.mk (HI.out.later hb)
 clear hb hfr
 clear cg0 cg1 cg2 cg3 cg4 cg5 cg6
 go_wp2_with fail
 go_ret
 exact ⟨rfl, HI.out.bel⟩
set_option maxRecDepth 100000 in
set_option maxHeartbeats 4000000 in
theorem answers_ok (kc : List Int) (a b c d e f dd px py pz b0 b1 b2 b3 b4 b5 lv : Int) (ha : Option Addr) (hcp : Nat) (xs : List Int) (w : World) (hK : Krow w 0 kc ∧ Krow w 1 kc) (hl : xs.length ≤ 300) (hsl : Sl w .i64 ha xs) (Q : Prop) (hV : ∀ W, Calls Tryz.prog 6 #[.agg #[.int .i64 b0, .int .i64 b1, .int .i64 b2, .int .i64 b3, .int .i64 b4, .int .i64 b5]] W (VolPost Q W)) (S R : ByteArray) (i0 q jj r er g0 g1 g2 g3 g4 g5 : Int) (ts : List Tr) (us D : List Int) (n : Nat)
 (hT : ∀ W, Sl W .i64 ha xs → Calls Tryz.prog 7 #[.agg #[.int .i64 a, .int .i64 b, .int .i64 c, .int .i64 d, .int .i64 e, .int .i64 f, .slice ha xs.length hcp], .int .i64 dd] W fun e' w' => ∃ sb, e' = .returned (.tuple #[.pointer (some ⟨sb, 0, none⟩), .int .i64 i0, .bool true]) ∧ StoreIs w' (fun k => k < W.heap.size) sb 100000 ts ∧ Below W.heap.size W w')
 (hF : ∀ W, Sl W .i64 ha xs → Calls Tryz.prog 8 #[.agg #[.int .i64 a, .int .i64 b, .int .i64 c, .int .i64 d, .int .i64 e, .int .i64 f, .slice ha xs.length hcp], .int .i64 dd] W fun e' w' => e' = .returned (.tuple #[.string S, .int .i64 0]) ∧ Below W.heap.size W w')
 (hGp : Q → ∀ W Far sb, StoreIs W Far sb 100000 ts → Calls Tryz.prog 9 #[.pointer (some ⟨sb, 0, none⟩), .int .i64 i0, .int .i64 dd, .agg #[.int .i64 b0, .int .i64 b1, .int .i64 b2, .int .i64 b3, .int .i64 b4, .int .i64 b5]] W (GrPost g0 g1 g2 g3 g4 g5 er n us W))
 (hGr : Q → ∀ W, Calls Tryz.prog 10 #[.string S, .int .i64 dd, .agg #[.int .i64 b0, .int .i64 b1, .int .i64 b2, .int .i64 b3, .int .i64 b4, .int .i64 b5]] W (GrPost g0 g1 g2 g3 g4 g5 er n us W))
 (hQe : Q → ∀ W pa qa pc qc, Sl W .i64 pa us → Sl W .i64 qa us → Calls Tryz.prog 11 #[.agg #[.int .i64 g0, .int .i64 g1, .int .i64 g2, .int .i64 g3, .int .i64 g4, .int .i64 g5, .slice pa n pc], .agg #[.int .i64 g0, .int .i64 g1, .int .i64 g2, .int .i64 g3, .int .i64 g4, .int .i64 g5, .slice qa n qc]] W fun e' w' => e' = .returned (.bool true) ∧ Below W.heap.size W w')
 (hPp : ∀ W Far sb, StoreIs W Far sb 100000 ts → Calls Tryz.prog 12 #[.pointer (some ⟨sb, 0, none⟩), .int .i64 i0, .int .i64 dd, .agg #[.int .i64 px, .int .i64 py, .int .i64 pz], .int .i64 lv] W fun e w' => e = ret2 q jj ∧ Below W.heap.size W w')
 (hPr : ∀ W, Calls Tryz.prog 13 #[.string S, .int .i64 dd, .agg #[.int .i64 px, .int .i64 py, .int .i64 pz], .int .i64 lv] W fun e w' => e = .returned (.tuple #[.string R, .int .i64 jj]) ∧ Below W.heap.size W w')
 (hGet : ∀ W Far sb, StoreIs W Far sb 100000 ts → Calls Tryz.prog 15 #[.pointer (some ⟨sb, 0, none⟩), .int .i64 i0, .int .i64 dd, .agg #[.int .i64 px, .int .i64 py, .int .i64 pz]] W fun e w' => e = .returned (.int .i64 r) ∧ Below W.heap.size W w')
 (hGer : ∀ W, Calls Tryz.prog 16 #[.string S, .int .i64 dd, .agg #[.int .i64 px, .int .i64 py, .int .i64 pz]] W fun e w' => e = .returned (.int .i64 r) ∧ Below W.heap.size W w')
 (hD : D.length = 16) (hDp : ∀ W Far sb, Krow W 0 kc → StoreIs W Far sb 100000 ts → Calls Tryz.prog 17 #[.pointer (some ⟨sb, 0, none⟩), .int .i64 i0] W (DigPost W D))
 (hDr : ∀ W, Krow W 1 kc → Calls Tryz.prog 18 #[.string S] W (DigPost W D))
 (hj : jj = 0) (hDs : ∀ W Far sb, StoreIs W Far sb 100000 ts → Calls Tryz.prog 14 #[.pointer (some ⟨sb, 0, none⟩), .int .i64 q, .string R] W fun e w' => e = .returned (.bool true) ∧ Below W.heap.size W w') :
 Calls Tryz.prog 3 #[.agg #[.int .i64 a, .int .i64 b, .int .i64 c, .int .i64 d, .int .i64 e, .int .i64 f, .slice ha xs.length hcp], .int .i64 dd, .agg #[.int .i64 px, .int .i64 py, .int .i64 pz], .agg #[.int .i64 b0, .int .i64 b1, .int .i64 b2, .int .i64 b3, .int .i64 b4, .int .i64 b5], .int .i64 lv] w fun e' w' => e' = .returned (.bool true) ∧ Below w.heap.size w w' := by
 replace hV := Bx.mk hV
 replace hsl := Bx.mk hsl
 have hK := Bx.mk hK
 have hT := Bx.mk hT
 have hF := Bx.mk hF
 have hGp := Bx.mk hGp
 have hGr := Bx.mk hGr
 have hQe := Bx.mk hQe
 have hPp := Bx.mk hPp
 have hPr := Bx.mk hPr
 have hGet := Bx.mk hGet
 have hGer := Bx.mk hGer
 have hDp := Bx.mk fun W Far sb (h1 : Krow W 0 kc) (h2 : StoreIs W Far sb 100000 ts) => (hDp W Far sb h1 h2).mono (R' := fun e w' => e = .returned (.agg (D.map (Value.int .u8)).toArray) ∧ Below W.heap.size W w') (fun _ _ h => h)
 have hDr := Bx.mk fun W (h1 : Krow W 1 kc) => (hDr W h1).mono (R' := fun e w' => e = .returned (.agg (D.map (Value.int .u8)).toArray) ∧ Below W.heap.size W w') (fun _ _ h => h)
 have heq := fun W => eql_dig D hD W
 generalize (D.map (Value.int .u8)).toArray = DV at *
 clear hD
 subst hj
 have hDs := Bx.mk hDs
 have te : (er != er) = false := by simp
 have trr : (r == r) = true := by simp
 go_enter Tryz.func3, Tryz.ntmps3
 go_upto_region 1 with fail
 generalize hW : World.alloc (World.alloc (World.alloc w _) _) _ = W
 have HI : Bx (AnI w #[.int .i64 a, .int .i64 b, .int .i64 c, .int .i64 d, .int .i64 e, .int .i64 f, .slice ha xs.length hcp] #[.int .i64 px, .int .i64 py, .int .i64 pz] #[.int .i64 b0, .int .i64 b1, .int .i64 b2, .int .i64 b3, .int .i64 b4, .int .i64 b5] W) := by rw [← hW]; exact ⟨AnI.start _ _ _ _⟩
 clear hW
 go_wp2_with fail
 refine (sanity_true _).mono ?_
 rintro _ w1 ⟨rfl, hb⟩
 replace HI := Bx.mk (HI.out.later hb)
 clear hb
 obtain ⟨cg0, cg1, cg2, cg3, cg4, cg5, cg6⟩ := HI.out.kg.c7
 go_wp2_with fail
 refine (few_yes a b c d e f ha xs.length hcp hl _).mono ?_
 rintro _ w2 ⟨rfl, hb⟩
 replace HI := Bx.mk (HI.out.later hb)
 clear hb
 clear cg0 cg1 cg2 cg3 cg4 cg5 cg6
 obtain ⟨cb0, cb1, cb2, cb3, cb4, cb5⟩ := HI.out.kb.c6
 go_wp2_with fail
 refine (hV.out _).mono ?_
 rintro _ w3 ⟨v, hQ, rfl, hb⟩
 replace HI := Bx.mk (HI.out.later hb)
 clear hb hV
 clear cb0 cb1 cb2 cb3 cb4 cb5
 by_cases hv : 300 < v
 · have t0 : decide (300 < v) = true := by simpa using hv
   clear hv hQ
   go_wp2_with fail
   go_ret
   exact ⟨rfl, HI.out.bel⟩
 have t0 : decide (300 < v) = false := by simpa using hv
 replace hQ := hQ (by omega)
 clear hv
 obtain ⟨cg0, cg1, cg2, cg3, cg4, cg5, cg6⟩ := HI.out.kg.c7
 have hGp1 := Bx.mk (hGp.out hQ)
 have hGr1 := Bx.mk (hGr.out hQ)
 have hQe1 := Bx.mk (hQe.out hQ)
 clear hGp hGr hQ hQe
 go_wp2_with fail
 refine (hT.out _ (hsl.out.below HI.out.bel)).mono ?_
 rintro _ w4 ⟨sb, rfl, hS, hb⟩
 obtain ⟨Far, hFa⟩ : ∃ Far : Nat → Prop, Far = fun k => k < w3.heap.size := ⟨_, rfl⟩
 rw [← hFa] at hS
 clear hFa
 replace hS := Bx.mk hS
 replace HI := Bx.mk (HI.out.later hb)
 clear hb hT
 clear cg0 cg1 cg2 cg3 cg4 cg5 cg6
 obtain ⟨cg0, cg1, cg2, cg3, cg4, cg5, cg6⟩ := HI.out.kg.c7
 go_wp2_with fail
 refine (hF.out _ (hsl.out.below HI.out.bel)).mono ?_
 rintro _ w5 ⟨rfl, hb⟩
 replace hS := Bx.mk (hS.out.later hb)
 replace HI := Bx.mk (HI.out.later hb)
 clear hb hF
 clear cg0 cg1 cg2 cg3 cg4 cg5 cg6
 obtain ⟨cb0, cb1, cb2, cb3, cb4, cb5⟩ := HI.out.kb.c6
 go_wp2_with fail
 refine (hGp1.out _ _ _ hS.out).mono ?_
 rintro _ w6 ⟨pa, pc, rfl, hs1, hb⟩
 replace hS := Bx.mk (hS.out.later hb)
 replace HI := Bx.mk (HI.out.later hb)
 clear hb hGp1
 clear cb0 cb1 cb2 cb3 cb4 cb5
 go_upto_region 11 with fail
 generalize hW7 : World.alloc w6 _ = w7
 have hb7 : Below w6.heap.size w6 w7 := by rw [← hW7]; exact (Below.refl _ _).alloc (Nat.le_refl _) _
 have k17 : Bx (Bk w7 w6.heap.size #[.int .i64 g0, .int .i64 g1, .int .i64 g2, .int .i64 g3, .int .i64 g4, .int .i64 g5, .slice pa n pc] 28) := ⟨by rw [← hW7]; exact blk_new _ _ _ rfl⟩
 replace hs1 := Bx.mk (hs1.below hb7)
 replace hS := Bx.mk (hS.out.later hb7)
 replace HI := Bx.mk (HI.out.later hb7)
 clear hb7 hW7
 obtain ⟨cb0, cb1, cb2, cb3, cb4, cb5⟩ := HI.out.kb.c6
 go_wp2_with fail
 refine (hGr1.out _).mono ?_
 rintro _ w8 ⟨qa, qc, rfl, hs2, hb⟩
 replace hS := Bx.mk (hS.out.later hb)
 replace HI := Bx.mk (HI.out.later hb)
 replace k17 := Bx.mk (k17.out.later hb)
 replace hs1 := Bx.mk (hs1.out.below hb)
 clear hb hGr1
 clear cb0 cb1 cb2 cb3 cb4 cb5
 go_upto_region 12 with fail
 generalize hW9 : World.alloc w8 _ = w9
 have hb9 : Below w8.heap.size w8 w9 := by rw [← hW9]; exact (Below.refl _ _).alloc (Nat.le_refl _) _
 have k19 : Bx (Bk w9 w8.heap.size #[.int .i64 g0, .int .i64 g1, .int .i64 g2, .int .i64 g3, .int .i64 g4, .int .i64 g5, .slice qa n qc] 28) := ⟨by rw [← hW9]; exact blk_new _ _ _ rfl⟩
 replace hs2 := Bx.mk (hs2.below hb9)
 replace hs1 := Bx.mk (hs1.out.below hb9)
 replace hS := Bx.mk (hS.out.later hb9)
 replace HI := Bx.mk (HI.out.later hb9)
 replace k17 := Bx.mk (k17.out.later hb9)
 clear hb9 hW9
 have y0 := k17.out.cell 0 rfl
 have z0 := k19.out.cell 0 rfl
 have c1 := k17.out.cell 1 rfl
 have z1 := k19.out.cell 1 rfl
 have c2 := k17.out.cell 2 rfl
 have z2 := k19.out.cell 2 rfl
 have c3 := k17.out.cell 3 rfl
 have z3 := k19.out.cell 3 rfl
 have c4 := k17.out.cell 4 rfl
 have z4 := k19.out.cell 4 rfl
 have c5 := k17.out.cell 5 rfl
 have z5 := k19.out.cell 5 rfl
 have c6 := k17.out.cell 6 rfl
 have z6 := k19.out.cell 6 rfl
 go_wp2_with fail
 refine (hQe1.out _ _ _ _ _ hs1.out hs2.out).mono ?_
 rintro _ w10 ⟨rfl, hb⟩
 replace hS := Bx.mk (hS.out.later hb)
 replace HI := Bx.mk (HI.out.later hb)
 clear hb hQe1 k17 k19 hs1 hs2 y0 c1 c2 c3 c4 c5 c6 z0 z1 z2 z3 z4 z5 z6
 obtain ⟨cp0, cp1, cp2⟩ := HI.out.kp.c3
 go_wp2_with fail
 refine (hPp.out _ _ _ hS.out).mono ?_
 rintro _ w11 ⟨rfl, hb⟩
 replace hS := Bx.mk (hS.out.later hb)
 replace HI := Bx.mk (HI.out.later hb)
 clear hb hPp
 clear cp0 cp1 cp2
 obtain ⟨cp0, cp1, cp2⟩ := HI.out.kp.c3
 go_wp2_with fail
 refine (hPr.out _).mono ?_
 rintro _ w12 ⟨rfl, hb⟩
 replace hS := Bx.mk (hS.out.later hb)
 replace HI := Bx.mk (HI.out.later hb)
 clear hb hPr
 clear cp0 cp1 cp2
 go_wp2_with fail
 refine (hDs.out _ _ _ hS.out).mono ?_
 rintro _ w13 ⟨rfl, hb⟩
 replace hS := Bx.mk (hS.out.later hb)
 replace HI := Bx.mk (HI.out.later hb)
 clear hb hDs
 go_wp2_with fail
 obtain ⟨cp0, cp1, cp2⟩ := HI.out.kp.r3
 have hKr : Bx (∀ dk osk, Krow (grow (redrawn w13 dk) osk) 0 kc ∧ Krow (grow (redrawn w13 dk) osk) 1 kc) := ⟨fun dk osk => ⟨fun i v hv => cell_later (below_regrown w13 dk osk) (cell_later HI.out.bel (hK.out.1 i v hv)), fun i v hv => cell_later (below_regrown w13 dk osk) (cell_later HI.out.bel (hK.out.2 i v hv))⟩⟩
 have q0 := Bx.mk fun dk osk => Calls.regrown_of (hGet.out (grow (redrawn w13 dk) osk) _ _ (hS.out.later (below_regrown w13 dk osk)))
 have q1 := Bx.mk fun dk osk => Calls.regrown_of (hGer.out (grow (redrawn w13 dk) osk))
 have q2 := Bx.mk fun dk osk => Calls.regrown_of (hDp.out (grow (redrawn w13 dk) osk) _ _ (hKr.out dk osk).1 (hS.out.later (below_regrown w13 dk osk)))
 have q3 := Bx.mk fun dk osk => Calls.regrown_of (hDr.out (grow (redrawn w13 dk) osk) (hKr.out dk osk).2)
 clear hGet hGer hDp hDr hKr
 refine wp_region_quiet_below (by kernel_rfl) (by kernel_rfl) ?_
 repeat (first | go_big_quiet_step ((first | with_reducible exact q0.out _ _ | with_reducible exact q1.out _ _ | with_reducible exact q2.out _ _ | with_reducible exact q3.out _ _)) | quiet_step (first | with_reducible exact q0.out _ _ | with_reducible exact q1.out _ _ | with_reducible exact q2.out _ _ | with_reducible exact q3.out _ _))
 refine wpQuiet_nil ?_
 rintro _ ⟨⟨dq, osq⟩, rfl⟩
 replace HI := Bx.mk (HI.out.later (below_regrown w13 dq osq))
 generalize grow (redrawn w13 dq) osq = wz at *
 clear q0 q1 q2 q3 cp0 cp1 cp2
 go_wp2_with fail
 go_ret
 exact ⟨rfl, HI.out.bel⟩
set_option maxRecDepth 100000 in
set_option maxHeartbeats 4000000 in
theorem answers_err (kc : List Int) (a b c d e f dd px py pz b0 b1 b2 b3 b4 b5 lv : Int) (ha : Option Addr) (hcp : Nat) (xs : List Int) (w : World) (hK : Krow w 0 kc ∧ Krow w 1 kc) (hl : xs.length ≤ 300) (hsl : Sl w .i64 ha xs) (Q : Prop) (hV : ∀ W, Calls Tryz.prog 6 #[.agg #[.int .i64 b0, .int .i64 b1, .int .i64 b2, .int .i64 b3, .int .i64 b4, .int .i64 b5]] W (VolPost Q W)) (S R : ByteArray) (i0 q jj r er g0 g1 g2 g3 g4 g5 : Int) (ts : List Tr) (us D : List Int) (n : Nat)
 (hT : ∀ W, Sl W .i64 ha xs → Calls Tryz.prog 7 #[.agg #[.int .i64 a, .int .i64 b, .int .i64 c, .int .i64 d, .int .i64 e, .int .i64 f, .slice ha xs.length hcp], .int .i64 dd] W fun e' w' => ∃ sb, e' = .returned (.tuple #[.pointer (some ⟨sb, 0, none⟩), .int .i64 i0, .bool true]) ∧ StoreIs w' (fun k => k < W.heap.size) sb 100000 ts ∧ Below W.heap.size W w')
 (hF : ∀ W, Sl W .i64 ha xs → Calls Tryz.prog 8 #[.agg #[.int .i64 a, .int .i64 b, .int .i64 c, .int .i64 d, .int .i64 e, .int .i64 f, .slice ha xs.length hcp], .int .i64 dd] W fun e' w' => e' = .returned (.tuple #[.string S, .int .i64 0]) ∧ Below W.heap.size W w')
 (hGp : Q → ∀ W Far sb, StoreIs W Far sb 100000 ts → Calls Tryz.prog 9 #[.pointer (some ⟨sb, 0, none⟩), .int .i64 i0, .int .i64 dd, .agg #[.int .i64 b0, .int .i64 b1, .int .i64 b2, .int .i64 b3, .int .i64 b4, .int .i64 b5]] W (GrPost g0 g1 g2 g3 g4 g5 er n us W))
 (hGr : Q → ∀ W, Calls Tryz.prog 10 #[.string S, .int .i64 dd, .agg #[.int .i64 b0, .int .i64 b1, .int .i64 b2, .int .i64 b3, .int .i64 b4, .int .i64 b5]] W (GrPost g0 g1 g2 g3 g4 g5 er n us W))
 (hQe : Q → ∀ W pa qa pc qc, Sl W .i64 pa us → Sl W .i64 qa us → Calls Tryz.prog 11 #[.agg #[.int .i64 g0, .int .i64 g1, .int .i64 g2, .int .i64 g3, .int .i64 g4, .int .i64 g5, .slice pa n pc], .agg #[.int .i64 g0, .int .i64 g1, .int .i64 g2, .int .i64 g3, .int .i64 g4, .int .i64 g5, .slice qa n qc]] W fun e' w' => e' = .returned (.bool true) ∧ Below W.heap.size W w')
 (hPp : ∀ W Far sb, StoreIs W Far sb 100000 ts → Calls Tryz.prog 12 #[.pointer (some ⟨sb, 0, none⟩), .int .i64 i0, .int .i64 dd, .agg #[.int .i64 px, .int .i64 py, .int .i64 pz], .int .i64 lv] W fun e w' => e = ret2 q jj ∧ Below W.heap.size W w')
 (hPr : ∀ W, Calls Tryz.prog 13 #[.string S, .int .i64 dd, .agg #[.int .i64 px, .int .i64 py, .int .i64 pz], .int .i64 lv] W fun e w' => e = .returned (.tuple #[.string R, .int .i64 jj]) ∧ Below W.heap.size W w')
 (hGet : ∀ W Far sb, StoreIs W Far sb 100000 ts → Calls Tryz.prog 15 #[.pointer (some ⟨sb, 0, none⟩), .int .i64 i0, .int .i64 dd, .agg #[.int .i64 px, .int .i64 py, .int .i64 pz]] W fun e w' => e = .returned (.int .i64 r) ∧ Below W.heap.size W w')
 (hGer : ∀ W, Calls Tryz.prog 16 #[.string S, .int .i64 dd, .agg #[.int .i64 px, .int .i64 py, .int .i64 pz]] W fun e w' => e = .returned (.int .i64 r) ∧ Below W.heap.size W w')
 (hD : D.length = 16) (hDp : ∀ W Far sb, Krow W 0 kc → StoreIs W Far sb 100000 ts → Calls Tryz.prog 17 #[.pointer (some ⟨sb, 0, none⟩), .int .i64 i0] W (DigPost W D))
 (hDr : ∀ W, Krow W 1 kc → Calls Tryz.prog 18 #[.string S] W (DigPost W D))
 (hj : jj ≠ 0) :
 Calls Tryz.prog 3 #[.agg #[.int .i64 a, .int .i64 b, .int .i64 c, .int .i64 d, .int .i64 e, .int .i64 f, .slice ha xs.length hcp], .int .i64 dd, .agg #[.int .i64 px, .int .i64 py, .int .i64 pz], .agg #[.int .i64 b0, .int .i64 b1, .int .i64 b2, .int .i64 b3, .int .i64 b4, .int .i64 b5], .int .i64 lv] w fun e' w' => e' = .returned (.bool true) ∧ Below w.heap.size w w' := by
 replace hV := Bx.mk hV
 replace hsl := Bx.mk hsl
 have hK := Bx.mk hK
 have hT := Bx.mk hT
 have hF := Bx.mk hF
 have hGp := Bx.mk hGp
 have hGr := Bx.mk hGr
 have hQe := Bx.mk hQe
 have hPp := Bx.mk hPp
 have hPr := Bx.mk hPr
 have hGet := Bx.mk hGet
 have hGer := Bx.mk hGer
 have hDp := Bx.mk fun W Far sb (h1 : Krow W 0 kc) (h2 : StoreIs W Far sb 100000 ts) => (hDp W Far sb h1 h2).mono (R' := fun e w' => e = .returned (.agg (D.map (Value.int .u8)).toArray) ∧ Below W.heap.size W w') (fun _ _ h => h)
 have hDr := Bx.mk fun W (h1 : Krow W 1 kc) => (hDr W h1).mono (R' := fun e w' => e = .returned (.agg (D.map (Value.int .u8)).toArray) ∧ Below W.heap.size W w') (fun _ _ h => h)
 have heq := fun W => eql_dig D hD W
 generalize (D.map (Value.int .u8)).toArray = DV at *
 clear hD
 have tj : (jj == 0) = false := by simpa using hj
 clear hj
 have te : (er != er) = false := by simp
 have tjj : (jj != jj) = false := by simp
 have trr : (r == r) = true := by simp
 go_enter Tryz.func3, Tryz.ntmps3
 go_upto_region 1 with fail
 generalize hW : World.alloc (World.alloc (World.alloc w _) _) _ = W
 have HI : Bx (AnI w #[.int .i64 a, .int .i64 b, .int .i64 c, .int .i64 d, .int .i64 e, .int .i64 f, .slice ha xs.length hcp] #[.int .i64 px, .int .i64 py, .int .i64 pz] #[.int .i64 b0, .int .i64 b1, .int .i64 b2, .int .i64 b3, .int .i64 b4, .int .i64 b5] W) := by rw [← hW]; exact ⟨AnI.start _ _ _ _⟩
 clear hW
 go_wp2_with fail
 refine (sanity_true _).mono ?_
 rintro _ w1 ⟨rfl, hb⟩
 replace HI := Bx.mk (HI.out.later hb)
 clear hb
 obtain ⟨cg0, cg1, cg2, cg3, cg4, cg5, cg6⟩ := HI.out.kg.c7
 go_wp2_with fail
 refine (few_yes a b c d e f ha xs.length hcp hl _).mono ?_
 rintro _ w2 ⟨rfl, hb⟩
 replace HI := Bx.mk (HI.out.later hb)
 clear hb
 clear cg0 cg1 cg2 cg3 cg4 cg5 cg6
 obtain ⟨cb0, cb1, cb2, cb3, cb4, cb5⟩ := HI.out.kb.c6
 go_wp2_with fail
 refine (hV.out _).mono ?_
 rintro _ w3 ⟨v, hQ, rfl, hb⟩
 replace HI := Bx.mk (HI.out.later hb)
 clear hb hV
 clear cb0 cb1 cb2 cb3 cb4 cb5
 by_cases hv : 300 < v
 · have t0 : decide (300 < v) = true := by simpa using hv
   clear hv hQ
   go_wp2_with fail
   go_ret
   exact ⟨rfl, HI.out.bel⟩
 have t0 : decide (300 < v) = false := by simpa using hv
 replace hQ := hQ (by omega)
 clear hv
 obtain ⟨cg0, cg1, cg2, cg3, cg4, cg5, cg6⟩ := HI.out.kg.c7
 have hGp1 := Bx.mk (hGp.out hQ)
 have hGr1 := Bx.mk (hGr.out hQ)
 have hQe1 := Bx.mk (hQe.out hQ)
 clear hGp hGr hQ hQe
 go_wp2_with fail
 refine (hT.out _ (hsl.out.below HI.out.bel)).mono ?_
 rintro _ w4 ⟨sb, rfl, hS, hb⟩
 obtain ⟨Far, hFa⟩ : ∃ Far : Nat → Prop, Far = fun k => k < w3.heap.size := ⟨_, rfl⟩
 rw [← hFa] at hS
 clear hFa
 replace hS := Bx.mk hS
 replace HI := Bx.mk (HI.out.later hb)
 clear hb hT
 clear cg0 cg1 cg2 cg3 cg4 cg5 cg6
 obtain ⟨cg0, cg1, cg2, cg3, cg4, cg5, cg6⟩ := HI.out.kg.c7
 go_wp2_with fail
 refine (hF.out _ (hsl.out.below HI.out.bel)).mono ?_
 rintro _ w5 ⟨rfl, hb⟩
 replace hS := Bx.mk (hS.out.later hb)
 replace HI := Bx.mk (HI.out.later hb)
 clear hb hF
 clear cg0 cg1 cg2 cg3 cg4 cg5 cg6
 obtain ⟨cb0, cb1, cb2, cb3, cb4, cb5⟩ := HI.out.kb.c6
 go_wp2_with fail
 refine (hGp1.out _ _ _ hS.out).mono ?_
 rintro _ w6 ⟨pa, pc, rfl, hs1, hb⟩
 replace hS := Bx.mk (hS.out.later hb)
 replace HI := Bx.mk (HI.out.later hb)
 clear hb hGp1
 clear cb0 cb1 cb2 cb3 cb4 cb5
 go_upto_region 11 with fail
 generalize hW7 : World.alloc w6 _ = w7
 have hb7 : Below w6.heap.size w6 w7 := by rw [← hW7]; exact (Below.refl _ _).alloc (Nat.le_refl _) _
 have k17 : Bx (Bk w7 w6.heap.size #[.int .i64 g0, .int .i64 g1, .int .i64 g2, .int .i64 g3, .int .i64 g4, .int .i64 g5, .slice pa n pc] 28) := ⟨by rw [← hW7]; exact blk_new _ _ _ rfl⟩
 replace hs1 := Bx.mk (hs1.below hb7)
 replace hS := Bx.mk (hS.out.later hb7)
 replace HI := Bx.mk (HI.out.later hb7)
 clear hb7 hW7
 obtain ⟨cb0, cb1, cb2, cb3, cb4, cb5⟩ := HI.out.kb.c6
 go_wp2_with fail
 refine (hGr1.out _).mono ?_
 rintro _ w8 ⟨qa, qc, rfl, hs2, hb⟩
 replace hS := Bx.mk (hS.out.later hb)
 replace HI := Bx.mk (HI.out.later hb)
 replace k17 := Bx.mk (k17.out.later hb)
 replace hs1 := Bx.mk (hs1.out.below hb)
 clear hb hGr1
 clear cb0 cb1 cb2 cb3 cb4 cb5
 go_upto_region 12 with fail
 generalize hW9 : World.alloc w8 _ = w9
 have hb9 : Below w8.heap.size w8 w9 := by rw [← hW9]; exact (Below.refl _ _).alloc (Nat.le_refl _) _
 have k19 : Bx (Bk w9 w8.heap.size #[.int .i64 g0, .int .i64 g1, .int .i64 g2, .int .i64 g3, .int .i64 g4, .int .i64 g5, .slice qa n qc] 28) := ⟨by rw [← hW9]; exact blk_new _ _ _ rfl⟩
 replace hs2 := Bx.mk (hs2.below hb9)
 replace hs1 := Bx.mk (hs1.out.below hb9)
 replace hS := Bx.mk (hS.out.later hb9)
 replace HI := Bx.mk (HI.out.later hb9)
 replace k17 := Bx.mk (k17.out.later hb9)
 clear hb9 hW9
 have y0 := k17.out.cell 0 rfl
 have z0 := k19.out.cell 0 rfl
 have c1 := k17.out.cell 1 rfl
 have z1 := k19.out.cell 1 rfl
 have c2 := k17.out.cell 2 rfl
 have z2 := k19.out.cell 2 rfl
 have c3 := k17.out.cell 3 rfl
 have z3 := k19.out.cell 3 rfl
 have c4 := k17.out.cell 4 rfl
 have z4 := k19.out.cell 4 rfl
 have c5 := k17.out.cell 5 rfl
 have z5 := k19.out.cell 5 rfl
 have c6 := k17.out.cell 6 rfl
 have z6 := k19.out.cell 6 rfl
 go_wp2_with fail
 refine (hQe1.out _ _ _ _ _ hs1.out hs2.out).mono ?_
 rintro _ w10 ⟨rfl, hb⟩
 replace hS := Bx.mk (hS.out.later hb)
 replace HI := Bx.mk (HI.out.later hb)
 clear hb hQe1 k17 k19 hs1 hs2 y0 c1 c2 c3 c4 c5 c6 z0 z1 z2 z3 z4 z5 z6
 obtain ⟨cp0, cp1, cp2⟩ := HI.out.kp.c3
 go_wp2_with fail
 refine (hPp.out _ _ _ hS.out).mono ?_
 rintro _ w11 ⟨rfl, hb⟩
 replace hS := Bx.mk (hS.out.later hb)
 replace HI := Bx.mk (HI.out.later hb)
 clear hb hPp
 clear cp0 cp1 cp2
 obtain ⟨cp0, cp1, cp2⟩ := HI.out.kp.c3
 go_wp2_with fail
 refine (hPr.out _).mono ?_
 rintro _ w12 ⟨rfl, hb⟩
 replace hS := Bx.mk (hS.out.later hb)
 replace HI := Bx.mk (HI.out.later hb)
 clear hb hPr
 clear cp0 cp1 cp2
 go_wp2_with fail
 obtain ⟨cp0, cp1, cp2⟩ := HI.out.kp.r3
 have hKr : Bx (∀ dk osk, Krow (grow (redrawn w12 dk) osk) 0 kc ∧ Krow (grow (redrawn w12 dk) osk) 1 kc) := ⟨fun dk osk => ⟨fun i v hv => cell_later (below_regrown w12 dk osk) (cell_later HI.out.bel (hK.out.1 i v hv)), fun i v hv => cell_later (below_regrown w12 dk osk) (cell_later HI.out.bel (hK.out.2 i v hv))⟩⟩
 have q0 := Bx.mk fun dk osk => Calls.regrown_of (hGet.out (grow (redrawn w12 dk) osk) _ _ (hS.out.later (below_regrown w12 dk osk)))
 have q1 := Bx.mk fun dk osk => Calls.regrown_of (hGer.out (grow (redrawn w12 dk) osk))
 have q2 := Bx.mk fun dk osk => Calls.regrown_of (hDp.out (grow (redrawn w12 dk) osk) _ _ (hKr.out dk osk).1 (hS.out.later (below_regrown w12 dk osk)))
 have q3 := Bx.mk fun dk osk => Calls.regrown_of (hDr.out (grow (redrawn w12 dk) osk) (hKr.out dk osk).2)
 clear hGet hGer hDp hDr hKr
 refine wp_region_quiet_below (by kernel_rfl) (by kernel_rfl) ?_
 repeat (first | go_big_quiet_step ((first | with_reducible exact q0.out _ _ | with_reducible exact q1.out _ _ | with_reducible exact q2.out _ _ | with_reducible exact q3.out _ _)) | quiet_step (first | with_reducible exact q0.out _ _ | with_reducible exact q1.out _ _ | with_reducible exact q2.out _ _ | with_reducible exact q3.out _ _))
 refine wpQuiet_nil ?_
 rintro _ ⟨⟨dq, osq⟩, rfl⟩
 replace HI := Bx.mk (HI.out.later (below_regrown w12 dq osq))
 generalize grow (redrawn w12 dq) osq = wz at *
 clear q0 q1 q2 q3 cp0 cp1 cp2
 go_wp2_with fail
 go_ret
 exact ⟨rfl, HI.out.bel⟩
end Go.Proofs.YtabclecmehdeoaaGreatDoor
end
section
namespace Go.Proofs.YtabclecmehdeoaaGreatDoor
open Go.RowKit Go.Sort Go.Maps
open Oct
theorem Part9_no (n : Nat) (hn : n ≤ 12) (f : Pt → Int) (px py pz lv : Int) (h : ¬ (inB ⟨px, py, pz⟩ (cubeB (2 ^ (n + 2))) = true ∧ 2 ≤ lv ∧ lv ≤ (n : Int) + 2 ∧ alB lv.toNat ⟨px, py, pz⟩ = true)) (w : World) :
 Calls Tryz.prog 13 #[.string (strOfNums (Tr.enc (trF n f))), .int .i64 ((n : Int) + 2), .agg #[.int .i64 px, .int .i64 py, .int .i64 pz], .int .i64 lv] w fun e w' => e = .returned (.tuple #[.string ByteArray.empty, .int .i64 1]) ∧ Below w.heap.size w w' := by
 cases hI : inB ⟨px, py, pz⟩ (cubeB (2 ^ (n + 2))) with
 | false => exact Part9_in n hn f px py pz lv hI w
 | true =>
   by_cases h1 : lv < 2
   · exact Part9_lo n hn f px py pz lv hI h1 w
   · by_cases h2 : (n : Int) + 2 < lv
     · exact Part9_hi n hn f px py pz lv hI h1 h2 w
     · cases hA : alB lv.toNat ⟨px, py, pz⟩ with
       | true => exact absurd ⟨hI, by omega, by omega, hA⟩ h
       | false =>
         have := Part9_al n lv.toNat hn (by omega) (by omega) f px py pz hI hA w
         rwa [Int.toNat_of_nonneg (by omega)] at this
theorem volPost_any (b0 b1 b2 b3 b4 b5 : Int) (W : World) : Calls Tryz.prog 6 #[.agg #[.int .i64 b0, .int .i64 b1, .int .i64 b2, .int .i64 b3, .int .i64 b4, .int .i64 b5]] W (VolPost (okB ⟨⟨b0, b1, b2⟩, ⟨b3, b4, b5⟩⟩ = true → volB ⟨⟨b0, b1, b2⟩, ⟨b3, b4, b5⟩⟩ ≤ 300) W) := by
 cases hok : okB ⟨⟨b0, b1, b2⟩, ⟨b3, b4, b5⟩⟩ with
 | true => exact (ref_vol b0 b1 b2 b3 b4 b5 (okB_small hok) W).mono fun e w' ⟨x, y⟩ => ⟨_, fun h _ => h, x, y⟩
 | false => exact (vol_gen b0 b1 b2 b3 b4 b5 W).mono fun e w' ⟨v, x, y⟩ => ⟨v, (fun _ h => by cases h), x, y⟩
theorem newE_bad {b : Box} (h : okB b = false) : newE b 0 = 1 := by unfold newE; rw [if_pos (.inl h)]
theorem newE_good {b : Box} (h : okB b = true) (hv : volB b ≤ 300) : newE b 0 = 0 := by
 unfold newE
 rw [if_neg (by rw [h]; simp [Pal.cell]), if_neg (by omega)]
theorem nil_gr {er : Int} {w : World} {e : Ending} {w' : World} (h : e = .returned (.tuple #[.agg #[.int .i64 0, .int .i64 0, .int .i64 0, .int .i64 0, .int .i64 0, .int .i64 0, .slice none 0 0], .int .i64 er]) ∧ Below w.heap.size w w') : GrPost 0 0 0 0 0 0 er 0 [] w e w' :=
 ⟨none, 0, h.1, fun i x hx => by simp at hx, h.2⟩
theorem grids_any (n : Nat) (F : Pt → Int) (hn : n ≤ 12) (hF : FnC n F) (ts : List Tr) (hG : Good ts) (hlen : ts.length ≤ 1000000000000) (hm : trF n F ∈ ts) (b0 b1 b2 b3 b4 b5 : Int) :
 ∃ (g0 g1 g2 g3 g4 g5 er : Int) (k : Nat) (us : List Int),
   ((okB ⟨⟨b0, b1, b2⟩, ⟨b3, b4, b5⟩⟩ = true → volB ⟨⟨b0, b1, b2⟩, ⟨b3, b4, b5⟩⟩ ≤ 300) → ∀ W Far sb, StoreIs W Far sb 100000 ts → Calls Tryz.prog 9 #[.pointer (some ⟨sb, 0, none⟩), .int .i64 (idT ts (trF n F) : Int), .int .i64 ((n : Int) + 2), .agg #[.int .i64 b0, .int .i64 b1, .int .i64 b2, .int .i64 b3, .int .i64 b4, .int .i64 b5]] W (GrPost g0 g1 g2 g3 g4 g5 er k us W)) ∧
   ((okB ⟨⟨b0, b1, b2⟩, ⟨b3, b4, b5⟩⟩ = true → volB ⟨⟨b0, b1, b2⟩, ⟨b3, b4, b5⟩⟩ ≤ 300) → ∀ W, Calls Tryz.prog 10 #[.string (strOfNums (Tr.enc (trF n F))), .int .i64 ((n : Int) + 2), .agg #[.int .i64 b0, .int .i64 b1, .int .i64 b2, .int .i64 b3, .int .i64 b4, .int .i64 b5]] W (GrPost g0 g1 g2 g3 g4 g5 er k us W)) ∧
   ((okB ⟨⟨b0, b1, b2⟩, ⟨b3, b4, b5⟩⟩ = true → volB ⟨⟨b0, b1, b2⟩, ⟨b3, b4, b5⟩⟩ ≤ 300) → us.length = k ∧ k ≤ 1000000) := by
 cases hok : okB ⟨⟨b0, b1, b2⟩, ⟨b3, b4, b5⟩⟩ with
 | false =>
   refine ⟨0, 0, 0, 0, 0, 0, 1, 0, [], fun _ W Far sb _ => ?_, fun _ W => ?_, fun _ => ⟨rfl, by omega⟩⟩
   · refine (grid_nil sb _ _ b0 b1 b2 b3 b4 b5 1 (fun W => ?_) W).mono fun e w' h => nil_gr h
     have := new_err b0 b1 b2 b3 b4 b5 0 (by rw [newE_bad hok]; decide) W
     rwa [newE_bad hok] at this
   · exact (rgrid_nil _ _ b0 b1 b2 b3 b4 b5 1 (fun W => rnew_bad b0 b1 b2 b3 b4 b5 hok W) W).mono fun e w' h => nil_gr h
 | true =>
   cases hem : emptyB ⟨⟨b0, b1, b2⟩, ⟨b3, b4, b5⟩⟩ with
   | true =>
     have hv : volB ⟨⟨b0, b1, b2⟩, ⟨b3, b4, b5⟩⟩ ≤ 300 := by rw [volB_empty hem]; decide
     refine ⟨0, 0, 0, 0, 0, 0, 0, 0, [], fun _ W Far sb _ => ?_, fun _ W => ?_, fun _ => ⟨rfl, by omega⟩⟩
     · exact (grid_nil sb _ _ b0 b1 b2 b3 b4 b5 0 (fun W => new_empty b0 b1 b2 b3 b4 b5 0 (newE_good hok hv) hem W) W).mono fun e w' h => nil_gr h
     · exact (rgrid_nil _ _ b0 b1 b2 b3 b4 b5 0 (fun W => rnew_empty b0 b1 b2 b3 b4 b5 hok hem W) W).mono fun e w' h => nil_gr h
   | false =>
     have hpos := atB_pos hem
     obtain ⟨k, hk⟩ : ∃ k : Nat, volB ⟨⟨b0, b1, b2⟩, ⟨b3, b4, b5⟩⟩ = (k : Int) := ⟨(volB ⟨⟨b0, b1, b2⟩, ⟨b3, b4, b5⟩⟩).toNat, by omega⟩
     refine ⟨b0, b1, b2, b3, b4, b5, 0, k, cellsOf ⟨⟨b0, b1, b2⟩, ⟨b3, b4, b5⟩⟩ F, fun hQ W Far sb hS => ?_, fun hQ W => ?_, fun hQ => ⟨?_, ?_⟩⟩
     · have hv := hQ rfl
       exact grid_full W Far sb 100000 ts n F hn hF hG hlen hm hS b0 b1 b2 b3 b4 b5 (newE_good hok hv) hem k hk (okB_small hok) (by omega)
     · have hv := hQ rfl
       exact rgrid_full W n F hn hF b0 b1 b2 b3 b4 b5 (newE_good hok hv) hem k hk (okB_small hok) (by omega)
     · rw [cellsOf_length, hk, Int.toNat_natCast]
     · have hv := hQ rfl
       omega
theorem answers_true (kc : List Int) (hk : kc.length = 64) (a b c d e f dd px py pz b0 b1 b2 b3 b4 b5 lv : Int) (ha : Option Addr) (hcp : Nat) (xs : List Int) (hcap : xs.length ≤ hcp) (w : World) (hsl : Sl w .i64 ha xs) (hK : Krow w 0 kc ∧ Krow w 1 kc) :
 Calls Tryz.prog 3 #[.agg #[.int .i64 a, .int .i64 b, .int .i64 c, .int .i64 d, .int .i64 e, .int .i64 f, .slice ha xs.length hcp], .int .i64 dd, .agg #[.int .i64 px, .int .i64 py, .int .i64 pz], .agg #[.int .i64 b0, .int .i64 b1, .int .i64 b2, .int .i64 b3, .int .i64 b4, .int .i64 b5], .int .i64 lv] w fun e' w' => e' = .returned (.bool true) ∧ Below w.heap.size w w' := by
 by_cases hl : xs.length ≤ 300
 · by_cases hE : fromE ⟨⟨a, b, c⟩, ⟨d, e, f⟩⟩ xs dd = 0
   · have hE0 := hE
     obtain ⟨n, hn, rfl, hV, hC⟩ := fromE_zero hE
     have HX := goodG_of hV hl hcap
     have hF := grid_fn HX hC
     have hT := fun W h => built_yes a b c d e f ha hcp xs n hn HX hV hC W h
     have hR := fun W h => ref9_from_yes a b c d e f ha hcp xs hl n hn HX hE0 W h
     have hL : (Tr.add (trF n (cellG ⟨⟨a, b, c⟩, ⟨d, e, f⟩⟩ xs)) []).length ≤ 3901 := by simpa using can_few HX hn good_nil
     have hG := good_fn hn hF good_nil
     have hm := Tr.mem_add (trF n (cellG ⟨⟨a, b, c⟩, ⟨d, e, f⟩⟩ xs)) []
     clear HX hE hV hC
     generalize (cellG ⟨⟨a, b, c⟩, ⟨d, e, f⟩⟩ xs) = F at *
     generalize Tr.add (trF n F) [] = ts at *
     have hwf := wf_can hF.range n ⟨0, 0, 0⟩ (by omega)
     have hsz : (Tr.enc (trF n F)).length ≤ 100000000000000 := can_size hF.range hn ⟨0, 0, 0⟩
     obtain ⟨g0, g1, g2, g3, g4, g5, er, k, us, hGp, hGr, hus⟩ := grids_any n F hn hF ts hG (by omega) hm b0 b1 b2 b3 b4 b5
     by_cases hp : inB ⟨px, py, pz⟩ (cubeB (2 ^ (n + 2))) = true ∧ 2 ≤ lv ∧ lv ≤ (n : Int) + 2 ∧ alB lv.toNat ⟨px, py, pz⟩ = true
     · obtain ⟨L, rfl⟩ : ∃ L : Nat, lv = (L : Int) := ⟨lv.toNat, by omega⟩
       obtain ⟨hI, h2, h3, hA⟩ := hp
       rw [Int.toNat_natCast] at hA
       have hpc : partT (trF n F) n L ⟨px, py, pz⟩ = Tr.can F (L - 2) ⟨px, py, pz⟩ := partT_can F n L _ _ (al_zero n) (inC_of_in hI) (by omega) (by omega) (alB_iff.1 hA)
       refine answers_ok kc a b c d e f _ px py pz b0 b1 b2 b3 b4 b5 _ ha hcp xs w hK hl hsl _ (fun W => volPost_any b0 b1 b2 b3 b4 b5 W) _ _ _ _ _ (F ⟨px, py, pz⟩) er g0 g1 g2 g3 g4 g5 ts us (digT kc (trF n F)) k hT hR hGp hGr
        (fun hQ W pa qa pc qc h1 h2 => req_any g0 g1 g2 g3 g4 g5 pa qa pc qc k us (hus hQ).1 (hus hQ).2 W h1 h2)
        (fun W Far sb hS => part_ok W sb n L hn (by omega) (by omega) px py pz hI hA Far 100000 ts (trF n F) hm (dep_can F n _) hG (by omega) hS)
        (fun W => Part9_ok n L hn (by omega) (by omega) F hF.range px py pz hI hA W)
        (fun W Far sb hS => get_fn W Far sb 100000 ts n F hn hF hG (by omega) hm px py pz hS) (fun W => Get9_any n hn F hF px py pz W) (digT_len kc _)
        (fun W Far sb h1 h2 => digest_any kc hk Far sb 100000 ts hG (by omega) (trF n F) hwf hm W h1 h2) (fun W h1 => rdig_any kc hk (trF n F) hwf (by omega) W h1) rfl (fun W Far sb hS => ?_)
       refine describes_any Far sb 100000 ts hG (by omega) _ ?_ ?_ (partT_in hG L _ n _ hm (dep_can F n _)) W hS
       · rw [hpc]; exact wf_can hF.range _ _ (by omega)
       · rw [hpc]; have := can_size hF.range (n := L - 2) (by omega) ⟨px, py, pz⟩; omega
     · exact answers_err kc a b c d e f _ px py pz b0 b1 b2 b3 b4 b5 _ ha hcp xs w hK hl hsl _ (fun W => volPost_any b0 b1 b2 b3 b4 b5 W) _ _ _ _ _ (F ⟨px, py, pz⟩) er g0 g1 g2 g3 g4 g5 ts us (digT kc (trF n F)) k hT hR hGp hGr
        (fun hQ W pa qa pc qc h1 h2 => req_any g0 g1 g2 g3 g4 g5 pa qa pc qc k us (hus hQ).1 (hus hQ).2 W h1 h2)
        (fun W Far sb hS => part_no W sb n hn _ px py pz lv hp)
        (fun W => Part9_no n hn F px py pz lv hp W)
        (fun W Far sb hS => get_fn W Far sb 100000 ts n F hn hF hG (by omega) hm px py pz hS) (fun W => Get9_any n hn F hF px py pz W) (digT_len kc _)
        (fun W Far sb h1 h2 => digest_any kc hk Far sb 100000 ts hG (by omega) (trF n F) hwf hm W h1 h2) (fun W h1 => rdig_any kc hk (trF n F) hwf (by omega) W h1) (by decide)
   · exact answers_none a b c d e f dd px py pz b0 b1 b2 b3 b4 b5 lv ha hcp xs w hl hsl _ (fun W => volPost_any b0 b1 b2 b3 b4 b5 W) hE
 · exact answers_many a b c d e f dd px py pz b0 b1 b2 b3 b4 b5 lv ha hcp xs w hl
end Go.Proofs.YtabclecmehdeoaaGreatDoor
end
