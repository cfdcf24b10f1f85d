/- Inn, Trm: joined by program, for one claim. -/
import Derived.Test.YtfcbajmjaifjlaaGreatDoorM6
import Derived.ChangeKeysEq
import Derived.Deep.LoopGhost
set_option maxHeartbeats 1000000
set_option maxRecDepth 100000
set_option linter.unusedVariables false
set_option linter.unusedSimpArgs false
namespace Go.Proofs.YtfcbajmjaifjlaaGreatDoor
section
open Go.RowKit Go.Sort Go.Maps
open Oct
theorem zBm (o:Oper) (h:o.op = .alloc 101) (ρ:Operand→Value) (w:World) :
 (execOp ρ o).run Tryz.prog w = .ok (.value (.pointer (some ⟨w.heap.size,0,none⟩))) (w.alloc (.cells #[(0:Int),(0:Int),.string ByteArray.empty,(0:Int),(0:Int),(0:Int),(0:Int),(0:Int),(0:Int),(0:Int),(0:Int),(0:Int)] 101)):=by
 unfold execOp;simp only [h];go_simp
 try rfl
theorem zBg (o:Oper) (tp tu:Tmp) (h:o.op = .store 101 (.tmp tp) (.tmp tu)) (z0 z1 z2 z3 z4 z5 z6 z7 z8 z9 z10 z11:Value) (k c:Int) (s:ByteArray) (d y0 y1 y2 y3 y4 y5 y6 y7:Int) (ρ:Operand→Value) (w:World) (g:Nat) (h1:ρ (.tmp tp) = .pointer (some ⟨g,0,none⟩))
 (h2:ρ (.tmp tu) = .agg #[k,c,.string s,d,y0,y1,y2,y3,y4,y5,y6,y7]) (hb:Bk w g #[z0,z1,z2,z3,z4,z5,z6,z7,z8,z9,z10,z11] 101) :
 ∃ w',(execOp ρ o).run Tryz.prog w = .ok .skip w'∧Bk w' g #[k,c,.string s,d,y0,y1,y2,y3,y4,y5,y6,y7] 101∧w.grownBy w' (some g)∧w'.heap.size=w.heap.size:=by
 have c0:=hb.cell 0 rfl;have f0:=hb.frozen 0;have c1:=hb.cell 1 rfl;have f1:=hb.frozen 1;have c2:=hb.cell 2 rfl;have f2:=hb.frozen 2;have c3:=hb.cell 3 rfl;have f3:=hb.frozen 3;have c4:=hb.cell 4 rfl;have f4:=hb.frozen 4;have c5:=hb.cell 5 rfl;have f5:=hb.frozen 5;have c6:=hb.cell 6 rfl;have f6:=hb.frozen 6;have c7:=hb.cell 7 rfl;have f7:=hb.frozen 7;have c8:=hb.cell 8 rfl;have f8:=hb.frozen 8;have c9:=hb.cell 9 rfl;have f9:=hb.frozen 9;have c10:=hb.cell 10 rfl;have f10:=hb.frozen 10;have c11:=hb.cell 11 rfl;have f11:=hb.frozen 11;refine ⟨_,?_,(by simpa using (((((((((((((((((((((((hb.set 0 (.int .i64 k))).set 1 (.int .i64 c))).set 2 (.string s))).set 3 (.int .i64 d))).set 4 (.int .i64 y0))).set 5 (.int .i64 y1))).set 6 (.int .i64 y2))).set 7 (.int .i64 y3))).set 8 (.int .i64 y4))).set 9 (.int .i64 y5))).set 10 (.int .i64 y6))).set 11 (.int .i64 y7))),zC (zC (zC (zC (zC (zC (zC (zC (zC (zC (zC (zC (World.grownBy.refl w _) _ _) _ _) _ _) _ _) _ _) _ _) _ _) _ _) _ _) _ _) _ _) _ _,by simp⟩
 unfold execOp;simp only [h];go_simp
theorem zKA (a0 a1 a2 a3 a4 a5 a6 a7 b0 b1 b2 b3 b4 b5 b6 b7:Int) (w:World):(binOp .eql 98 (.agg #[a0,a1,a2,a3,a4,a5,a6,a7]) (.agg #[b0,b1,b2,b3,b4,b5,b6,b7])).run Tryz.prog w = .ok (.bool (decide ([a0,a1,a2,a3,a4,a5,a6,a7]=[b0,b1,b2,b3,b4,b5,b6,b7]))) w:=by
 obtain ⟨i,hi⟩ : ∃ i,Tryz.prog.info? 3=some i:=Option.isSome_iff_exists.1 (by kernel_rfl)
 have hc : Tryz.prog.cellsOf 3=1:=by kernel_rfl
 rw [run_eql_struct,run_equalIn_array (n:=8) w 9999 _ _ Tryz.underlying98 hi,hc];rw [show List.range 8=[0,1,2,3,4,5,6,7] by decide]
 simp only [Op.eqItems];go_simp;by_cases h3:a0=b0
 rotate_left
 · simp [h3]
 by_cases h4:a1=b1
 rotate_left
 · simp [h4]
 by_cases h5:a2=b2
 rotate_left
 · simp [h5]
 by_cases h6:a3=b3
 rotate_left
 · simp [h6]
 by_cases h7:a4=b4
 rotate_left
 · simp [h7]
 by_cases h8:a5=b5
 rotate_left
 · simp [h8]
 by_cases h9:a6=b6
 rotate_left
 · simp [h9]
 by_cases h10:a7=b7
 rotate_left
 · simp [h10]
 simp [h3,h4,h5,h6,h7,h8,h9,h10]
def zIF:Tr→Int
 | .uni _=>1
 | .brick _=>2
 | .node _ _=>3
theorem zEK (ts:List Tr) (t:Tr) : ∃ c s d y0 y1 y2 y3 y4 y5 y6 y7,zl ts t=zAW (zIF t) c s d y0 y1 y2 y3 y4 y5 y6 y7:=by
 cases t with
 | uni c=>exact ⟨_,_,_,_,_,_,_,_,_,_,_,rfl⟩
 | brick l=>exact ⟨_,_,_,_,_,_,_,_,_,_,_,rfl⟩
 | node d ch=>exact ⟨_,_,_,_,_,_,_,_,_,_,_,rfl⟩
theorem Bx.node {w:World} {Far:Nat→Prop} {sb:Nat} {most:Int} {ts:List Tr} (h:StoreIs w Far sb most ts) {t:Tr} (ht:t∈ts) {k c:Int} {s:ByteArray} {d y0 y1 y2 y3 y4 y5 y6 y7:Int} (hV:zl ts t=zAW k c s d y0 y1 y2 y3 y4 y5 y6 y7) :
 ∃ g cap mb,Bk w sb #[most,.slice (some ⟨g,0,none⟩) ts.length cap,.map (some mb)] 80∧idT ts t<ts.length∧Bx (∀ j u,j<12→(#[k,c,.string s,d,y0,y1,y2,y3,y4,y5,y6,y7]:Array Value).toList[j]? = some u→w.cell? ⟨g,idT ts t * 12+j,none⟩=some u):=by
 obtain ⟨g,cap,mb,h1,h2,h3⟩:=h.node (zB1 ht);rw [hV] at h3;exact ⟨g,cap,mb,h1,h2,⟨h3⟩⟩
theorem zIG (w:World) (sb g n cap mb i:Nat) (most c d dd y0 y1 y2 y3 y4 y5 y6 y7:Int) (s:ByteArray) (hi:i<n) (_hn:n≤1000000000000)
 (ks:Bk w sb #[most,.slice (some ⟨g,0,none⟩) n cap,.map (some mb)] 80) (hc:Bx (∀ j u,j<12→(#[(1:Int),c,.string s,d,y0,y1,y2,y3,y4,y5,y6,y7]:Array Value).toList[j]? = some u→w.cell? ⟨g,i * 12+j,none⟩=some u)) :
 Calls Tryz.prog 51 #[.pointer (some ⟨sb,0,none⟩),dd,.agg #[(i:Int),(i:Int),(i:Int),(i:Int),(i:Int),(i:Int),(i:Int),(i:Int)]] w fun e w'=>e=zAv (i:Int) 0∧Below w.heap.size w w':=by
 have heq:=fun W=>zKA (i:Int) (i:Int) (i:Int) (i:Int) (i:Int) (i:Int) (i:Int) (i:Int) (i:Int) (i:Int) (i:Int) (i:Int) (i:Int) (i:Int) (i:Int) (i:Int) W;go_enter Tryz.func51,Tryz.ntmps51;go_wp2_with fail;generalize hW:World.alloc w _=W;have hSz:=sz1 hW;have hB:=bl1 hW;have ka:Bk W (w.heap.size) #[(i:Int),(i:Int),(i:Int),(i:Int),(i:Int),(i:Int),(i:Int),(i:Int)] 98:=bk0 hW;clear hW;replace ks:=ks.later hB;have b1:(0:Int)≤(i:Int):=by omega
 have b2:(i:Int)<(n:Int):=by omega
 have d0 : ∀ dk osk,(grow (redrawn W dk) osk).cell? ⟨g,i * 12,none⟩=some (.int .i64 1):=cell_regrown (cell_later hB (hc.out 0 _ (by omega) rfl))
 have d1 : ∀ dk osk,(grow (redrawn W dk) osk).cell? ⟨g,i * 12+1,none⟩=some (.int .i64 c):=cell_regrown (cell_later hB (hc.out 1 _ (by omega) rfl))
 have d2 : ∀ dk osk,(grow (redrawn W dk) osk).cell? ⟨g,i * 12+2,none⟩=some (.string s):=cell_regrown (cell_later hB (hc.out 2 _ (by omega) rfl))
 have d3 : ∀ dk osk,(grow (redrawn W dk) osk).cell? ⟨g,i * 12+3,none⟩=some (.int .i64 d):=cell_regrown (cell_later hB (hc.out 3 _ (by omega) rfl))
 have d4 : ∀ dk osk,(grow (redrawn W dk) osk).cell? ⟨g,i * 12+4,none⟩=some (.int .i64 y0):=cell_regrown (cell_later hB (hc.out 4 _ (by omega) rfl))
 have d5 : ∀ dk osk,(grow (redrawn W dk) osk).cell? ⟨g,i * 12+5,none⟩=some (.int .i64 y1):=cell_regrown (cell_later hB (hc.out 5 _ (by omega) rfl))
 have d6 : ∀ dk osk,(grow (redrawn W dk) osk).cell? ⟨g,i * 12+6,none⟩=some (.int .i64 y2):=cell_regrown (cell_later hB (hc.out 6 _ (by omega) rfl))
 have d7 : ∀ dk osk,(grow (redrawn W dk) osk).cell? ⟨g,i * 12+7,none⟩=some (.int .i64 y3):=cell_regrown (cell_later hB (hc.out 7 _ (by omega) rfl))
 have d8 : ∀ dk osk,(grow (redrawn W dk) osk).cell? ⟨g,i * 12+8,none⟩=some (.int .i64 y4):=cell_regrown (cell_later hB (hc.out 8 _ (by omega) rfl))
 have d9 : ∀ dk osk,(grow (redrawn W dk) osk).cell? ⟨g,i * 12+9,none⟩=some (.int .i64 y5):=cell_regrown (cell_later hB (hc.out 9 _ (by omega) rfl))
 have d10 : ∀ dk osk,(grow (redrawn W dk) osk).cell? ⟨g,i * 12+10,none⟩=some (.int .i64 y6):=cell_regrown (cell_later hB (hc.out 10 _ (by omega) rfl))
 have d11 : ∀ dk osk,(grow (redrawn W dk) osk).cell? ⟨g,i * 12+11,none⟩=some (.int .i64 y7):=cell_regrown (cell_later hB (hc.out 11 _ (by omega) rfl))
 obtain ⟨ca0,ca1,ca2,ca3,ca4,ca5,ca6,ca7⟩:=ka.r8;obtain ⟨cs0,cs1,cs2⟩:=ks.r3;refine zg 8 1 (fun j=>[8].getD j 0) (fun j=>[16].getD j 0) (fun j=>[101].getD j 0) (fun _=>#[.int .i64 0,.int .i64 0,.string ByteArray.empty,.int .i64 0,.int .i64 0,.int .i64 0,.int .i64 0,.int .i64 0,.int .i64 0,.int .i64 0,.int .i64 0,.int .i64 0]) (fun j=>[#[.int .i64 1,.int .i64 c,.string s,.int .i64 d,.int .i64 y0,.int .i64 y1,.int .i64 y2,.int .i64 y3,.int .i64 y4,.int .i64 y5,.int .i64 y6,.int .i64 y7]].getD j #[]) (by kernel_rfl) (by kernel_rfl) ⟨fun j hj=>?_,fun j hj=>?_⟩ 50 (by kernel_rfl) (by rfl) ?_
 · match j,hj with
   | 0,_=>exact ⟨_,rfl,rfl,rfl,zBm _ rfl⟩
   | j+1,hj=>omega
 · match j,hj with
   | 0,_=>exact ⟨_,rfl,rfl,rfl,fun ρ w g h1 h2 hb=>zBg _ 8 16 rfl _ _ _ _ _ _ _ _ _ _ _ _ _ _ _ _ _ _ _ _ _ _ _ _ ρ w g h1 h2 hb⟩
   | j+1,hj=>omega
 simp only [List.take_succ_cons,List.take_zero]
 repeat (refine zAB (fun K hK=>?_);go_simp;first | (refine hK _ ?_;clear hK K) | (apply Exists.intro;refine ⟨fun _=>?_,hK _ ?_⟩;(first | fail);clear hK K))
 refine zAK ⟨fun j hj=>match j,hj with | 0,_=>rfl | j+1,hj=>absurd hj (by omega),fun g W1 hb hg hne=>?_⟩
 obtain ⟨hf,kf⟩:=hg 0 (by omega)
 clear hg hne;clear ca0 ca1 ca2 ca3 ca4 ca5 ca6 ca7;clear cs0 cs1 cs2;replace hB:=hB.trans (hb.mono hB.size);replace ka:=ka.later hb;replace ks:=ks.later hb;replace hSz:=Nat.le_trans hSz hb.size;clear hb;simp only [zAk,List.range_succ,List.range_zero,List.nil_append,List.map_cons,List.map_nil,List.foldl_cons,List.foldl_nil,List.getD_cons_zero];generalize g 0=gf at *;replace kf:Bk W1 gf #[(1:Int),c,.string s,d,y0,y1,y2,y3,y4,y5,y6,y7] 101:=kf;clear d0 d1 d2 d3 d4 d5 d6 d7 d8 d9 d10 d11;obtain ⟨ca0,ca1,ca2,ca3,ca4,ca5,ca6,ca7⟩:=ka.c8;obtain ⟨cf0,cf1,cf2,cf3,cf4,cf5,cf6,cf7,cf8,cf9,cf10,cf11⟩:=kf.c12;clear kf ka ks;go_wp2_with fail
 go_ret2
 exact ⟨rfl,hB⟩
theorem Grew.since {w W w':World} {Far:Nat→Prop} {sb:Nat} {most:Int} {ts ts':List Tr} {t:Tr} {e:Ending} (h:Grew Far sb most ts ts' t W e w') (hb:Below w.heap.size w W):Grew Far sb most ts ts' t w e w' :=
 ⟨(Keeps.below hb).trans h.keeps,Nat.le_trans hb.size h.size,h.way⟩
theorem zGc (w:World) (Far:Nat→Prop) (ts ts':List Tr) (t:Tr) (sb g n cap mb i:Nat) (most c d dd x1 x2 x3 x4 x5 x6 x7 y0 y1 y2 y3 y4 y5 y6 y7:Int) (s:ByteArray) (hi:i<n) (_hn:n≤1000000000000) (hne : ¬ [(i:Int),x1,x2,x3,x4,x5,x6,x7]=[(i:Int),(i:Int),(i:Int),(i:Int),(i:Int),(i:Int),(i:Int),(i:Int)])
 (ks:Bk w sb #[most,.slice (some ⟨g,0,none⟩) n cap,.map (some mb)] 80) (hc:Bx (∀ j u,j<12→(#[(1:Int),c,.string s,d,y0,y1,y2,y3,y4,y5,y6,y7]:Array Value).toList[j]? = some u→w.cell? ⟨g,i * 12+j,none⟩=some u))
 (hmk:Bx (∀ W,Below w.heap.size w W→Calls Tryz.prog 63 #[.pointer (some ⟨sb,0,none⟩),.agg #[(3:Int),(0:Int),.string ByteArray.empty,dd,(i:Int),x1,x2,x3,x4,x5,x6,x7]] W (Grew Far sb most ts ts' t W))) :
 Calls Tryz.prog 51 #[.pointer (some ⟨sb,0,none⟩),dd,.agg #[(i:Int),x1,x2,x3,x4,x5,x6,x7]] w (Grew Far sb most ts ts' t w):=by
 have heq:=fun W=>zKA (i:Int) x1 x2 x3 x4 x5 x6 x7 (i:Int) (i:Int) (i:Int) (i:Int) (i:Int) (i:Int) (i:Int) (i:Int) W;rw [show decide ([(i:Int),x1,x2,x3,x4,x5,x6,x7]=[(i:Int),(i:Int),(i:Int),(i:Int),(i:Int),(i:Int),(i:Int),(i:Int)])=false from decide_eq_false hne] at heq;clear hne;go_enter Tryz.func51,Tryz.ntmps51;go_wp2_with fail;generalize hW:World.alloc w _=W;have hSz:=sz1 hW;have hB:=bl1 hW;have ka:Bk W (w.heap.size) #[(i:Int),x1,x2,x3,x4,x5,x6,x7] 98:=bk0 hW;clear hW;replace ks:=ks.later hB;have b1:(0:Int)≤(i:Int):=by omega
 have b2:(i:Int)<(n:Int):=by omega
 have d0 : ∀ dk osk,(grow (redrawn W dk) osk).cell? ⟨g,i * 12,none⟩=some (.int .i64 1):=cell_regrown (cell_later hB (hc.out 0 _ (by omega) rfl))
 have d1 : ∀ dk osk,(grow (redrawn W dk) osk).cell? ⟨g,i * 12+1,none⟩=some (.int .i64 c):=cell_regrown (cell_later hB (hc.out 1 _ (by omega) rfl))
 have d2 : ∀ dk osk,(grow (redrawn W dk) osk).cell? ⟨g,i * 12+2,none⟩=some (.string s):=cell_regrown (cell_later hB (hc.out 2 _ (by omega) rfl))
 have d3 : ∀ dk osk,(grow (redrawn W dk) osk).cell? ⟨g,i * 12+3,none⟩=some (.int .i64 d):=cell_regrown (cell_later hB (hc.out 3 _ (by omega) rfl))
 have d4 : ∀ dk osk,(grow (redrawn W dk) osk).cell? ⟨g,i * 12+4,none⟩=some (.int .i64 y0):=cell_regrown (cell_later hB (hc.out 4 _ (by omega) rfl))
 have d5 : ∀ dk osk,(grow (redrawn W dk) osk).cell? ⟨g,i * 12+5,none⟩=some (.int .i64 y1):=cell_regrown (cell_later hB (hc.out 5 _ (by omega) rfl))
 have d6 : ∀ dk osk,(grow (redrawn W dk) osk).cell? ⟨g,i * 12+6,none⟩=some (.int .i64 y2):=cell_regrown (cell_later hB (hc.out 6 _ (by omega) rfl))
 have d7 : ∀ dk osk,(grow (redrawn W dk) osk).cell? ⟨g,i * 12+7,none⟩=some (.int .i64 y3):=cell_regrown (cell_later hB (hc.out 7 _ (by omega) rfl))
 have d8 : ∀ dk osk,(grow (redrawn W dk) osk).cell? ⟨g,i * 12+8,none⟩=some (.int .i64 y4):=cell_regrown (cell_later hB (hc.out 8 _ (by omega) rfl))
 have d9 : ∀ dk osk,(grow (redrawn W dk) osk).cell? ⟨g,i * 12+9,none⟩=some (.int .i64 y5):=cell_regrown (cell_later hB (hc.out 9 _ (by omega) rfl))
 have d10 : ∀ dk osk,(grow (redrawn W dk) osk).cell? ⟨g,i * 12+10,none⟩=some (.int .i64 y6):=cell_regrown (cell_later hB (hc.out 10 _ (by omega) rfl))
 have d11 : ∀ dk osk,(grow (redrawn W dk) osk).cell? ⟨g,i * 12+11,none⟩=some (.int .i64 y7):=cell_regrown (cell_later hB (hc.out 11 _ (by omega) rfl))
 obtain ⟨ca0,ca1,ca2,ca3,ca4,ca5,ca6,ca7⟩:=ka.r8;obtain ⟨cs0,cs1,cs2⟩:=ks.r3;refine zg 8 1 (fun j=>[8].getD j 0) (fun j=>[16].getD j 0) (fun j=>[101].getD j 0) (fun _=>#[.int .i64 0,.int .i64 0,.string ByteArray.empty,.int .i64 0,.int .i64 0,.int .i64 0,.int .i64 0,.int .i64 0,.int .i64 0,.int .i64 0,.int .i64 0,.int .i64 0]) (fun j=>[#[.int .i64 1,.int .i64 c,.string s,.int .i64 d,.int .i64 y0,.int .i64 y1,.int .i64 y2,.int .i64 y3,.int .i64 y4,.int .i64 y5,.int .i64 y6,.int .i64 y7]].getD j #[]) (by kernel_rfl) (by kernel_rfl) ⟨fun j hj=>?_,fun j hj=>?_⟩ 50 (by kernel_rfl) (by rfl) ?_
 · match j,hj with
   | 0,_=>exact ⟨_,rfl,rfl,rfl,zBm _ rfl⟩
   | j+1,hj=>omega
 · match j,hj with
   | 0,_=>exact ⟨_,rfl,rfl,rfl,fun ρ w g h1 h2 hb=>zBg _ 8 16 rfl _ _ _ _ _ _ _ _ _ _ _ _ _ _ _ _ _ _ _ _ _ _ _ _ ρ w g h1 h2 hb⟩
   | j+1,hj=>omega
 simp only [List.take_succ_cons,List.take_zero]
 repeat (refine zAB (fun K hK=>?_);go_simp;first | (refine hK _ ?_;clear hK K) | (apply Exists.intro;refine ⟨fun _=>?_,hK _ ?_⟩;(first | fail);clear hK K))
 refine zAK ⟨fun j hj=>match j,hj with | 0,_=>rfl | j+1,hj=>absurd hj (by omega),fun g W1 hb hg hne=>?_⟩
 obtain ⟨hf,kf⟩:=hg 0 (by omega)
 clear hg hne;clear ca0 ca1 ca2 ca3 ca4 ca5 ca6 ca7;clear cs0 cs1 cs2;replace hB:=hB.trans (hb.mono hB.size);replace ka:=ka.later hb;replace ks:=ks.later hb;replace hSz:=Nat.le_trans hSz hb.size;clear hb;simp only [zAk,List.range_succ,List.range_zero,List.nil_append,List.map_cons,List.map_nil,List.foldl_cons,List.foldl_nil,List.getD_cons_zero];generalize g 0=gf at *;replace kf:Bk W1 gf #[(1:Int),c,.string s,d,y0,y1,y2,y3,y4,y5,y6,y7] 101:=kf;clear d0 d1 d2 d3 d4 d5 d6 d7 d8 d9 d10 d11;obtain ⟨ca0,ca1,ca2,ca3,ca4,ca5,ca6,ca7⟩:=ka.c8;obtain ⟨cf0,cf1,cf2,cf3,cf4,cf5,cf6,cf7,cf8,cf9,cf10,cf11⟩:=kf.c12;clear kf ka ks;go_wp2_with fail;refine (hmk.out _ hB).mono ?_;rintro e w2 hg;have Hg:=Bx.mk (hg.since hB);obtain ⟨-,-,(⟨hf,rfl,hs⟩ | ⟨hf,rfl,us,hs⟩)⟩:=hg
 all_goals
  clear hf hs;go_wp2_with fail
  go_ret2
  exact Hg.out
theorem zGb (w:World) (Far:Nat→Prop) (ts ts':List Tr) (t:Tr) (sb g n cap mb i:Nat) (most c d dd x1 x2 x3 x4 x5 x6 x7 y0 y1 y2 y3 y4 y5 y6 y7:Int) (s:ByteArray) (hi:i<n) (_hn:n≤1000000000000)
 (ks:Bk w sb #[most,.slice (some ⟨g,0,none⟩) n cap,.map (some mb)] 80) (hc:Bx (∀ j u,j<12→(#[(2:Int),c,.string s,d,y0,y1,y2,y3,y4,y5,y6,y7]:Array Value).toList[j]? = some u→w.cell? ⟨g,i * 12+j,none⟩=some u))
 (hmk:Bx (∀ W,Below w.heap.size w W→Calls Tryz.prog 63 #[.pointer (some ⟨sb,0,none⟩),.agg #[(3:Int),(0:Int),.string ByteArray.empty,dd,(i:Int),x1,x2,x3,x4,x5,x6,x7]] W (Grew Far sb most ts ts' t W))) :
 Calls Tryz.prog 51 #[.pointer (some ⟨sb,0,none⟩),dd,.agg #[(i:Int),x1,x2,x3,x4,x5,x6,x7]] w (Grew Far sb most ts ts' t w):=by
 go_enter Tryz.func51,Tryz.ntmps51;go_wp2_with fail;generalize hW:World.alloc w _=W;have hSz:=sz1 hW;have hB:=bl1 hW;have ka:Bk W (w.heap.size) #[(i:Int),x1,x2,x3,x4,x5,x6,x7] 98:=bk0 hW;clear hW;replace ks:=ks.later hB;have b1:(0:Int)≤(i:Int):=by omega
 have b2:(i:Int)<(n:Int):=by omega
 have d0 : ∀ dk osk,(grow (redrawn W dk) osk).cell? ⟨g,i * 12,none⟩=some (.int .i64 2):=cell_regrown (cell_later hB (hc.out 0 _ (by omega) rfl))
 have d1 : ∀ dk osk,(grow (redrawn W dk) osk).cell? ⟨g,i * 12+1,none⟩=some (.int .i64 c):=cell_regrown (cell_later hB (hc.out 1 _ (by omega) rfl))
 have d2 : ∀ dk osk,(grow (redrawn W dk) osk).cell? ⟨g,i * 12+2,none⟩=some (.string s):=cell_regrown (cell_later hB (hc.out 2 _ (by omega) rfl))
 have d3 : ∀ dk osk,(grow (redrawn W dk) osk).cell? ⟨g,i * 12+3,none⟩=some (.int .i64 d):=cell_regrown (cell_later hB (hc.out 3 _ (by omega) rfl))
 have d4 : ∀ dk osk,(grow (redrawn W dk) osk).cell? ⟨g,i * 12+4,none⟩=some (.int .i64 y0):=cell_regrown (cell_later hB (hc.out 4 _ (by omega) rfl))
 have d5 : ∀ dk osk,(grow (redrawn W dk) osk).cell? ⟨g,i * 12+5,none⟩=some (.int .i64 y1):=cell_regrown (cell_later hB (hc.out 5 _ (by omega) rfl))
 have d6 : ∀ dk osk,(grow (redrawn W dk) osk).cell? ⟨g,i * 12+6,none⟩=some (.int .i64 y2):=cell_regrown (cell_later hB (hc.out 6 _ (by omega) rfl))
 have d7 : ∀ dk osk,(grow (redrawn W dk) osk).cell? ⟨g,i * 12+7,none⟩=some (.int .i64 y3):=cell_regrown (cell_later hB (hc.out 7 _ (by omega) rfl))
 have d8 : ∀ dk osk,(grow (redrawn W dk) osk).cell? ⟨g,i * 12+8,none⟩=some (.int .i64 y4):=cell_regrown (cell_later hB (hc.out 8 _ (by omega) rfl))
 have d9 : ∀ dk osk,(grow (redrawn W dk) osk).cell? ⟨g,i * 12+9,none⟩=some (.int .i64 y5):=cell_regrown (cell_later hB (hc.out 9 _ (by omega) rfl))
 have d10 : ∀ dk osk,(grow (redrawn W dk) osk).cell? ⟨g,i * 12+10,none⟩=some (.int .i64 y6):=cell_regrown (cell_later hB (hc.out 10 _ (by omega) rfl))
 have d11 : ∀ dk osk,(grow (redrawn W dk) osk).cell? ⟨g,i * 12+11,none⟩=some (.int .i64 y7):=cell_regrown (cell_later hB (hc.out 11 _ (by omega) rfl))
 obtain ⟨ca0,ca1,ca2,ca3,ca4,ca5,ca6,ca7⟩:=ka.r8;obtain ⟨cs0,cs1,cs2⟩:=ks.r3;refine zg 8 1 (fun j=>[8].getD j 0) (fun j=>[16].getD j 0) (fun j=>[101].getD j 0) (fun _=>#[.int .i64 0,.int .i64 0,.string ByteArray.empty,.int .i64 0,.int .i64 0,.int .i64 0,.int .i64 0,.int .i64 0,.int .i64 0,.int .i64 0,.int .i64 0,.int .i64 0]) (fun j=>[#[.int .i64 2,.int .i64 c,.string s,.int .i64 d,.int .i64 y0,.int .i64 y1,.int .i64 y2,.int .i64 y3,.int .i64 y4,.int .i64 y5,.int .i64 y6,.int .i64 y7]].getD j #[]) (by kernel_rfl) (by kernel_rfl) ⟨fun j hj=>?_,fun j hj=>?_⟩ 50 (by kernel_rfl) (by rfl) ?_
 · match j,hj with
   | 0,_=>exact ⟨_,rfl,rfl,rfl,zBm _ rfl⟩
   | j+1,hj=>omega
 · match j,hj with
   | 0,_=>exact ⟨_,rfl,rfl,rfl,fun ρ w g h1 h2 hb=>zBg _ 8 16 rfl _ _ _ _ _ _ _ _ _ _ _ _ _ _ _ _ _ _ _ _ _ _ _ _ ρ w g h1 h2 hb⟩
   | j+1,hj=>omega
 simp only [List.take_succ_cons,List.take_zero]
 repeat (refine zAB (fun K hK=>?_);go_simp;first | (refine hK _ ?_;clear hK K) | (apply Exists.intro;refine ⟨fun _=>?_,hK _ ?_⟩;(first | fail);clear hK K))
 refine zAK ⟨fun j hj=>match j,hj with | 0,_=>rfl | j+1,hj=>absurd hj (by omega),fun g W1 hb hg hne=>?_⟩
 obtain ⟨hf,kf⟩:=hg 0 (by omega)
 clear hg hne;clear ca0 ca1 ca2 ca3 ca4 ca5 ca6 ca7;clear cs0 cs1 cs2;replace hB:=hB.trans (hb.mono hB.size);replace ka:=ka.later hb;replace ks:=ks.later hb;replace hSz:=Nat.le_trans hSz hb.size;clear hb;simp only [zAk,List.range_succ,List.range_zero,List.nil_append,List.map_cons,List.map_nil,List.foldl_cons,List.foldl_nil,List.getD_cons_zero];generalize g 0=gf at *;replace kf:Bk W1 gf #[(2:Int),c,.string s,d,y0,y1,y2,y3,y4,y5,y6,y7] 101:=kf;clear d0 d1 d2 d3 d4 d5 d6 d7 d8 d9 d10 d11;obtain ⟨ca0,ca1,ca2,ca3,ca4,ca5,ca6,ca7⟩:=ka.c8;obtain ⟨cf0,cf1,cf2,cf3,cf4,cf5,cf6,cf7,cf8,cf9,cf10,cf11⟩:=kf.c12;clear kf ka ks;go_wp2_with fail;refine (hmk.out _ hB).mono ?_;rintro e w2 hg;have Hg:=Bx.mk (hg.since hB);obtain ⟨-,-,(⟨hf,rfl,hs⟩ | ⟨hf,rfl,us,hs⟩)⟩:=hg
 all_goals
  clear hf hs;go_wp2_with fail
  go_ret2
  exact Hg.out
theorem zGa (w:World) (Far:Nat→Prop) (ts ts':List Tr) (t:Tr) (sb g n cap mb i:Nat) (most c d dd x1 x2 x3 x4 x5 x6 x7 y0 y1 y2 y3 y4 y5 y6 y7:Int) (s:ByteArray) (hi:i<n) (_hn:n≤1000000000000)
 (ks:Bk w sb #[most,.slice (some ⟨g,0,none⟩) n cap,.map (some mb)] 80) (hc:Bx (∀ j u,j<12→(#[(3:Int),c,.string s,d,y0,y1,y2,y3,y4,y5,y6,y7]:Array Value).toList[j]? = some u→w.cell? ⟨g,i * 12+j,none⟩=some u))
 (hmk:Bx (∀ W,Below w.heap.size w W→Calls Tryz.prog 63 #[.pointer (some ⟨sb,0,none⟩),.agg #[(3:Int),(0:Int),.string ByteArray.empty,dd,(i:Int),x1,x2,x3,x4,x5,x6,x7]] W (Grew Far sb most ts ts' t W))) :
 Calls Tryz.prog 51 #[.pointer (some ⟨sb,0,none⟩),dd,.agg #[(i:Int),x1,x2,x3,x4,x5,x6,x7]] w (Grew Far sb most ts ts' t w):=by
 go_enter Tryz.func51,Tryz.ntmps51;go_wp2_with fail;generalize hW:World.alloc w _=W;have hSz:=sz1 hW;have hB:=bl1 hW;have ka:Bk W (w.heap.size) #[(i:Int),x1,x2,x3,x4,x5,x6,x7] 98:=bk0 hW;clear hW;replace ks:=ks.later hB;have b1:(0:Int)≤(i:Int):=by omega
 have b2:(i:Int)<(n:Int):=by omega
 have d0 : ∀ dk osk,(grow (redrawn W dk) osk).cell? ⟨g,i * 12,none⟩=some (.int .i64 3):=cell_regrown (cell_later hB (hc.out 0 _ (by omega) rfl))
 have d1 : ∀ dk osk,(grow (redrawn W dk) osk).cell? ⟨g,i * 12+1,none⟩=some (.int .i64 c):=cell_regrown (cell_later hB (hc.out 1 _ (by omega) rfl))
 have d2 : ∀ dk osk,(grow (redrawn W dk) osk).cell? ⟨g,i * 12+2,none⟩=some (.string s):=cell_regrown (cell_later hB (hc.out 2 _ (by omega) rfl))
 have d3 : ∀ dk osk,(grow (redrawn W dk) osk).cell? ⟨g,i * 12+3,none⟩=some (.int .i64 d):=cell_regrown (cell_later hB (hc.out 3 _ (by omega) rfl))
 have d4 : ∀ dk osk,(grow (redrawn W dk) osk).cell? ⟨g,i * 12+4,none⟩=some (.int .i64 y0):=cell_regrown (cell_later hB (hc.out 4 _ (by omega) rfl))
 have d5 : ∀ dk osk,(grow (redrawn W dk) osk).cell? ⟨g,i * 12+5,none⟩=some (.int .i64 y1):=cell_regrown (cell_later hB (hc.out 5 _ (by omega) rfl))
 have d6 : ∀ dk osk,(grow (redrawn W dk) osk).cell? ⟨g,i * 12+6,none⟩=some (.int .i64 y2):=cell_regrown (cell_later hB (hc.out 6 _ (by omega) rfl))
 have d7 : ∀ dk osk,(grow (redrawn W dk) osk).cell? ⟨g,i * 12+7,none⟩=some (.int .i64 y3):=cell_regrown (cell_later hB (hc.out 7 _ (by omega) rfl))
 have d8 : ∀ dk osk,(grow (redrawn W dk) osk).cell? ⟨g,i * 12+8,none⟩=some (.int .i64 y4):=cell_regrown (cell_later hB (hc.out 8 _ (by omega) rfl))
 have d9 : ∀ dk osk,(grow (redrawn W dk) osk).cell? ⟨g,i * 12+9,none⟩=some (.int .i64 y5):=cell_regrown (cell_later hB (hc.out 9 _ (by omega) rfl))
 have d10 : ∀ dk osk,(grow (redrawn W dk) osk).cell? ⟨g,i * 12+10,none⟩=some (.int .i64 y6):=cell_regrown (cell_later hB (hc.out 10 _ (by omega) rfl))
 have d11 : ∀ dk osk,(grow (redrawn W dk) osk).cell? ⟨g,i * 12+11,none⟩=some (.int .i64 y7):=cell_regrown (cell_later hB (hc.out 11 _ (by omega) rfl))
 obtain ⟨ca0,ca1,ca2,ca3,ca4,ca5,ca6,ca7⟩:=ka.r8;obtain ⟨cs0,cs1,cs2⟩:=ks.r3;refine zg 8 1 (fun j=>[8].getD j 0) (fun j=>[16].getD j 0) (fun j=>[101].getD j 0) (fun _=>#[.int .i64 0,.int .i64 0,.string ByteArray.empty,.int .i64 0,.int .i64 0,.int .i64 0,.int .i64 0,.int .i64 0,.int .i64 0,.int .i64 0,.int .i64 0,.int .i64 0]) (fun j=>[#[.int .i64 3,.int .i64 c,.string s,.int .i64 d,.int .i64 y0,.int .i64 y1,.int .i64 y2,.int .i64 y3,.int .i64 y4,.int .i64 y5,.int .i64 y6,.int .i64 y7]].getD j #[]) (by kernel_rfl) (by kernel_rfl) ⟨fun j hj=>?_,fun j hj=>?_⟩ 50 (by kernel_rfl) (by rfl) ?_
 · match j,hj with
   | 0,_=>exact ⟨_,rfl,rfl,rfl,zBm _ rfl⟩
   | j+1,hj=>omega
 · match j,hj with
   | 0,_=>exact ⟨_,rfl,rfl,rfl,fun ρ w g h1 h2 hb=>zBg _ 8 16 rfl _ _ _ _ _ _ _ _ _ _ _ _ _ _ _ _ _ _ _ _ _ _ _ _ ρ w g h1 h2 hb⟩
   | j+1,hj=>omega
 simp only [List.take_succ_cons,List.take_zero]
 repeat (refine zAB (fun K hK=>?_);go_simp;first | (refine hK _ ?_;clear hK K) | (apply Exists.intro;refine ⟨fun _=>?_,hK _ ?_⟩;(first | fail);clear hK K))
 refine zAK ⟨fun j hj=>match j,hj with | 0,_=>rfl | j+1,hj=>absurd hj (by omega),fun g W1 hb hg hne=>?_⟩
 obtain ⟨hf,kf⟩:=hg 0 (by omega)
 clear hg hne;clear ca0 ca1 ca2 ca3 ca4 ca5 ca6 ca7;clear cs0 cs1 cs2;replace hB:=hB.trans (hb.mono hB.size);replace ka:=ka.later hb;replace ks:=ks.later hb;replace hSz:=Nat.le_trans hSz hb.size;clear hb;simp only [zAk,List.range_succ,List.range_zero,List.nil_append,List.map_cons,List.map_nil,List.foldl_cons,List.foldl_nil,List.getD_cons_zero];generalize g 0=gf at *;replace kf:Bk W1 gf #[(3:Int),c,.string s,d,y0,y1,y2,y3,y4,y5,y6,y7] 101:=kf;clear d0 d1 d2 d3 d4 d5 d6 d7 d8 d9 d10 d11;obtain ⟨ca0,ca1,ca2,ca3,ca4,ca5,ca6,ca7⟩:=ka.c8;obtain ⟨cf0,cf1,cf2,cf3,cf4,cf5,cf6,cf7,cf8,cf9,cf10,cf11⟩:=kf.c12;clear kf ka ks;go_wp2_with fail;refine (hmk.out _ hB).mono ?_;rintro e w2 hg;have Hg:=Bx.mk (hg.since hB);obtain ⟨-,-,(⟨hf,rfl,hs⟩ | ⟨hf,rfl,us,hs⟩)⟩:=hg
 all_goals
  clear hf hs;go_wp2_with fail
  go_ret2
  exact Hg.out
theorem zDu {ch:Fin 8→Tr} {ts:List Tr} (h : ∀ i,ch i∈ts):Tr.addK ch 8 ts=ts:=Tr.addK_ind (P:=fun a=>a=ts) (fun i a ha=>by subst ha;exact Tr.add_same _ _ (h i)) 8 (Nat.le_refl _) ts rfl
theorem Good.inner {ts:List Tr} (hG:Good ts) {ch:Fin 8→Tr} (hch : ∀ i,ch i∈ts) {d:Nat} (hd:d≤255):Good (Tr.add (Tr.mkInner d ch) ts):=by
 rw [Tr.inner_add hG.closed,zDu hch];split
 · exact hG
 · exact hG.ins (fun d' ch' h i=>by injection h with h1 h2;subst h2;exact hch i) (Bytes.node hd ch)
theorem zCG (w:World) (Far:Nat→Prop) (sb:Nat) (most:Int) (ts:List Tr) (d:Nat) (hd:d≤255) (ch:Fin 8→Tr) (hch : ∀ i,ch i∈ts) (hG:Good ts) (hlen:ts.length≤1000000000000) (hFar : ∀ k,Far k→k<w.heap.size) (hS:StoreIs w Far sb most ts) :
 Calls Tryz.prog 51 #[.pointer (some ⟨sb,0,none⟩),(d:Int),.agg #[(idT ts (ch 0):Int),(idT ts (ch 1):Int),(idT ts (ch 2):Int),(idT ts (ch 3):Int),(idT ts (ch 4):Int),(idT ts (ch 5):Int),(idT ts (ch 6):Int),(idT ts (ch 7):Int)]] w (Grew Far sb most ts (Tr.add (Tr.mkInner d ch) ts) (Tr.mkInner d ch) w):=by
 have hadd:=Tr.inner_add (d:=d) (ch:=ch) hG.closed;rw [zDu hch] at hadd;by_cases hc:(∃ c,ch 0 = .uni c) ∧ ∀ i,ch i=ch 0
 · have hm:Tr.mkInner d ch=ch 0:=if_pos hc;rw [if_pos ⟨hm,hc.1⟩,hm] at hadd;rw [hm,hadd];obtain ⟨⟨c,hu⟩,hall⟩:=hc;obtain ⟨g,cap,mb,h1,hlt,h2⟩:=Bx.node hS (hch 0) (k:=1) (by rw [hu];rfl)
   rw [hall 1,hall 2,hall 3,hall 4,hall 5,hall 6,hall 7];refine (zIG w sb g ts.length cap mb _ most _ _ _ _ _ _ _ _ _ _ _ _ hlt hlen h1 h2).mono ?_;rintro e w' ⟨rfl,hb⟩;exact ⟨Keeps.below hb,hb.size,.inl ⟨.inl rfl,rfl,hS.later hb⟩⟩
 · have hm:Tr.mkInner d ch = .node d ch:=if_neg hc;rw [if_neg (fun h=>by rw [hm] at h;obtain ⟨h1,c,h2⟩:=h;rw [h2] at h1;cases h1),hm] at hadd
   rw [hm,hadd]
   have hmk:Bx (∀ W,Below w.heap.size w W→Calls Tryz.prog 63 #[.pointer (some ⟨sb,0,none⟩),.agg #[(3:Int),(0:Int),.string ByteArray.empty,(d:Int),(idT ts (ch 0):Int),(idT ts (ch 1):Int),(idT ts (ch 2):Int),(idT ts (ch 3):Int),(idT ts (ch 4):Int),(idT ts (ch 5):Int),(idT ts (ch 6):Int),(idT ts (ch 7):Int)]] W (Grew Far sb most ts (Tr.ins (.node d ch) ts) (.node d ch) W)):=⟨fun W hb=>by
    refine zEj W Far sb most ts (.node d ch) 3 0 (d:Int) (idT ts (ch 0):Int) (idT ts (ch 1):Int) (idT ts (ch 2):Int) (idT ts (ch 3):Int) (idT ts (ch 4):Int) (idT ts (ch 5):Int) (idT ts (ch 6):Int) (idT ts (ch 7):Int) _ rfl hG (fun d' ch' h i=>by injection h with h1 h2;subst h2;exact hch i) (Bytes.node hd ch) hlen (fun k hk=>Nat.lt_of_lt_of_le (hFar k hk) hb.size) (zCF _ _ _ _ _ _ _ _ _ _ _ _ (by simp [maxLen]) ?_) (hS.later hb)
    have hi:=fun i=>zEO (hch i);have i0:=hi 0;have i1:=hi 1;have i2:=hi 2;have i3:=hi 3;have i4:=hi 4;have i5:=hi 5;have i6:=hi 6;have i7:=hi 7;intro y hy;simp only [List.mem_cons,List.not_mem_nil,or_false] at hy;rcases hy with rfl | rfl | rfl | rfl | rfl | rfl | rfl | rfl | rfl | rfl | rfl <;> exact WalkArith.wf_i64 (by omega)⟩
   have hform:=zEK ts (ch 0);cases hu:ch 0 with
   | uni c =>
     have hne : ¬ [(idT ts (ch 0):Int),(idT ts (ch 1):Int),(idT ts (ch 2):Int),(idT ts (ch 3):Int),(idT ts (ch 4):Int),(idT ts (ch 5):Int),(idT ts (ch 6):Int),(idT ts (ch 7):Int)]=[(idT ts (ch 0):Int),(idT ts (ch 0):Int),(idT ts (ch 0):Int),(idT ts (ch 0):Int),(idT ts (ch 0):Int),(idT ts (ch 0):Int),(idT ts (ch 0):Int),(idT ts (ch 0):Int)]:=fun h=>by
      simp only [List.cons.injEq,and_true,true_and,Int.natCast_inj] at h;refine hc ⟨⟨c,hu⟩,fin8 (P:=fun i=>ch i=ch 0) rfl ?_ ?_ ?_ ?_ ?_ ?_ ?_⟩
      · exact zx (hch _) (hch _) h.1
      · exact zx (hch _) (hch _) h.2.1
      · exact zx (hch _) (hch _) h.2.2.1
      · exact zx (hch _) (hch _) h.2.2.2.1
      · exact zx (hch _) (hch _) h.2.2.2.2.1
      · exact zx (hch _) (hch _) h.2.2.2.2.2.1
      · exact zx (hch _) (hch _) h.2.2.2.2.2.2
     obtain ⟨c',s,d',y0,y1,y2,y3,y4,y5,y6,y7,hV⟩:=hform;rw [show zIF (ch 0)=1 by rw [hu];rfl] at hV
     obtain ⟨g,cap,mb,h1,hlt,hc⟩:=Bx.node hS (hch 0) hV;rw [←hu];exact zGc w Far ts _ _ sb g ts.length cap mb (idT ts (ch 0)) most _ _ (d:Int) (idT ts (ch 1)) (idT ts (ch 2)) (idT ts (ch 3)) (idT ts (ch 4)) (idT ts (ch 5)) (idT ts (ch 6)) (idT ts (ch 7)) _ _ _ _ _ _ _ _ _ hlt hlen hne h1 hc hmk
   | brick l =>
     obtain ⟨c',s,d',y0,y1,y2,y3,y4,y5,y6,y7,hV⟩:=hform;rw [show zIF (ch 0)=2 by rw [hu];rfl] at hV
     obtain ⟨g,cap,mb,h1,hlt,hc⟩:=Bx.node hS (hch 0) hV;rw [←hu];exact zGb w Far ts _ _ sb g ts.length cap mb (idT ts (ch 0)) most _ _ (d:Int) (idT ts (ch 1)) (idT ts (ch 2)) (idT ts (ch 3)) (idT ts (ch 4)) (idT ts (ch 5)) (idT ts (ch 6)) (idT ts (ch 7)) _ _ _ _ _ _ _ _ _ hlt hlen h1 hc hmk
   | node d2 ch2 =>
     obtain ⟨c',s,d',y0,y1,y2,y3,y4,y5,y6,y7,hV⟩:=hform;rw [show zIF (ch 0)=3 by rw [hu];rfl] at hV
     obtain ⟨g,cap,mb,h1,hlt,hc⟩:=Bx.node hS (hch 0) hV;rw [←hu];exact zGa w Far ts _ _ sb g ts.length cap mb (idT ts (ch 0)) most _ _ (d:Int) (idT ts (ch 1)) (idT ts (ch 2)) (idT ts (ch 3)) (idT ts (ch 4)) (idT ts (ch 5)) (idT ts (ch 6)) (idT ts (ch 7)) _ _ _ _ _ _ _ _ _ hlt hlen h1 hc hmk
theorem zFc {ts:List Tr} {t:Tr} (hlen:ts.length≤1000000000000) (hle:Leans ts t) (hw:Bytes t) : ∃ kl,keyOf Tryz.prog 101 (zl ts t)=some kl:=by
 cases t with
 | uni c=>exact zCF _ _ _ _ _ _ _ _ _ _ _ _ (by simp [maxLen]) (by intro y hy;have:=hw.unis c rfl;simp only [List.mem_cons,List.not_mem_nil,or_false] at hy;exact WalkArith.wf_i64 (by omega))
 | brick l=>exact zCF _ _ _ _ _ _ _ _ _ _ _ _ (by rw [strOfNums_size,(hw.bricks l rfl).1];simp [maxLen]) (by intro y hy;simp only [List.mem_cons,List.not_mem_nil,or_false] at hy;exact WalkArith.wf_i64 (by omega))
 | node d ch =>
   have hi:=fun i=>zEO (hle d ch rfl i);have i0:=hi 0;have i1:=hi 1;have i2:=hi 2;have i3:=hi 3;have i4:=hi 4;have i5:=hi 5;have i6:=hi 6;have i7:=hi 7;have hd:=hw.nodes d ch rfl;refine zCF _ _ _ _ _ _ _ _ _ _ _ _ (by simp [maxLen]) ?_
   intro y hy;simp only [List.mem_cons,List.not_mem_nil,or_false] at hy;rcases hy with rfl | rfl | rfl | rfl | rfl | rfl | rfl | rfl | rfl | rfl | rfl <;> exact WalkArith.wf_i64 (by omega)
theorem zC1 {P:Program} {w w':World} {ops:Array Oper} {rest:List Oper} {o:Oper} {a:Act} {Q:Exit→Act→World→Prop} (hgd:o.guard=none) (x y:Operand) (tm tk:TypeId)
 (ho:o.op = .call { callee:=.builtin .delete,args:=#[x,y],argTypes:=#[tm,tk] }) (m key u:Value) (hx:a.eval x=m) (hy:a.eval y=key)
 (hrun:(Builtin.delete_ #[tm,tk] o.type #[m,key]).run P w = .ok u w') (h:wpList P ops Q rest (a.put o.dst u) w'):wpList P ops Q (o::rest) a w:=by
 refine wpList_plain hgd fun K hK=>?_;unfold Oper.wp execOp;simp only [ho,resolve,invoke,builtin,Sem.run_bind,Sem.run_pure,Result.andThen_ok,List.map_toArray,List.map_cons,List.map_nil,hx,hy,hrun];exact hK _ _ h
theorem zGP {w:World} {B g k cap:Nat} {e:TypeId} {sz:Nat} {xs ys:List Value} (h:w.ownsRow B e sz (.slice (some ⟨g,0,none⟩) (k+1) cap) (k+1) (xs++ys)) (hx:xs.length=k * sz):w.ownsRow B e sz (.slice (some ⟨g,0,none⟩) k cap) k xs:=by
 refine ⟨hx,.inr ?_⟩;rcases h.2 with ⟨h1,_⟩ | ⟨g',cap',cur,h1,h2,h3,h4,h5,h6,h7⟩
 · cases h1
 · injection h1 with e1 e2 e3;injection e1 with e1;injection e1 with e1;subst e1 e3;refine ⟨g,cap,cur,rfl,h2,h3,by omega,h5,h6,?_⟩
   have:=congrArg (List.take (k * sz)) h7;rw [List.take_take,Nat.min_eq_left (Nat.mul_le_mul_right _ (Nat.le_succ k)),←hx,List.take_left] at this;rw [hx] at this;exact this
theorem zLI (ts:List Tr):(zIs ts).length=ts.length * 12:=by
 unfold zIs
 have key : ∀ l:List Tr,(l.flatMap fun t=>(zl ts t).cells.toList).length=l.length * 12:=by
  intro l
  induction l with
  | nil=>rfl
  | cons x r ih=>rw [List.flatMap_cons,List.length_append,ih,zFb,List.length_cons];omega
 exact key ts
theorem zJs {init:List Tr} {t:Tr} (hG:Good (init++[t])):Leans init t∧t ∉ init∧Bytes t:=by
 refine ⟨fun d ch h i=>?_,fun h=>?_,hG.bytes t (by simp)⟩
 · have:=hG.closed.2 d ch (by simp [h]) i
   rcases List.mem_append.1 this with h1 | h1
   · exact h1
   · have h2:=Tr.sz_kid d ch i;rw [List.mem_singleton.1 h1,h] at h2;omega
 · have:=hG.closed.1;rw [List.nodup_append] at this;exact this.2.2 t h t (by simp) rfl
theorem zJv {init:List Tr} {t:Tr} (hG:Good init) (hl:Leans init t) (hn:t ∉ init) (hb:Bytes t) (v:Value) [Decidable (v=zl (init++[t]) t)]:(if v=zl (init++[t]) t then none else zEN (init++[t]) v)=zEN init v:=by
 classical
 have e:=zr (List.prefix_append init [t]) hl;by_cases h:v=zl (init++[t]) t
 · rw [if_pos h,h,e,zEo hG hn hl hb]
 · rw [if_neg h,zHC hG hn hl hb,if_neg (e ▸ h)]
structure TrimR (Far:Nat→Prop) (sb:Nat) (most:Int) (ts us:List Tr) (w:World) (gk:Nat) (vs:List Tr) (wr:World):Prop where
 len:gk=vs.length
 low:ts <+: vs
 up:vs <+: us
 store:StoreIs wr Far sb most vs
 keeps:Keeps Far w wr
theorem zEV (w:World) (Far:Nat→Prop) (sb:Nat) (most:Int) (ts us:List Tr) (hts:ts <+: us) (hgr : ∀ vs,ts <+: vs→vs <+: us→Good vs) (hlen:us.length≤1000000000000) (hS:StoreIs w Far sb most us) :
 Calls Tryz.prog 96 #[.pointer (some ⟨sb,0,none⟩),(ts.length:Int)] w fun e w'=>e = .returned (.tuple #[])∧StoreIs w' Far sb most ts∧Keeps Far w w':=by
 have HR:TrimR Far sb most ts us w us.length us w:=⟨rfl,hts,List.prefix_refl _,hS,Keeps.refl _ _⟩;have hgr:=Bx.mk hgr;have hm0:(0:Int)≤(ts.length:Int):=by omega
 have hts:=Bx.mk hts;have hmax:max (0:Int) (ts.length:Int)=(ts.length:Int):=by omega
 clear hS;go_enter Tryz.func96,Tryz.ntmps96;go_wp2_with fail
 go_loopg [4] us.length (fun gk v wr => ∃ vs,TrimR Far sb most ts us w gk vs wr)
 case atStart=>exact ⟨us,HR⟩
 case round =>
  obtain ⟨vs,hR⟩:=hrel;obtain ⟨hgk,hp1,hp2,hS,hK⟩:=hR;by_cases hgt:ts.length<vs.length
  · obtain ⟨init,t,rfl⟩ : ∃ init t,vs=init++[t]:=⟨_,_,(List.dropLast_concat_getLast (by intro h;rw [h] at hgt;simp at hgt)).symm⟩
    have hp3:ts <+: init:=by
     rw [List.prefix_iff_eq_take] at hp1 ⊢;rw [List.take_append_of_le_length (by simp at hgt;omega)] at hp1
     exact hp1
    have hG:=hgr.out _ hp1 hp2;have hG2:=hgr.out _ hp3 ((List.prefix_append _ _).trans hp2);obtain ⟨hle,hni,hby⟩:=zJs hG;obtain ⟨mb,nv,ks,hrow,hmap,hP⟩:=hS.parts;rw [zG6 hG2 hle] at hrow;obtain ⟨c,s,d,y0,y1,y2,y3,y4,y5,y6,y7,hV⟩:=zEK init t;rw [←zr (List.prefix_append init [t]) hle] at hV hrow;have hlen2:=hp2.length_le;have hkk:init.length≤1000000000000:=by simp at hlen2;omega
    obtain ⟨kl,hkl⟩:=zFc (ts:=init++[t]) (t:=t) (by omega) (hle.later (List.prefix_append _ _)) hby
    have hkm:=zEp hG (t:=t) (by simp)
    have hkd:=fun v=>@zJv init t hG2 hle hni hby v (Classical.propDecidable _);have hrl:=zLI init;have hll:(init++[t]).length=init.length+1:=by simp
    rw [hV] at hrow hkl hkm hkd;rw [hll] at hrow hmap hgt hlen2
    obtain ⟨g,cap,cur,rfl,hcap⟩ : ∃ g cap,∃ cur:Bool,nv = .slice (some ⟨g,0,none⟩) (init.length+1) cap∧init.length+1≤cap:=by
     rcases hrow.2 with ⟨_,h0⟩ | ⟨g,cap,cur,h1,_,_,h2,_⟩
     · omega
     · exact ⟨g,cap,true,h1,h2⟩
    have hc : ∀ j u,j<12→(#[.int .i64 (zIF t),c,.string s,d,y0,y1,y2,y3,y4,y5,y6,y7]:Array Value).toList[j]? = some u→wr.cell? ⟨g,init.length * 12+j,none⟩=some u:=fun j u hj hu=>by
     have:=World.ownsRow.cells hrow (g:=g) rfl (init.length * 12+j) u (by rw [List.getElem?_append_right (by omega),hrl,Nat.add_sub_cancel_left];exact hu)
     have e:(⟨g,0,none⟩:Addr).add (init.length * 12+j)=⟨g,init.length * 12+j,none⟩:=by unfold Addr.add;split <;> simp_all
     rw [e] at this;exact this
    replace hrow:=Bx.mk (zGP hrow hrl);replace hmap:=Bx.mk hmap;replace hkl:=Bx.mk hkl;replace hkm:=Bx.mk hkm;replace hkd:=Bx.mk hkd;replace hc:=Bx.mk hc;have hp4:=Bx.mk ((List.prefix_append init [t]).trans hp2);replace hp3:=Bx.mk hp3;replace hK:=Bx.mk hK;replace hP:=Bx.mk hP;replace hgk:=Bx.mk hgk;clear hlen2 hV hll hrl hG hG2 hle hni hby hS hp1 hp2;generalize zIF t=kk at *;generalize hF:zEN (init++[t])=F at *;generalize hF0:zEN init=F0 at *;replace hF0:=Bx.mk hF0;generalize hti:(idT (init++[t]) t:Int)=ti at *;generalize hr0:zIs init=row0 at *;replace hr0:=Bx.mk hr0;generalize hk:init.length=k at *;replace hk:=Bx.mk hk;clear hF hti;have hcell:=ks.cell 1 rfl;have hB:Below wr.heap.size wr wr:=Below.refl _ _;have hSz:wr.heap.size≤wr.heap.size:=Nat.le_refl _;have b0:(0:Int)≤(k:Int):=by omega
    have b1:(k:Int)<(k:Int)+1:=by omega
    go_wp2_with fail
    all_goals
     clear hcell;have d0 : ∀ dk osk,(grow (redrawn wr dk) osk).cell? ⟨g,k * 12,none⟩=some (.int .i64 kk):=cell_regrown (hc.out 0 _ (by omega) rfl)
     have d1 : ∀ dk osk,(grow (redrawn wr dk) osk).cell? ⟨g,k * 12+1,none⟩=some (.int .i64 c):=cell_regrown (hc.out 1 _ (by omega) rfl)
     have d2 : ∀ dk osk,(grow (redrawn wr dk) osk).cell? ⟨g,k * 12+2,none⟩=some (.string s):=cell_regrown (hc.out 2 _ (by omega) rfl)
     have d3 : ∀ dk osk,(grow (redrawn wr dk) osk).cell? ⟨g,k * 12+3,none⟩=some (.int .i64 d):=cell_regrown (hc.out 3 _ (by omega) rfl)
     have d4 : ∀ dk osk,(grow (redrawn wr dk) osk).cell? ⟨g,k * 12+4,none⟩=some (.int .i64 y0):=cell_regrown (hc.out 4 _ (by omega) rfl)
     have d5 : ∀ dk osk,(grow (redrawn wr dk) osk).cell? ⟨g,k * 12+5,none⟩=some (.int .i64 y1):=cell_regrown (hc.out 5 _ (by omega) rfl)
     have d6 : ∀ dk osk,(grow (redrawn wr dk) osk).cell? ⟨g,k * 12+6,none⟩=some (.int .i64 y2):=cell_regrown (hc.out 6 _ (by omega) rfl)
     have d7 : ∀ dk osk,(grow (redrawn wr dk) osk).cell? ⟨g,k * 12+7,none⟩=some (.int .i64 y3):=cell_regrown (hc.out 7 _ (by omega) rfl)
     have d8 : ∀ dk osk,(grow (redrawn wr dk) osk).cell? ⟨g,k * 12+8,none⟩=some (.int .i64 y4):=cell_regrown (hc.out 8 _ (by omega) rfl)
     have d9 : ∀ dk osk,(grow (redrawn wr dk) osk).cell? ⟨g,k * 12+9,none⟩=some (.int .i64 y5):=cell_regrown (hc.out 9 _ (by omega) rfl)
     have d10 : ∀ dk osk,(grow (redrawn wr dk) osk).cell? ⟨g,k * 12+10,none⟩=some (.int .i64 y6):=cell_regrown (hc.out 10 _ (by omega) rfl)
     have d11 : ∀ dk osk,(grow (redrawn wr dk) osk).cell? ⟨g,k * 12+11,none⟩=some (.int .i64 y7):=cell_regrown (hc.out 11 _ (by omega) rfl)
     obtain ⟨cs0,cs1,cs2⟩:=ks.r3;refine zm 11 (by kernel_rfl) (by kernel_rfl) ?_
     simp only [List.take_succ_cons,List.take_zero,List.drop_succ_cons,List.drop_zero]
     repeat (first | go_big_quiet_step ((fail)) | quiet_step (fail))
     refine wpQuiet_nil ?_;rintro _ ⟨⟨dq,osq⟩,rfl⟩;have hb:=below_regrown wr dq osq;replace hB:=hB.trans (hb.mono hB.size);clear cs0 cs1 cs2;replace ks:=ks.later hb;replace hSz:=Nat.le_trans hSz hb.size;clear hb;generalize grow (redrawn wr dq) osq=W1 at *;clear d0 d1 d2 d3 d4 d5 d6 d7 d8 d9 d10 d11;obtain ⟨W2,hrun,hm2,hg2⟩:=(hmap.out.kept (row:=none) (zJ hB) (by simp)).drop hkl.out hkm.out 0
     unfold zAW at hrun;refine zC1 (by rfl) _ _ _ _ (by rfl) _ _ _ (by rfl) (by rfl) hrun ?_
     replace ks:=ks.grownO hg2 (by simpa using fun e=>hP.out.apart e.symm)
     have hrow2:=Bx.mk (World.ownsRow.kept (World.ownsRow.kept hrow.out (zJ hB) (by simp [Value.ownBlock])) hg2 (.inr hP.out.nm))
     have hm3:=Bx.mk (hm2.congr (f':=F0) (fun key _ _=>Eq.trans (by congr) (hkd.out key)))
     have hK2:=Bx.mk ((hK.out.trans (Keeps.below hB)).trans (Keeps.grown hg2 (fun g e=>by simp only [Option.some.injEq] at e;rw [←e];exact hP.out.fm)))
     clear hrun hm2 hg2 hrow hmap hkl hkm hkd hK hB hSz;have cs1:=ks.cell 1 rfl;have fs1:=ks.frozen 1;have b2:(k:Int)≤(cap:Int):=by omega
     have b3 : ¬cap=k:=by omega
     go_wp2_with fail;have hs:=zS W2 ⟨sb,1,none⟩ (.slice (some ⟨g,0,none⟩) k cap);replace ks:Bk (W2.setCell ⟨sb,1,none⟩ (.slice (some ⟨g,0,none⟩) k cap)) sb #[most,.slice (some ⟨g,0,none⟩) k cap,.map (some mb)] 80:=by simpa using ks.set 1 (.slice (some ⟨g,0,none⟩) k cap)
     have hR:TrimR Far sb most ts us w k init (W2.setCell ⟨sb,1,none⟩ (.slice (some ⟨g,0,none⟩) k cap)):=by
      have hm4:=hm3.out;have hr4:=hrow2.out;rw [←hF0.out,Nat.add_sub_cancel,←hk.out] at hm4;rw [←hr0.out,←hk.out] at hr4;rw [←hk.out] at ks hs ⊢;refine ⟨rfl,hp3.out,hp4.out,StoreIs.of ks (World.ownsRow.kept hr4 hs (.inr hP.out.ns)) (hm4.kept hs (by simp only [ne_eq,Option.some.injEq];exact fun e=>hP.out.apart e.symm)) ⟨hP.out.fs,hP.out.fm,hP.out.fn,hP.out.apart,hP.out.ns,hP.out.nm⟩,hK2.out.trans (Keeps.grown hs (fun g e=>by simp only [Option.some.injEq] at e;rw [←e];exact hP.out.fs))⟩
     go_roundg k
     case rel=>exact ⟨init,hR⟩
     case measure=>have h1:=hgk.out;have h2:=hk.out;rw [List.length_append,h2] at h1;simp at h1;omega
  · have hvs:ts=vs:=hp1.eq_of_length_le (by omega)
    subst hvs;obtain ⟨mb,nv,ks,hrow,-,-⟩:=hS.parts;obtain ⟨na,nc,rfl⟩:=zk hrow;have cs1:=ks.cell 1 rfl;have hS:=Bx.mk hS;have hK:=Bx.mk hK;clear hrow ks hgk;go_wp2_with fail
    all_goals
     go_end0
     exact ⟨rfl,hS.out,hK.out⟩
end
end Go.Proofs.YtfcbajmjaifjlaaGreatDoor
