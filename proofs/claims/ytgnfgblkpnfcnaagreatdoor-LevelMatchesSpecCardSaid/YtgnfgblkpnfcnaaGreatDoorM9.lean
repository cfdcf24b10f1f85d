/- Inn: joined by program, for one claim. -/
import Derived.Test.YtgnfgblkpnfcnaaGreatDoorM8
import Derived.ChangeKeysEq
set_option maxHeartbeats 1000000
set_option maxRecDepth 100000
set_option linter.unusedVariables false
set_option linter.unusedSimpArgs false
section
namespace Go.Proofs.YtgnfgblkpnfcnaaGreatDoor
open Go.RowKit Go.Sort Go.Maps
open Oct
theorem zBD (o:Oper) (h:o.op = .alloc 111) (ρ:Operand→Value) (w:World) :
 (execOp ρ o).run Tryz.prog w = .ok (.value (.pointer (some ⟨w.heap.size,0,none⟩))) (w.alloc (.cells #[(0:Int),(0:Int),.string ByteArray.empty,(0:Int),(0:Int),(0:Int),(0:Int),(0:Int),(0:Int),(0:Int),(0:Int),(0:Int)] 111)):=by
 unfold execOp;simp only [h];go_simp
 try rfl
theorem zMg (o:Oper) (tp tu:Tmp) (h:o.op = .store 111 (.tmp tp) (.tmp tu)) (z0 z1 z2 z3 z4 z5 z6 z7 z8 z9 z10 z11:Value) (k c:Int) (s:ByteArray) (d y0 y1 y2 y3 y4 y5 y6 y7:Int) (ρ:Operand→Value) (w:World) (g:Nat) (h1:ρ (.tmp tp) = .pointer (some ⟨g,0,none⟩))
 (h2:ρ (.tmp tu) = .agg #[k,c,.string s,d,y0,y1,y2,y3,y4,y5,y6,y7]) (hb:Bk w g #[z0,z1,z2,z3,z4,z5,z6,z7,z8,z9,z10,z11] 111) :
 ∃ w',(execOp ρ o).run Tryz.prog w = .ok .skip w'∧Bk w' g #[k,c,.string s,d,y0,y1,y2,y3,y4,y5,y6,y7] 111∧w.grownBy w' (some g)∧w'.heap.size=w.heap.size:=by
 have c0:=hb.cell 0 rfl;have f0:=hb.frozen 0;have c1:=hb.cell 1 rfl;have f1:=hb.frozen 1;have c2:=hb.cell 2 rfl;have f2:=hb.frozen 2;have c3:=hb.cell 3 rfl;have f3:=hb.frozen 3;have c4:=hb.cell 4 rfl;have f4:=hb.frozen 4;have c5:=hb.cell 5 rfl;have f5:=hb.frozen 5;have c6:=hb.cell 6 rfl;have f6:=hb.frozen 6;have c7:=hb.cell 7 rfl;have f7:=hb.frozen 7;have c8:=hb.cell 8 rfl;have f8:=hb.frozen 8;have c9:=hb.cell 9 rfl;have f9:=hb.frozen 9;have c10:=hb.cell 10 rfl;have f10:=hb.frozen 10;have c11:=hb.cell 11 rfl;have f11:=hb.frozen 11;refine ⟨_,?_,(by simpa using (((((((((((((((((((((((hb.set 0 (.int .i64 k))).set 1 (.int .i64 c))).set 2 (.string s))).set 3 (.int .i64 d))).set 4 (.int .i64 y0))).set 5 (.int .i64 y1))).set 6 (.int .i64 y2))).set 7 (.int .i64 y3))).set 8 (.int .i64 y4))).set 9 (.int .i64 y5))).set 10 (.int .i64 y6))).set 11 (.int .i64 y7))),zR (zR (zR (zR (zR (zR (zR (zR (zR (zR (zR (zR (World.grownBy.refl w _) _ _) _ _) _ _) _ _) _ _) _ _) _ _) _ _) _ _) _ _) _ _) _ _,by simp⟩
 unfold execOp;simp only [h];go_simp
theorem zD3 (a0 a1 a2 a3 a4 a5 a6 a7 b0 b1 b2 b3 b4 b5 b6 b7:Int) (w:World):(binOp .eql 54 (.agg #[a0,a1,a2,a3,a4,a5,a6,a7]) (.agg #[b0,b1,b2,b3,b4,b5,b6,b7])).run Tryz.prog w = .ok (.bool (decide ([a0,a1,a2,a3,a4,a5,a6,a7]=[b0,b1,b2,b3,b4,b5,b6,b7]))) w:=by
 obtain ⟨i,hi⟩ : ∃ i,Tryz.prog.info? 3=some i:=Option.isSome_iff_exists.1 (by kernel_rfl)
 have hc : Tryz.prog.cellsOf 3=1:=by kernel_rfl
 rw [run_eql_struct,run_equalIn_array (n:=8) w 9999 _ _ Tryz.underlying54 hi,hc];rw [show List.range 8=[0,1,2,3,4,5,6,7] by decide]
 simp only [Op.eqItems];go_simp;by_cases h3:a0=b0
 rotate_left
 · simp [h3]
 by_cases h4:a1=b1
 rotate_left
 · simp [h4]
 by_cases h5:a2=b2
 rotate_left
 · simp [h5]
 by_cases h6:a3=b3
 rotate_left
 · simp [h6]
 by_cases h7:a4=b4
 rotate_left
 · simp [h7]
 by_cases h8:a5=b5
 rotate_left
 · simp [h8]
 by_cases h9:a6=b6
 rotate_left
 · simp [h9]
 by_cases h10:a7=b7
 rotate_left
 · simp [h10]
 simp [h3,h4,h5,h6,h7,h8,h9,h10]
def zF9:Tr→Int
 | .uni _=>1
 | .brick _=>2
 | .node _ _=>3
theorem zIP (ts:List Tr) (t:Tr) : ∃ c s d y0 y1 y2 y3 y4 y5 y6 y7,zh ts t=zII (zF9 t) c s d y0 y1 y2 y3 y4 y5 y6 y7:=by
 cases t with
 | uni c=>exact ⟨_,_,_,_,_,_,_,_,_,_,_,rfl⟩
 | brick l=>exact ⟨_,_,_,_,_,_,_,_,_,_,_,rfl⟩
 | node d ch=>exact ⟨_,_,_,_,_,_,_,_,_,_,_,rfl⟩
theorem Bx.node {w:World} {Far:Nat→Prop} {sb:Nat} {most:Int} {ts:List Tr} (h:StoreIs w Far sb most ts) {t:Tr} (ht:t∈ts) {k c:Int} {s:ByteArray} {d y0 y1 y2 y3 y4 y5 y6 y7:Int} (hV:zh ts t=zII k c s d y0 y1 y2 y3 y4 y5 y6 y7) :
 ∃ g cap mb,Bk w sb #[most,.slice (some ⟨g,0,none⟩) ts.length cap,.map (some mb)] 102∧idT ts t<ts.length∧Bx (∀ j u,j<12→(#[k,c,.string s,d,y0,y1,y2,y3,y4,y5,y6,y7]:Array Value).toList[j]? = some u→w.cell? ⟨g,idT ts t * 12+j,none⟩=some u):=by
 obtain ⟨g,cap,mb,h1,h2,h3⟩:=h.node (zFC ht);rw [hV] at h3;exact ⟨g,cap,mb,h1,h2,⟨h3⟩⟩
theorem zFg (w:World) (sb g n cap mb i:Nat) (most c d dd y0 y1 y2 y3 y4 y5 y6 y7:Int) (s:ByteArray) (hi:i<n) (_hn:n≤1000000000000)
 (ks:Bk w sb #[most,.slice (some ⟨g,0,none⟩) n cap,.map (some mb)] 102) (hc:Bx (∀ j u,j<12→(#[(1:Int),c,.string s,d,y0,y1,y2,y3,y4,y5,y6,y7]:Array Value).toList[j]? = some u→w.cell? ⟨g,i * 12+j,none⟩=some u)) :
 Calls Tryz.prog 70 #[.pointer (some ⟨sb,0,none⟩),dd,.agg #[(i:Int),(i:Int),(i:Int),(i:Int),(i:Int),(i:Int),(i:Int),(i:Int)]] w fun e w'=>e=zLK (i:Int) 0∧Below w.heap.size w w':=by
 have heq:=fun W=>zD3 (i:Int) (i:Int) (i:Int) (i:Int) (i:Int) (i:Int) (i:Int) (i:Int) (i:Int) (i:Int) (i:Int) (i:Int) (i:Int) (i:Int) (i:Int) (i:Int) W;go_enter Tryz.func70,Tryz.ntmps70;go_wp2_with fail;generalize hW:World.alloc w _=W;have hSz:=sz1 hW;have hB:=bl1 hW;have ka:Bk W (w.heap.size) #[(i:Int),(i:Int),(i:Int),(i:Int),(i:Int),(i:Int),(i:Int),(i:Int)] 54:=bk0 hW;clear hW;replace ks:=ks.later hB;have b1:(0:Int)≤(i:Int):=by omega
 have b2:(i:Int)<(n:Int):=by omega
 have d0 : ∀ dk osk,(grow (redrawn W dk) osk).cell? ⟨g,i * 12,none⟩=some (.int .i64 1):=cell_regrown (cell_later hB (hc.out 0 _ (by omega) rfl))
 have d1 : ∀ dk osk,(grow (redrawn W dk) osk).cell? ⟨g,i * 12+1,none⟩=some (.int .i64 c):=cell_regrown (cell_later hB (hc.out 1 _ (by omega) rfl))
 have d2 : ∀ dk osk,(grow (redrawn W dk) osk).cell? ⟨g,i * 12+2,none⟩=some (.string s):=cell_regrown (cell_later hB (hc.out 2 _ (by omega) rfl))
 have d3 : ∀ dk osk,(grow (redrawn W dk) osk).cell? ⟨g,i * 12+3,none⟩=some (.int .i64 d):=cell_regrown (cell_later hB (hc.out 3 _ (by omega) rfl))
 have d4 : ∀ dk osk,(grow (redrawn W dk) osk).cell? ⟨g,i * 12+4,none⟩=some (.int .i64 y0):=cell_regrown (cell_later hB (hc.out 4 _ (by omega) rfl))
 have d5 : ∀ dk osk,(grow (redrawn W dk) osk).cell? ⟨g,i * 12+5,none⟩=some (.int .i64 y1):=cell_regrown (cell_later hB (hc.out 5 _ (by omega) rfl))
 have d6 : ∀ dk osk,(grow (redrawn W dk) osk).cell? ⟨g,i * 12+6,none⟩=some (.int .i64 y2):=cell_regrown (cell_later hB (hc.out 6 _ (by omega) rfl))
 have d7 : ∀ dk osk,(grow (redrawn W dk) osk).cell? ⟨g,i * 12+7,none⟩=some (.int .i64 y3):=cell_regrown (cell_later hB (hc.out 7 _ (by omega) rfl))
 have d8 : ∀ dk osk,(grow (redrawn W dk) osk).cell? ⟨g,i * 12+8,none⟩=some (.int .i64 y4):=cell_regrown (cell_later hB (hc.out 8 _ (by omega) rfl))
 have d9 : ∀ dk osk,(grow (redrawn W dk) osk).cell? ⟨g,i * 12+9,none⟩=some (.int .i64 y5):=cell_regrown (cell_later hB (hc.out 9 _ (by omega) rfl))
 have d10 : ∀ dk osk,(grow (redrawn W dk) osk).cell? ⟨g,i * 12+10,none⟩=some (.int .i64 y6):=cell_regrown (cell_later hB (hc.out 10 _ (by omega) rfl))
 have d11 : ∀ dk osk,(grow (redrawn W dk) osk).cell? ⟨g,i * 12+11,none⟩=some (.int .i64 y7):=cell_regrown (cell_later hB (hc.out 11 _ (by omega) rfl))
 obtain ⟨ca0,ca1,ca2,ca3,ca4,ca5,ca6,ca7⟩:=ka.r8;obtain ⟨cs0,cs1,cs2⟩:=ks.r3;refine zAK 8 1 (fun j=>[8].getD j 0) (fun j=>[16].getD j 0) (fun j=>[111].getD j 0) (fun _=>#[.int .i64 0,.int .i64 0,.string ByteArray.empty,.int .i64 0,.int .i64 0,.int .i64 0,.int .i64 0,.int .i64 0,.int .i64 0,.int .i64 0,.int .i64 0,.int .i64 0]) (fun j=>[#[.int .i64 1,.int .i64 c,.string s,.int .i64 d,.int .i64 y0,.int .i64 y1,.int .i64 y2,.int .i64 y3,.int .i64 y4,.int .i64 y5,.int .i64 y6,.int .i64 y7]].getD j #[]) (by kernel_rfl) (by kernel_rfl) ⟨fun j hj=>?_,fun j hj=>?_⟩ 50 (by kernel_rfl) (by rfl) ?_
 · match j,hj with
   | 0,_=>exact ⟨_,rfl,rfl,rfl,zBD _ rfl⟩
   | j+1,hj=>omega
 · match j,hj with
   | 0,_=>exact ⟨_,rfl,rfl,rfl,fun ρ w g h1 h2 hb=>zMg _ 8 16 rfl _ _ _ _ _ _ _ _ _ _ _ _ _ _ _ _ _ _ _ _ _ _ _ _ ρ w g h1 h2 hb⟩
   | j+1,hj=>omega
 simp only [List.take_succ_cons,List.take_zero]
 repeat (refine zAE (fun K hK=>?_);go_simp;first | (refine hK _ ?_;clear hK K) | (apply Exists.intro;refine ⟨fun _=>?_,hK _ ?_⟩;(first | fail);clear hK K))
 refine zOJ ⟨fun j hj=>match j,hj with | 0,_=>rfl | j+1,hj=>absurd hj (by omega),fun g W1 hb hg hne=>?_⟩
 obtain ⟨hf,kf⟩:=hg 0 (by omega)
 clear hg hne;clear ca0 ca1 ca2 ca3 ca4 ca5 ca6 ca7;clear cs0 cs1 cs2;replace hB:=hB.trans (hb.mono hB.size);replace ka:=ka.later hb;replace ks:=ks.later hb;replace hSz:=Nat.le_trans hSz hb.size;clear hb;simp only [zKA,List.range_succ,List.range_zero,List.nil_append,List.map_cons,List.map_nil,List.foldl_cons,List.foldl_nil,List.getD_cons_zero];generalize g 0=gf at *;replace kf:Bk W1 gf #[(1:Int),c,.string s,d,y0,y1,y2,y3,y4,y5,y6,y7] 111:=kf;clear d0 d1 d2 d3 d4 d5 d6 d7 d8 d9 d10 d11;obtain ⟨ca0,ca1,ca2,ca3,ca4,ca5,ca6,ca7⟩:=ka.c8;obtain ⟨cf0,cf1,cf2,cf3,cf4,cf5,cf6,cf7,cf8,cf9,cf10,cf11⟩:=kf.c12;clear kf ka ks;go_wp2_with fail
 go_ret2
 exact ⟨rfl,hB⟩
theorem Grew.since {w W w':World} {Far:Nat→Prop} {sb:Nat} {most:Int} {ts ts':List Tr} {t:Tr} {e:Ending} (h:Grew Far sb most ts ts' t W e w') (hb:Below w.heap.size w W):Grew Far sb most ts ts' t w e w' :=
 ⟨(Keeps.below hb).trans h.keeps,Nat.le_trans hb.size h.size,h.way⟩
theorem zFb (w:World) (Far:Nat→Prop) (ts ts':List Tr) (t:Tr) (sb g n cap mb i:Nat) (most c d dd x1 x2 x3 x4 x5 x6 x7 y0 y1 y2 y3 y4 y5 y6 y7:Int) (s:ByteArray) (hi:i<n) (_hn:n≤1000000000000) (hne : ¬ [(i:Int),x1,x2,x3,x4,x5,x6,x7]=[(i:Int),(i:Int),(i:Int),(i:Int),(i:Int),(i:Int),(i:Int),(i:Int)])
 (ks:Bk w sb #[most,.slice (some ⟨g,0,none⟩) n cap,.map (some mb)] 102) (hc:Bx (∀ j u,j<12→(#[(1:Int),c,.string s,d,y0,y1,y2,y3,y4,y5,y6,y7]:Array Value).toList[j]? = some u→w.cell? ⟨g,i * 12+j,none⟩=some u))
 (hmk:Bx (∀ W,Below w.heap.size w W→Calls Tryz.prog 74 #[.pointer (some ⟨sb,0,none⟩),.agg #[(3:Int),(0:Int),.string ByteArray.empty,dd,(i:Int),x1,x2,x3,x4,x5,x6,x7]] W (Grew Far sb most ts ts' t W))) :
 Calls Tryz.prog 70 #[.pointer (some ⟨sb,0,none⟩),dd,.agg #[(i:Int),x1,x2,x3,x4,x5,x6,x7]] w (Grew Far sb most ts ts' t w):=by
 have heq:=fun W=>zD3 (i:Int) x1 x2 x3 x4 x5 x6 x7 (i:Int) (i:Int) (i:Int) (i:Int) (i:Int) (i:Int) (i:Int) (i:Int) W;rw [show decide ([(i:Int),x1,x2,x3,x4,x5,x6,x7]=[(i:Int),(i:Int),(i:Int),(i:Int),(i:Int),(i:Int),(i:Int),(i:Int)])=false from decide_eq_false hne] at heq;clear hne;go_enter Tryz.func70,Tryz.ntmps70;go_wp2_with fail;generalize hW:World.alloc w _=W;have hSz:=sz1 hW;have hB:=bl1 hW;have ka:Bk W (w.heap.size) #[(i:Int),x1,x2,x3,x4,x5,x6,x7] 54:=bk0 hW;clear hW;replace ks:=ks.later hB;have b1:(0:Int)≤(i:Int):=by omega
 have b2:(i:Int)<(n:Int):=by omega
 have d0 : ∀ dk osk,(grow (redrawn W dk) osk).cell? ⟨g,i * 12,none⟩=some (.int .i64 1):=cell_regrown (cell_later hB (hc.out 0 _ (by omega) rfl))
 have d1 : ∀ dk osk,(grow (redrawn W dk) osk).cell? ⟨g,i * 12+1,none⟩=some (.int .i64 c):=cell_regrown (cell_later hB (hc.out 1 _ (by omega) rfl))
 have d2 : ∀ dk osk,(grow (redrawn W dk) osk).cell? ⟨g,i * 12+2,none⟩=some (.string s):=cell_regrown (cell_later hB (hc.out 2 _ (by omega) rfl))
 have d3 : ∀ dk osk,(grow (redrawn W dk) osk).cell? ⟨g,i * 12+3,none⟩=some (.int .i64 d):=cell_regrown (cell_later hB (hc.out 3 _ (by omega) rfl))
 have d4 : ∀ dk osk,(grow (redrawn W dk) osk).cell? ⟨g,i * 12+4,none⟩=some (.int .i64 y0):=cell_regrown (cell_later hB (hc.out 4 _ (by omega) rfl))
 have d5 : ∀ dk osk,(grow (redrawn W dk) osk).cell? ⟨g,i * 12+5,none⟩=some (.int .i64 y1):=cell_regrown (cell_later hB (hc.out 5 _ (by omega) rfl))
 have d6 : ∀ dk osk,(grow (redrawn W dk) osk).cell? ⟨g,i * 12+6,none⟩=some (.int .i64 y2):=cell_regrown (cell_later hB (hc.out 6 _ (by omega) rfl))
 have d7 : ∀ dk osk,(grow (redrawn W dk) osk).cell? ⟨g,i * 12+7,none⟩=some (.int .i64 y3):=cell_regrown (cell_later hB (hc.out 7 _ (by omega) rfl))
 have d8 : ∀ dk osk,(grow (redrawn W dk) osk).cell? ⟨g,i * 12+8,none⟩=some (.int .i64 y4):=cell_regrown (cell_later hB (hc.out 8 _ (by omega) rfl))
 have d9 : ∀ dk osk,(grow (redrawn W dk) osk).cell? ⟨g,i * 12+9,none⟩=some (.int .i64 y5):=cell_regrown (cell_later hB (hc.out 9 _ (by omega) rfl))
 have d10 : ∀ dk osk,(grow (redrawn W dk) osk).cell? ⟨g,i * 12+10,none⟩=some (.int .i64 y6):=cell_regrown (cell_later hB (hc.out 10 _ (by omega) rfl))
 have d11 : ∀ dk osk,(grow (redrawn W dk) osk).cell? ⟨g,i * 12+11,none⟩=some (.int .i64 y7):=cell_regrown (cell_later hB (hc.out 11 _ (by omega) rfl))
 obtain ⟨ca0,ca1,ca2,ca3,ca4,ca5,ca6,ca7⟩:=ka.r8;obtain ⟨cs0,cs1,cs2⟩:=ks.r3;refine zAK 8 1 (fun j=>[8].getD j 0) (fun j=>[16].getD j 0) (fun j=>[111].getD j 0) (fun _=>#[.int .i64 0,.int .i64 0,.string ByteArray.empty,.int .i64 0,.int .i64 0,.int .i64 0,.int .i64 0,.int .i64 0,.int .i64 0,.int .i64 0,.int .i64 0,.int .i64 0]) (fun j=>[#[.int .i64 1,.int .i64 c,.string s,.int .i64 d,.int .i64 y0,.int .i64 y1,.int .i64 y2,.int .i64 y3,.int .i64 y4,.int .i64 y5,.int .i64 y6,.int .i64 y7]].getD j #[]) (by kernel_rfl) (by kernel_rfl) ⟨fun j hj=>?_,fun j hj=>?_⟩ 50 (by kernel_rfl) (by rfl) ?_
 · match j,hj with
   | 0,_=>exact ⟨_,rfl,rfl,rfl,zBD _ rfl⟩
   | j+1,hj=>omega
 · match j,hj with
   | 0,_=>exact ⟨_,rfl,rfl,rfl,fun ρ w g h1 h2 hb=>zMg _ 8 16 rfl _ _ _ _ _ _ _ _ _ _ _ _ _ _ _ _ _ _ _ _ _ _ _ _ ρ w g h1 h2 hb⟩
   | j+1,hj=>omega
 simp only [List.take_succ_cons,List.take_zero]
 repeat (refine zAE (fun K hK=>?_);go_simp;first | (refine hK _ ?_;clear hK K) | (apply Exists.intro;refine ⟨fun _=>?_,hK _ ?_⟩;(first | fail);clear hK K))
 refine zOJ ⟨fun j hj=>match j,hj with | 0,_=>rfl | j+1,hj=>absurd hj (by omega),fun g W1 hb hg hne=>?_⟩
 obtain ⟨hf,kf⟩:=hg 0 (by omega)
 clear hg hne;clear ca0 ca1 ca2 ca3 ca4 ca5 ca6 ca7;clear cs0 cs1 cs2;replace hB:=hB.trans (hb.mono hB.size);replace ka:=ka.later hb;replace ks:=ks.later hb;replace hSz:=Nat.le_trans hSz hb.size;clear hb;simp only [zKA,List.range_succ,List.range_zero,List.nil_append,List.map_cons,List.map_nil,List.foldl_cons,List.foldl_nil,List.getD_cons_zero];generalize g 0=gf at *;replace kf:Bk W1 gf #[(1:Int),c,.string s,d,y0,y1,y2,y3,y4,y5,y6,y7] 111:=kf;clear d0 d1 d2 d3 d4 d5 d6 d7 d8 d9 d10 d11;obtain ⟨ca0,ca1,ca2,ca3,ca4,ca5,ca6,ca7⟩:=ka.c8;obtain ⟨cf0,cf1,cf2,cf3,cf4,cf5,cf6,cf7,cf8,cf9,cf10,cf11⟩:=kf.c12;clear kf ka ks;go_wp2_with fail;refine (hmk.out _ hB).mono ?_;rintro e w2 hg;have Hg:=Bx.mk (hg.since hB);obtain ⟨-,-,(⟨hf,rfl,hs⟩ | ⟨hf,rfl,us,hs⟩)⟩:=hg
 all_goals
  clear hf hs;go_wp2_with fail
  go_ret2
  exact Hg.out
theorem zFc (w:World) (Far:Nat→Prop) (ts ts':List Tr) (t:Tr) (sb g n cap mb i:Nat) (most c d dd x1 x2 x3 x4 x5 x6 x7 y0 y1 y2 y3 y4 y5 y6 y7:Int) (s:ByteArray) (hi:i<n) (_hn:n≤1000000000000)
 (ks:Bk w sb #[most,.slice (some ⟨g,0,none⟩) n cap,.map (some mb)] 102) (hc:Bx (∀ j u,j<12→(#[(2:Int),c,.string s,d,y0,y1,y2,y3,y4,y5,y6,y7]:Array Value).toList[j]? = some u→w.cell? ⟨g,i * 12+j,none⟩=some u))
 (hmk:Bx (∀ W,Below w.heap.size w W→Calls Tryz.prog 74 #[.pointer (some ⟨sb,0,none⟩),.agg #[(3:Int),(0:Int),.string ByteArray.empty,dd,(i:Int),x1,x2,x3,x4,x5,x6,x7]] W (Grew Far sb most ts ts' t W))) :
 Calls Tryz.prog 70 #[.pointer (some ⟨sb,0,none⟩),dd,.agg #[(i:Int),x1,x2,x3,x4,x5,x6,x7]] w (Grew Far sb most ts ts' t w):=by
 go_enter Tryz.func70,Tryz.ntmps70;go_wp2_with fail;generalize hW:World.alloc w _=W;have hSz:=sz1 hW;have hB:=bl1 hW;have ka:Bk W (w.heap.size) #[(i:Int),x1,x2,x3,x4,x5,x6,x7] 54:=bk0 hW;clear hW;replace ks:=ks.later hB;have b1:(0:Int)≤(i:Int):=by omega
 have b2:(i:Int)<(n:Int):=by omega
 have d0 : ∀ dk osk,(grow (redrawn W dk) osk).cell? ⟨g,i * 12,none⟩=some (.int .i64 2):=cell_regrown (cell_later hB (hc.out 0 _ (by omega) rfl))
 have d1 : ∀ dk osk,(grow (redrawn W dk) osk).cell? ⟨g,i * 12+1,none⟩=some (.int .i64 c):=cell_regrown (cell_later hB (hc.out 1 _ (by omega) rfl))
 have d2 : ∀ dk osk,(grow (redrawn W dk) osk).cell? ⟨g,i * 12+2,none⟩=some (.string s):=cell_regrown (cell_later hB (hc.out 2 _ (by omega) rfl))
 have d3 : ∀ dk osk,(grow (redrawn W dk) osk).cell? ⟨g,i * 12+3,none⟩=some (.int .i64 d):=cell_regrown (cell_later hB (hc.out 3 _ (by omega) rfl))
 have d4 : ∀ dk osk,(grow (redrawn W dk) osk).cell? ⟨g,i * 12+4,none⟩=some (.int .i64 y0):=cell_regrown (cell_later hB (hc.out 4 _ (by omega) rfl))
 have d5 : ∀ dk osk,(grow (redrawn W dk) osk).cell? ⟨g,i * 12+5,none⟩=some (.int .i64 y1):=cell_regrown (cell_later hB (hc.out 5 _ (by omega) rfl))
 have d6 : ∀ dk osk,(grow (redrawn W dk) osk).cell? ⟨g,i * 12+6,none⟩=some (.int .i64 y2):=cell_regrown (cell_later hB (hc.out 6 _ (by omega) rfl))
 have d7 : ∀ dk osk,(grow (redrawn W dk) osk).cell? ⟨g,i * 12+7,none⟩=some (.int .i64 y3):=cell_regrown (cell_later hB (hc.out 7 _ (by omega) rfl))
 have d8 : ∀ dk osk,(grow (redrawn W dk) osk).cell? ⟨g,i * 12+8,none⟩=some (.int .i64 y4):=cell_regrown (cell_later hB (hc.out 8 _ (by omega) rfl))
 have d9 : ∀ dk osk,(grow (redrawn W dk) osk).cell? ⟨g,i * 12+9,none⟩=some (.int .i64 y5):=cell_regrown (cell_later hB (hc.out 9 _ (by omega) rfl))
 have d10 : ∀ dk osk,(grow (redrawn W dk) osk).cell? ⟨g,i * 12+10,none⟩=some (.int .i64 y6):=cell_regrown (cell_later hB (hc.out 10 _ (by omega) rfl))
 have d11 : ∀ dk osk,(grow (redrawn W dk) osk).cell? ⟨g,i * 12+11,none⟩=some (.int .i64 y7):=cell_regrown (cell_later hB (hc.out 11 _ (by omega) rfl))
 obtain ⟨ca0,ca1,ca2,ca3,ca4,ca5,ca6,ca7⟩:=ka.r8;obtain ⟨cs0,cs1,cs2⟩:=ks.r3;refine zAK 8 1 (fun j=>[8].getD j 0) (fun j=>[16].getD j 0) (fun j=>[111].getD j 0) (fun _=>#[.int .i64 0,.int .i64 0,.string ByteArray.empty,.int .i64 0,.int .i64 0,.int .i64 0,.int .i64 0,.int .i64 0,.int .i64 0,.int .i64 0,.int .i64 0,.int .i64 0]) (fun j=>[#[.int .i64 2,.int .i64 c,.string s,.int .i64 d,.int .i64 y0,.int .i64 y1,.int .i64 y2,.int .i64 y3,.int .i64 y4,.int .i64 y5,.int .i64 y6,.int .i64 y7]].getD j #[]) (by kernel_rfl) (by kernel_rfl) ⟨fun j hj=>?_,fun j hj=>?_⟩ 50 (by kernel_rfl) (by rfl) ?_
 · match j,hj with
   | 0,_=>exact ⟨_,rfl,rfl,rfl,zBD _ rfl⟩
   | j+1,hj=>omega
 · match j,hj with
   | 0,_=>exact ⟨_,rfl,rfl,rfl,fun ρ w g h1 h2 hb=>zMg _ 8 16 rfl _ _ _ _ _ _ _ _ _ _ _ _ _ _ _ _ _ _ _ _ _ _ _ _ ρ w g h1 h2 hb⟩
   | j+1,hj=>omega
 simp only [List.take_succ_cons,List.take_zero]
 repeat (refine zAE (fun K hK=>?_);go_simp;first | (refine hK _ ?_;clear hK K) | (apply Exists.intro;refine ⟨fun _=>?_,hK _ ?_⟩;(first | fail);clear hK K))
 refine zOJ ⟨fun j hj=>match j,hj with | 0,_=>rfl | j+1,hj=>absurd hj (by omega),fun g W1 hb hg hne=>?_⟩
 obtain ⟨hf,kf⟩:=hg 0 (by omega)
 clear hg hne;clear ca0 ca1 ca2 ca3 ca4 ca5 ca6 ca7;clear cs0 cs1 cs2;replace hB:=hB.trans (hb.mono hB.size);replace ka:=ka.later hb;replace ks:=ks.later hb;replace hSz:=Nat.le_trans hSz hb.size;clear hb;simp only [zKA,List.range_succ,List.range_zero,List.nil_append,List.map_cons,List.map_nil,List.foldl_cons,List.foldl_nil,List.getD_cons_zero];generalize g 0=gf at *;replace kf:Bk W1 gf #[(2:Int),c,.string s,d,y0,y1,y2,y3,y4,y5,y6,y7] 111:=kf;clear d0 d1 d2 d3 d4 d5 d6 d7 d8 d9 d10 d11;obtain ⟨ca0,ca1,ca2,ca3,ca4,ca5,ca6,ca7⟩:=ka.c8;obtain ⟨cf0,cf1,cf2,cf3,cf4,cf5,cf6,cf7,cf8,cf9,cf10,cf11⟩:=kf.c12;clear kf ka ks;go_wp2_with fail;refine (hmk.out _ hB).mono ?_;rintro e w2 hg;have Hg:=Bx.mk (hg.since hB);obtain ⟨-,-,(⟨hf,rfl,hs⟩ | ⟨hf,rfl,us,hs⟩)⟩:=hg
 all_goals
  clear hf hs;go_wp2_with fail
  go_ret2
  exact Hg.out
theorem zFd (w:World) (Far:Nat→Prop) (ts ts':List Tr) (t:Tr) (sb g n cap mb i:Nat) (most c d dd x1 x2 x3 x4 x5 x6 x7 y0 y1 y2 y3 y4 y5 y6 y7:Int) (s:ByteArray) (hi:i<n) (_hn:n≤1000000000000)
 (ks:Bk w sb #[most,.slice (some ⟨g,0,none⟩) n cap,.map (some mb)] 102) (hc:Bx (∀ j u,j<12→(#[(3:Int),c,.string s,d,y0,y1,y2,y3,y4,y5,y6,y7]:Array Value).toList[j]? = some u→w.cell? ⟨g,i * 12+j,none⟩=some u))
 (hmk:Bx (∀ W,Below w.heap.size w W→Calls Tryz.prog 74 #[.pointer (some ⟨sb,0,none⟩),.agg #[(3:Int),(0:Int),.string ByteArray.empty,dd,(i:Int),x1,x2,x3,x4,x5,x6,x7]] W (Grew Far sb most ts ts' t W))) :
 Calls Tryz.prog 70 #[.pointer (some ⟨sb,0,none⟩),dd,.agg #[(i:Int),x1,x2,x3,x4,x5,x6,x7]] w (Grew Far sb most ts ts' t w):=by
 go_enter Tryz.func70,Tryz.ntmps70;go_wp2_with fail;generalize hW:World.alloc w _=W;have hSz:=sz1 hW;have hB:=bl1 hW;have ka:Bk W (w.heap.size) #[(i:Int),x1,x2,x3,x4,x5,x6,x7] 54:=bk0 hW;clear hW;replace ks:=ks.later hB;have b1:(0:Int)≤(i:Int):=by omega
 have b2:(i:Int)<(n:Int):=by omega
 have d0 : ∀ dk osk,(grow (redrawn W dk) osk).cell? ⟨g,i * 12,none⟩=some (.int .i64 3):=cell_regrown (cell_later hB (hc.out 0 _ (by omega) rfl))
 have d1 : ∀ dk osk,(grow (redrawn W dk) osk).cell? ⟨g,i * 12+1,none⟩=some (.int .i64 c):=cell_regrown (cell_later hB (hc.out 1 _ (by omega) rfl))
 have d2 : ∀ dk osk,(grow (redrawn W dk) osk).cell? ⟨g,i * 12+2,none⟩=some (.string s):=cell_regrown (cell_later hB (hc.out 2 _ (by omega) rfl))
 have d3 : ∀ dk osk,(grow (redrawn W dk) osk).cell? ⟨g,i * 12+3,none⟩=some (.int .i64 d):=cell_regrown (cell_later hB (hc.out 3 _ (by omega) rfl))
 have d4 : ∀ dk osk,(grow (redrawn W dk) osk).cell? ⟨g,i * 12+4,none⟩=some (.int .i64 y0):=cell_regrown (cell_later hB (hc.out 4 _ (by omega) rfl))
 have d5 : ∀ dk osk,(grow (redrawn W dk) osk).cell? ⟨g,i * 12+5,none⟩=some (.int .i64 y1):=cell_regrown (cell_later hB (hc.out 5 _ (by omega) rfl))
 have d6 : ∀ dk osk,(grow (redrawn W dk) osk).cell? ⟨g,i * 12+6,none⟩=some (.int .i64 y2):=cell_regrown (cell_later hB (hc.out 6 _ (by omega) rfl))
 have d7 : ∀ dk osk,(grow (redrawn W dk) osk).cell? ⟨g,i * 12+7,none⟩=some (.int .i64 y3):=cell_regrown (cell_later hB (hc.out 7 _ (by omega) rfl))
 have d8 : ∀ dk osk,(grow (redrawn W dk) osk).cell? ⟨g,i * 12+8,none⟩=some (.int .i64 y4):=cell_regrown (cell_later hB (hc.out 8 _ (by omega) rfl))
 have d9 : ∀ dk osk,(grow (redrawn W dk) osk).cell? ⟨g,i * 12+9,none⟩=some (.int .i64 y5):=cell_regrown (cell_later hB (hc.out 9 _ (by omega) rfl))
 have d10 : ∀ dk osk,(grow (redrawn W dk) osk).cell? ⟨g,i * 12+10,none⟩=some (.int .i64 y6):=cell_regrown (cell_later hB (hc.out 10 _ (by omega) rfl))
 have d11 : ∀ dk osk,(grow (redrawn W dk) osk).cell? ⟨g,i * 12+11,none⟩=some (.int .i64 y7):=cell_regrown (cell_later hB (hc.out 11 _ (by omega) rfl))
 obtain ⟨ca0,ca1,ca2,ca3,ca4,ca5,ca6,ca7⟩:=ka.r8;obtain ⟨cs0,cs1,cs2⟩:=ks.r3;refine zAK 8 1 (fun j=>[8].getD j 0) (fun j=>[16].getD j 0) (fun j=>[111].getD j 0) (fun _=>#[.int .i64 0,.int .i64 0,.string ByteArray.empty,.int .i64 0,.int .i64 0,.int .i64 0,.int .i64 0,.int .i64 0,.int .i64 0,.int .i64 0,.int .i64 0,.int .i64 0]) (fun j=>[#[.int .i64 3,.int .i64 c,.string s,.int .i64 d,.int .i64 y0,.int .i64 y1,.int .i64 y2,.int .i64 y3,.int .i64 y4,.int .i64 y5,.int .i64 y6,.int .i64 y7]].getD j #[]) (by kernel_rfl) (by kernel_rfl) ⟨fun j hj=>?_,fun j hj=>?_⟩ 50 (by kernel_rfl) (by rfl) ?_
 · match j,hj with
   | 0,_=>exact ⟨_,rfl,rfl,rfl,zBD _ rfl⟩
   | j+1,hj=>omega
 · match j,hj with
   | 0,_=>exact ⟨_,rfl,rfl,rfl,fun ρ w g h1 h2 hb=>zMg _ 8 16 rfl _ _ _ _ _ _ _ _ _ _ _ _ _ _ _ _ _ _ _ _ _ _ _ _ ρ w g h1 h2 hb⟩
   | j+1,hj=>omega
 simp only [List.take_succ_cons,List.take_zero]
 repeat (refine zAE (fun K hK=>?_);go_simp;first | (refine hK _ ?_;clear hK K) | (apply Exists.intro;refine ⟨fun _=>?_,hK _ ?_⟩;(first | fail);clear hK K))
 refine zOJ ⟨fun j hj=>match j,hj with | 0,_=>rfl | j+1,hj=>absurd hj (by omega),fun g W1 hb hg hne=>?_⟩
 obtain ⟨hf,kf⟩:=hg 0 (by omega)
 clear hg hne;clear ca0 ca1 ca2 ca3 ca4 ca5 ca6 ca7;clear cs0 cs1 cs2;replace hB:=hB.trans (hb.mono hB.size);replace ka:=ka.later hb;replace ks:=ks.later hb;replace hSz:=Nat.le_trans hSz hb.size;clear hb;simp only [zKA,List.range_succ,List.range_zero,List.nil_append,List.map_cons,List.map_nil,List.foldl_cons,List.foldl_nil,List.getD_cons_zero];generalize g 0=gf at *;replace kf:Bk W1 gf #[(3:Int),c,.string s,d,y0,y1,y2,y3,y4,y5,y6,y7] 111:=kf;clear d0 d1 d2 d3 d4 d5 d6 d7 d8 d9 d10 d11;obtain ⟨ca0,ca1,ca2,ca3,ca4,ca5,ca6,ca7⟩:=ka.c8;obtain ⟨cf0,cf1,cf2,cf3,cf4,cf5,cf6,cf7,cf8,cf9,cf10,cf11⟩:=kf.c12;clear kf ka ks;go_wp2_with fail;refine (hmk.out _ hB).mono ?_;rintro e w2 hg;have Hg:=Bx.mk (hg.since hB);obtain ⟨-,-,(⟨hf,rfl,hs⟩ | ⟨hf,rfl,us,hs⟩)⟩:=hg
 all_goals
  clear hf hs;go_wp2_with fail
  go_ret2
  exact Hg.out
theorem zAp {ch:Fin 8→Tr} {ts:List Tr} (h : ∀ i,ch i∈ts):Tr.addK ch 8 ts=ts:=Tr.addK_ind (P:=fun a=>a=ts) (fun i a ha=>by subst ha;exact Tr.add_same _ _ (h i)) 8 (Nat.le_refl _) ts rfl
theorem Good.inner {ts:List Tr} (hG:Good ts) {ch:Fin 8→Tr} (hch : ∀ i,ch i∈ts) {d:Nat} (hd:d≤255):Good (Tr.add (Tr.mkInner d ch) ts):=by
 rw [Tr.inner_add hG.closed,zAp hch];split
 · exact hG
 · exact hG.ins (fun d' ch' h i=>by injection h with h1 h2;subst h2;exact hch i) (Bytes.node hd ch)
theorem zFa (w:World) (Far:Nat→Prop) (sb:Nat) (most:Int) (ts:List Tr) (d:Nat) (hd:d≤255) (ch:Fin 8→Tr) (hch : ∀ i,ch i∈ts) (hG:Good ts) (hlen:ts.length≤1000000000000) (hFar : ∀ k,Far k→k<w.heap.size) (hS:StoreIs w Far sb most ts) :
 Calls Tryz.prog 70 #[.pointer (some ⟨sb,0,none⟩),(d:Int),.agg #[(idT ts (ch 0):Int),(idT ts (ch 1):Int),(idT ts (ch 2):Int),(idT ts (ch 3):Int),(idT ts (ch 4):Int),(idT ts (ch 5):Int),(idT ts (ch 6):Int),(idT ts (ch 7):Int)]] w (Grew Far sb most ts (Tr.add (Tr.mkInner d ch) ts) (Tr.mkInner d ch) w):=by
 have hadd:=Tr.inner_add (d:=d) (ch:=ch) hG.closed;rw [zAp hch] at hadd;by_cases hc:(∃ c,ch 0 = .uni c) ∧ ∀ i,ch i=ch 0
 · have hm:Tr.mkInner d ch=ch 0:=if_pos hc;rw [if_pos ⟨hm,hc.1⟩,hm] at hadd;rw [hm,hadd];obtain ⟨⟨c,hu⟩,hall⟩:=hc;obtain ⟨g,cap,mb,h1,hlt,h2⟩:=Bx.node hS (hch 0) (k:=1) (by rw [hu];rfl)
   rw [hall 1,hall 2,hall 3,hall 4,hall 5,hall 6,hall 7];refine (zFg w sb g ts.length cap mb _ most _ _ _ _ _ _ _ _ _ _ _ _ hlt hlen h1 h2).mono ?_;rintro e w' ⟨rfl,hb⟩;exact ⟨Keeps.below hb,hb.size,.inl ⟨.inl rfl,rfl,hS.later hb⟩⟩
 · have hm:Tr.mkInner d ch = .node d ch:=if_neg hc;rw [if_neg (fun h=>by rw [hm] at h;obtain ⟨h1,c,h2⟩:=h;rw [h2] at h1;cases h1),hm] at hadd
   rw [hm,hadd]
   have hmk:Bx (∀ W,Below w.heap.size w W→Calls Tryz.prog 74 #[.pointer (some ⟨sb,0,none⟩),.agg #[(3:Int),(0:Int),.string ByteArray.empty,(d:Int),(idT ts (ch 0):Int),(idT ts (ch 1):Int),(idT ts (ch 2):Int),(idT ts (ch 3):Int),(idT ts (ch 4):Int),(idT ts (ch 5):Int),(idT ts (ch 6):Int),(idT ts (ch 7):Int)]] W (Grew Far sb most ts (Tr.ins (.node d ch) ts) (.node d ch) W)):=⟨fun W hb=>by
    refine zHd W Far sb most ts (.node d ch) 3 0 (d:Int) (idT ts (ch 0):Int) (idT ts (ch 1):Int) (idT ts (ch 2):Int) (idT ts (ch 3):Int) (idT ts (ch 4):Int) (idT ts (ch 5):Int) (idT ts (ch 6):Int) (idT ts (ch 7):Int) _ rfl hG (fun d' ch' h i=>by injection h with h1 h2;subst h2;exact hch i) (Bytes.node hd ch) hlen (fun k hk=>Nat.lt_of_lt_of_le (hFar k hk) hb.size) (zFz _ _ _ _ _ _ _ _ _ _ _ _ (by simp [maxLen]) ?_) (hS.later hb)
    have hi:=fun i=>zFD (hch i);have i0:=hi 0;have i1:=hi 1;have i2:=hi 2;have i3:=hi 3;have i4:=hi 4;have i5:=hi 5;have i6:=hi 6;have i7:=hi 7;intro y hy;simp only [List.mem_cons,List.not_mem_nil,or_false] at hy;rcases hy with rfl | rfl | rfl | rfl | rfl | rfl | rfl | rfl | rfl | rfl | rfl <;> exact WalkArith.wf_i64 (by omega)⟩
   have hform:=zIP ts (ch 0);cases hu:ch 0 with
   | uni c =>
     have hne : ¬ [(idT ts (ch 0):Int),(idT ts (ch 1):Int),(idT ts (ch 2):Int),(idT ts (ch 3):Int),(idT ts (ch 4):Int),(idT ts (ch 5):Int),(idT ts (ch 6):Int),(idT ts (ch 7):Int)]=[(idT ts (ch 0):Int),(idT ts (ch 0):Int),(idT ts (ch 0):Int),(idT ts (ch 0):Int),(idT ts (ch 0):Int),(idT ts (ch 0):Int),(idT ts (ch 0):Int),(idT ts (ch 0):Int)]:=fun h=>by
      simp only [List.cons.injEq,and_true,true_and,Int.natCast_inj] at h;refine hc ⟨⟨c,hu⟩,fin8 (P:=fun i=>ch i=ch 0) rfl ?_ ?_ ?_ ?_ ?_ ?_ ?_⟩
      · exact zU (hch _) (hch _) h.1
      · exact zU (hch _) (hch _) h.2.1
      · exact zU (hch _) (hch _) h.2.2.1
      · exact zU (hch _) (hch _) h.2.2.2.1
      · exact zU (hch _) (hch _) h.2.2.2.2.1
      · exact zU (hch _) (hch _) h.2.2.2.2.2.1
      · exact zU (hch _) (hch _) h.2.2.2.2.2.2
     obtain ⟨c',s,d',y0,y1,y2,y3,y4,y5,y6,y7,hV⟩:=hform;rw [show zF9 (ch 0)=1 by rw [hu];rfl] at hV
     obtain ⟨g,cap,mb,h1,hlt,hc⟩:=Bx.node hS (hch 0) hV;rw [←hu];exact zFb w Far ts _ _ sb g ts.length cap mb (idT ts (ch 0)) most _ _ (d:Int) (idT ts (ch 1)) (idT ts (ch 2)) (idT ts (ch 3)) (idT ts (ch 4)) (idT ts (ch 5)) (idT ts (ch 6)) (idT ts (ch 7)) _ _ _ _ _ _ _ _ _ hlt hlen hne h1 hc hmk
   | brick l =>
     obtain ⟨c',s,d',y0,y1,y2,y3,y4,y5,y6,y7,hV⟩:=hform;rw [show zF9 (ch 0)=2 by rw [hu];rfl] at hV
     obtain ⟨g,cap,mb,h1,hlt,hc⟩:=Bx.node hS (hch 0) hV;rw [←hu];exact zFc w Far ts _ _ sb g ts.length cap mb (idT ts (ch 0)) most _ _ (d:Int) (idT ts (ch 1)) (idT ts (ch 2)) (idT ts (ch 3)) (idT ts (ch 4)) (idT ts (ch 5)) (idT ts (ch 6)) (idT ts (ch 7)) _ _ _ _ _ _ _ _ _ hlt hlen h1 hc hmk
   | node d2 ch2 =>
     obtain ⟨c',s,d',y0,y1,y2,y3,y4,y5,y6,y7,hV⟩:=hform;rw [show zF9 (ch 0)=3 by rw [hu];rfl] at hV
     obtain ⟨g,cap,mb,h1,hlt,hc⟩:=Bx.node hS (hch 0) hV;rw [←hu];exact zFd w Far ts _ _ sb g ts.length cap mb (idT ts (ch 0)) most _ _ (d:Int) (idT ts (ch 1)) (idT ts (ch 2)) (idT ts (ch 3)) (idT ts (ch 4)) (idT ts (ch 5)) (idT ts (ch 6)) (idT ts (ch 7)) _ _ _ _ _ _ _ _ _ hlt hlen h1 hc hmk
end Go.Proofs.YtgnfgblkpnfcnaaGreatDoor
end
