/- Pnt, DecP, MakeN: joined by program, for one claim. -/
import Derived.Test.YtgnfgblkpnfcnaaGreatDoorM4
import Derived.Deep.RegionHeld3
import Derived.Deep.DrawnRows
import Derived.Deep.AppendLies
set_option maxHeartbeats 2000000
set_option maxRecDepth 100000
set_option linter.unusedVariables false
set_option linter.unusedSimpArgs false
namespace Go.Proofs.YtgnfgblkpnfcnaaGreatDoor
section
open Go.RowKit Go.Sort
theorem zAq (px py pz qx qy qz:Int) (w:World) :
 Calls Tryz.prog 133 #[.agg #[px,py,pz],.agg #[qx,qy,qz]] w fun e w'=>e = .returned (.agg #[.int .i64 (wrap64 (px+qx)),.int .i64 (wrap64 (py+qy)),.int .i64 (wrap64 (pz+qz))])∧Below w.heap.size w w':=by
 go_enter Tryz.func133,Tryz.ntmps133;go_wp2;generalize hW:World.alloc (World.alloc (World.alloc w _) _) _=W;have hSz:=sz3 hW;have hB:=bl3 hW;have kp:Bk W (w.heap.size) #[px,py,pz] 23:=bk2 hW;have kq:Bk W (w.heap.size+1) #[qx,qy,qz] 23:=bk1 hW;have kr:Bk W (w.heap.size+1+1) #[.int .i64 (wrap64 (px+qx)),.int .i64 (wrap64 (py+qy)),.int .i64 (wrap64 (pz+qz))] 23:=bk0 hW;clear hW;exact bodyPost_ret (v:=.agg #[.int .i64 (wrap64 (px+qx)),.int .i64 (wrap64 (py+qy)),.int .i64 (wrap64 (pz+qz))]) (results_cell_row rfl _ _ _ 23 #[.int .i64 (wrap64 (px+qx)),.int .i64 (wrap64 (py+qy)),.int .i64 (wrap64 (pz+qz))] (0,0) _ rfl kr Tryz.underlying23 rfl (by kernel_rfl)) rfl ⟨rfl,hB⟩
theorem zLv (px py pz n:Int) (w:World) :
 Calls Tryz.prog 182 #[.agg #[px,py,pz],n] w fun e w'=>e = .returned (.agg #[.int .i64 (wrap64 (n * px)),.int .i64 (wrap64 (n * py)),.int .i64 (wrap64 (n * pz))])∧Below w.heap.size w w':=by
 go_enter Tryz.func182,Tryz.ntmps182;go_wp2;generalize hW:World.alloc (World.alloc w _) _=W;have hSz:=sz2 hW;have hB:=bl2 hW;have kp:Bk W (w.heap.size) #[px,py,pz] 23:=bk1 hW;have kr:Bk W (w.heap.size+1) #[.int .i64 (wrap64 (n * px)),.int .i64 (wrap64 (n * py)),.int .i64 (wrap64 (n * pz))] 23:=bk0 hW;clear hW;exact bodyPost_ret (v:=.agg #[.int .i64 (wrap64 (n * px)),.int .i64 (wrap64 (n * py)),.int .i64 (wrap64 (n * pz))]) (results_cell_row rfl _ _ _ 23 #[.int .i64 (wrap64 (n * px)),.int .i64 (wrap64 (n * py)),.int .i64 (wrap64 (n * pz))] (0,0) _ rfl kr Tryz.underlying23 rfl (by kernel_rfl)) rfl ⟨rfl,hB⟩
theorem zFM (px py pz a b c d e f:Int) (w:World) :
 Calls Tryz.prog 115 #[.agg #[px,py,pz],.agg #[a,b,c,d,e,f]] w fun e' w'=>e' = .returned (.bool (inB ⟨px,py,pz⟩ ⟨⟨a,b,c⟩,⟨d,e,f⟩⟩))∧Below w.heap.size w w':=by
 go_enter Tryz.func115,Tryz.ntmps115;go_wp2
 all_goals
  go_ret;exact ⟨zr (by rw [Bool.eq_iff_iff];simp [inB];omega),((Below.refl _ _).alloc (Nat.le_refl _) _).alloc (by simp) _⟩
theorem zP (a b c d e f:Int) (w:World) :
 Calls Tryz.prog 79 #[.agg #[a,b,c,d,e,f]] w fun e' w'=>e' = .returned (.bool (zN ⟨⟨a,b,c⟩,⟨d,e,f⟩⟩))∧Below w.heap.size w w':=by
 go_enter Tryz.func79,Tryz.ntmps79;go_wp2_with (go_at_call 115;refine (zFM _ _ _ _ _ _ _ _ _ _).mono ?_;rintro e' w1 ⟨rfl,hb⟩);go_ret;exact ⟨rfl,((Below.refl _ _).alloc (Nat.le_refl _) _).trans (hb.mono (by simp))⟩
theorem zDE (n:Int) (w:World) :
 Calls Tryz.prog 116 #[n] w fun e w'=>e = .returned (.agg #[(0:Int),(0:Int),(0:Int),n,n,n])∧Below w.heap.size w w':=by
 go_enter Tryz.func116,Tryz.ntmps116;go_wp2;generalize hW:World.alloc w _=W;have hSz:=sz1 hW;have hB:=bl1 hW;have kr:Bk W (w.heap.size) #[(0:Int),(0:Int),(0:Int),n,n,n] 25:=bk0 hW;clear hW;exact bodyPost_ret (v:=.agg #[(0:Int),(0:Int),(0:Int),n,n,n]) (results_cell_row rfl _ _ _ 25 #[(0:Int),(0:Int),(0:Int),n,n,n] (0,0) _ rfl kr Tryz.underlying25 rfl (by kernel_rfl)) rfl ⟨rfl,hB⟩
theorem zIB (qx qy qz:Int) (hqx : -9000000000000000000≤qx∧qx≤9000000000000000000) (hqy : -9000000000000000000≤qy∧qy≤9000000000000000000) (hqz : -9000000000000000000≤qz∧qz≤9000000000000000000) (w:World) :
 Calls Tryz.prog 182 #[.agg #[qx,qy,qz],.int .i64 (-1)] w fun e w'=>e = .returned (.agg #[.int .i64 (-qx),.int .i64 (-qy),.int .i64 (-qz)])∧Below w.heap.size w w':=by
 have h:=zLv qx qy qz (-1) w
 have key : ∀ q:Int,(-9000000000000000000≤q∧q≤9000000000000000000)→wrap64 (-1 * q) = -q:=fun q h=>by
  rw [show -1 * q = -q by omega];exact IntWalk.wrap64_in _ (by omega)
 rw [key qx hqx,key qy hqy,key qz hqz] at h;exact h
theorem zM0 (px py pz qx qy qz:Int) (hqx : -9000000000000000000≤qx∧qx≤9000000000000000000) (hqy : -9000000000000000000≤qy∧qy≤9000000000000000000) (hqz : -9000000000000000000≤qz∧qz≤9000000000000000000) (w:World) :
 Calls Tryz.prog 176 #[.agg #[px,py,pz],.agg #[qx,qy,qz]] w fun e w'=>e = .returned (.agg #[.int .i64 (wrap64 (px - qx)),.int .i64 (wrap64 (py - qy)),.int .i64 (wrap64 (pz - qz))])∧Below w.heap.size w w':=by
 have hn:=Bx.mk (zIB qx qy qz hqx hqy hqz);clear hqx hqy hqz;go_enter Tryz.func176,Tryz.ntmps176;go_wp2;generalize hW:World.alloc (World.alloc (World.alloc w _) _) _=W;have hSz:=sz3 hW;have hB:=bl3 hW;have kp:Bk W (w.heap.size) #[px,py,pz] 23:=bk2 hW;have kq:Bk W (w.heap.size+1) #[qx,qy,qz] 23:=bk1 hW;have kr:Bk W (w.heap.size+1+1) #[(0:Int),(0:Int),(0:Int)] 23:=bk0 hW;clear hW;obtain ⟨cp0,cp1,cp2⟩:=kp.r3;obtain ⟨cq0,cq1,cq2⟩:=kq.r3;have q0:=Bx.mk fun dk osk=>Calls.regrown_of (hn.out (grow (redrawn W dk) osk));have q1:=Bx.mk fun dk osk=>Calls.regrown_of (zAq px py pz (-qx) (-qy) (-qz) (grow (redrawn W dk) osk));refine zAM 4 (by kernel_rfl) (by kernel_rfl) ?_
 simp only [List.take_succ_cons,List.take_zero,List.drop_succ_cons,List.drop_zero]
 repeat (first | go_big_quiet_step ((first | with_reducible exact q0.out _ _ | with_reducible exact q1.out _ _)) | quiet_step (first | with_reducible exact q0.out _ _ | with_reducible exact q1.out _ _))
 refine wpQuiet_nil ?_;rintro _ ⟨⟨dq,osq⟩,rfl⟩;have hb:=below_regrown W dq osq;replace hB:=hB.trans (hb.mono hB.size);clear cp0 cp1 cp2;clear cq0 cq1 cq2;clear q0;clear q1;replace kp:=kp.later hb;replace kq:=kq.later hb;replace kr:=kr.later hb;replace hSz:=Nat.le_trans hSz hb.size;clear hb;generalize grow (redrawn W dq) osq=W1 at *;have cr0:=kr.cell 0 rfl;have fr0:=kr.frozen 0;have cr1:=kr.cell 1 rfl;have fr1:=kr.frozen 1;have cr2:=kr.cell 2 rfl;have fr2:=kr.frozen 2;go_wp2;replace kr:=kr.put3 (.int .i64 (wrap64 (px + -qx))) (.int .i64 (wrap64 (py + -qy))) (.int .i64 (wrap64 (pz + -qz)));exact bodyPost_ret (v:=.agg #[.int .i64 (wrap64 (px + -qx)),.int .i64 (wrap64 (py + -qy)),.int .i64 (wrap64 (pz + -qz))]) (results_cell_row rfl _ _ _ 23 #[.int .i64 (wrap64 (px + -qx)),.int .i64 (wrap64 (py + -qy)),.int .i64 (wrap64 (pz + -qz))] (0,0) _ rfl kr Tryz.underlying23 rfl (by kernel_rfl)) rfl ⟨rfl,zBh hB (by omega) _ _ _⟩
theorem zL3 (a b c d e f px py pz:Int) (w:World) :
 Calls Tryz.prog 127 #[.agg #[a,b,c,d,e,f],.agg #[px,py,pz]] w fun e' w'=>e' = .returned (.agg #[.int .i64 (wrap64 (a+px)),.int .i64 (wrap64 (b+py)),.int .i64 (wrap64 (c+pz)),.int .i64 (wrap64 (d+px)),.int .i64 (wrap64 (e+py)),.int .i64 (wrap64 (f+pz))])∧Below w.heap.size w w':=by
 go_enter Tryz.func127,Tryz.ntmps127;go_wp2;generalize hW:World.alloc (World.alloc (World.alloc w _) _) _=W;have hSz:=sz3 hW;have hB:=bl3 hW;have kb:Bk W (w.heap.size) #[a,b,c,d,e,f] 25:=bk2 hW;have kp:Bk W (w.heap.size+1) #[px,py,pz] 23:=bk1 hW;have kr:Bk W (w.heap.size+1+1) #[(0:Int),(0:Int),(0:Int),(0:Int),(0:Int),(0:Int)] 25:=bk0 hW;clear hW;obtain ⟨cb0,cb1,cb2,cb3,cb4,cb5⟩:=kb.r6;obtain ⟨cp0,cp1,cp2⟩:=kp.r3;have q0:=Bx.mk fun dk osk=>Calls.regrown_of (zAq a b c px py pz (grow (redrawn W dk) osk));have q1:=Bx.mk fun dk osk=>Calls.regrown_of (zAq d e f px py pz (grow (redrawn W dk) osk));refine zAM 9 (by kernel_rfl) (by kernel_rfl) ?_
 simp only [List.take_succ_cons,List.take_zero,List.drop_succ_cons,List.drop_zero]
 repeat (first | go_big_quiet_step ((first | with_reducible exact q0.out _ _ | with_reducible exact q1.out _ _)) | quiet_step (first | with_reducible exact q0.out _ _ | with_reducible exact q1.out _ _))
 refine wpQuiet_nil ?_;rintro _ ⟨⟨dq,osq⟩,rfl⟩;have hb:=below_regrown W dq osq;replace hB:=hB.trans (hb.mono hB.size);clear cb0 cb1 cb2 cb3 cb4 cb5;clear cp0 cp1 cp2;clear q0;clear q1;replace kb:=kb.later hb;replace kp:=kp.later hb;replace kr:=kr.later hb;replace hSz:=Nat.le_trans hSz hb.size;clear hb;generalize grow (redrawn W dq) osq=W1 at *;have cr0:=kr.cell 0 rfl;have fr0:=kr.frozen 0;have cr1:=kr.cell 1 rfl;have fr1:=kr.frozen 1;have cr2:=kr.cell 2 rfl;have fr2:=kr.frozen 2;have cr3:=kr.cell 3 rfl;have fr3:=kr.frozen 3;have cr4:=kr.cell 4 rfl;have fr4:=kr.frozen 4;have cr5:=kr.cell 5 rfl;have fr5:=kr.frozen 5;go_wp2;replace kr:=kr.put6 (.int .i64 (wrap64 (a+px))) (.int .i64 (wrap64 (b+py))) (.int .i64 (wrap64 (c+pz))) (.int .i64 (wrap64 (d+px))) (.int .i64 (wrap64 (e+py))) (.int .i64 (wrap64 (f+pz)));exact bodyPost_ret (v:=.agg #[.int .i64 (wrap64 (a+px)),.int .i64 (wrap64 (b+py)),.int .i64 (wrap64 (c+pz)),.int .i64 (wrap64 (d+px)),.int .i64 (wrap64 (e+py)),.int .i64 (wrap64 (f+pz))]) (results_cell_row rfl _ _ _ 25 #[.int .i64 (wrap64 (a+px)),.int .i64 (wrap64 (b+py)),.int .i64 (wrap64 (c+pz)),.int .i64 (wrap64 (d+px)),.int .i64 (wrap64 (e+py)),.int .i64 (wrap64 (f+pz))] (0,0) _ rfl kr Tryz.underlying25 rfl (by kernel_rfl)) rfl ⟨rfl,zBi hB (by omega) _ _ _ _ _ _⟩
theorem zR {w w':World} {g:Nat} (h:w.grownBy w' (some g)) (j:Nat) (v:Value):w.grownBy (w'.setCell ⟨g,j,none⟩ v) (some g) :=
 ⟨h.os,h.tape,h.output,by rw [zMD];exact h.size,fun k hk hne=>by
  rw [heap_setCell_other w' _ k v (fun e=>hne (by rw [e]))]
  exact h.block k hk hne⟩
theorem zBE (o:Oper) (h:o.op = .alloc 23) (ρ:Operand→Value) (w:World) :
 (execOp ρ o).run Tryz.prog w = .ok (.value (.pointer (some ⟨w.heap.size,0,none⟩))) (w.alloc (.cells #[(0:Int),(0:Int),(0:Int)] 23)):=by
 unfold execOp;simp only [h];go_simp
theorem zMh (o:Oper) (s u:Tmp) (h:o.op = .store 23 (.tmp s) (.tmp u)) (x0 x1 x2:Value) (a b c:Int) (ρ:Operand→Value) (w:World) (g:Nat) (h1:ρ (.tmp s) = .pointer (some ⟨g,0,none⟩))
 (h2:ρ (.tmp u) = .agg #[a,b,c]) (hb:Bk w g #[x0,x1,x2] 23) :
 ∃ w',(execOp ρ o).run Tryz.prog w = .ok .skip w'∧Bk w' g #[a,b,c] 23∧w.grownBy w' (some g)∧w'.heap.size=w.heap.size:=by
 obtain ⟨c0,c1,c2⟩:=hb.c3;obtain ⟨f0,f1,f2⟩:=hb.f3;refine ⟨_,?_,hb.put3 _ _ _,zR (zR (zR (World.grownBy.refl w _) _ _) _ _) _ _,by simp⟩
 unfold execOp;simp only [h];go_simp
theorem zBF (o:Oper) (h:o.op = .alloc 93) (ρ:Operand→Value) (w:World) :
 (execOp ρ o).run Tryz.prog w = .ok (.value (.pointer (some ⟨w.heap.size,0,none⟩))) (w.alloc (.cells #[(0:Int),(0:Int),(0:Int)] 93)):=by
 unfold execOp;simp only [h];go_simp
theorem zMi (o:Oper) (s u:Tmp) (h:o.op = .store 93 (.tmp s) (.tmp u)) (x0 x1 x2:Value) (a b c:Int) (ρ:Operand→Value) (w:World) (g:Nat) (h1:ρ (.tmp s) = .pointer (some ⟨g,0,none⟩))
 (h2:ρ (.tmp u) = .agg #[a,b,c]) (hb:Bk w g #[x0,x1,x2] 93) :
 ∃ w',(execOp ρ o).run Tryz.prog w = .ok .skip w'∧Bk w' g #[a,b,c] 93∧w.grownBy w' (some g)∧w'.heap.size=w.heap.size:=by
 obtain ⟨c0,c1,c2⟩:=hb.c3;obtain ⟨f0,f1,f2⟩:=hb.f3;refine ⟨_,?_,hb.put3 _ _ _,zR (zR (zR (World.grownBy.refl w _) _ _) _ _) _ _,by simp⟩
 unfold execOp;simp only [h];go_simp
end
section
open Go.RowKit Go.Sort Go.Maps
open Oct
attribute [local go_sem ↓] Go.wp_at_zero Go.wp_at_succ
theorem zIK:(Tryz.prog.info? 111).map (fun i=>(i.zero,i.size,i.bytes))=some (some (.agg #[(0:Int),(0:Int),.string ByteArray.empty,(0:Int),(0:Int),(0:Int),(0:Int),(0:Int),(0:Int),(0:Int),(0:Int),(0:Int)]),12,104):=by kernel_rfl
theorem Bk.grownO {w w':World} {b:Nat} {vs:Array Value} {t:TypeId} {row:Option Nat} (h:Bk w b vs t) (hg:w.grownBy w' row) (hne:row ≠ some b):Bk w' b vs t:=(hg.block b h.lt (fun e=>hne e.symm)).trans h
theorem Keeps.set {Far:Nat→Prop} {a b:World} (h:Keeps Far a b) (p:Addr) (v:Value) (hp : ¬Far p.block):Keeps Far a (b.setCell p v) :=
 h.trans ⟨rfl,rfl,rfl,by simp [World.setCell],fun k hk _=>heap_setCell_other b p k v (fun e=>hp (e ▸ hk))⟩
theorem zB (W:World) (o:Obj):Below W.heap.size W (W.alloc o):=(Below.refl _ _).alloc (Nat.le_refl _) _
theorem zS (w:World) (p:Addr) (v:Value):w.grownBy (w.setCell p v) (some p.block) :=
 ⟨rfl,rfl,rfl,by simp [World.setCell],fun k _ hne=>heap_setCell_other w p k v (fun e=>hne (by rw [e]))⟩
structure Places (Far:Nat→Prop) (sb mb:Nat) (nv:Value):Prop where
 fs : ¬Far sb
 fm : ¬Far mb
 fn : ∀ g,nv.ownBlock=some g → ¬Far g
 apart:sb ≠ mb
 ns:nv.ownBlock ≠ some sb
 nm:nv.ownBlock ≠ some mb
theorem StoreIs.parts {w:World} {Far:Nat→Prop} {sb:Nat} {most:Int} {ts:List Tr} (h:StoreIs w Far sb most ts) :
 ∃ mb nv,Bk w sb #[most,nv,.map (some mb)] 102∧w.ownsRow 0 111 12 nv ts.length (zLX ts)∧MapFn w mb ts.length (zFq ts)∧Places Far sb mb nv:=by
 obtain ⟨mb,nv,h1,h2,h3,g1,g2,g3,g4,g5,g6⟩:=h;exact ⟨mb,nv,h1,h2,h3,g1,g2,g3,g4,g5,g6⟩
theorem StoreIs.of {w:World} {Far:Nat→Prop} {sb mb:Nat} {nv:Value} {most:Int} {ts:List Tr} (h1:Bk w sb #[most,nv,.map (some mb)] 102) (h2:w.ownsRow 0 111 12 nv ts.length (zLX ts))
 (h3:MapFn w mb ts.length (zFq ts)) (g:Places Far sb mb nv):StoreIs w Far sb most ts:=⟨mb,nv,h1,h2,h3,g.fs,g.fm,g.fn,g.apart,g.ns,g.nm⟩
theorem zMd {w W1 w1:World} {Far:Nat→Prop} {sb mb n1 n2 n3:Nat} {nv v1:Value} {F:Value→Option Int} {row xs:List Value} (hB:w.grownBy W1 none) (hFar : ∀ k,Far k→k<w.heap.size) (_hrow:w.ownsRow 0 111 12 nv n1 row)
 (hmap:MapFn w mb n2 F) (G:Places Far sb mb nv) (hsb:sb<w.heap.size) (hown:w1.ownsRow 0 111 12 v1 n3 xs) (hg:W1.grownBy w1 nv.ownBlock) (hat:v1.ownBlock=nv.ownBlock∨v1.ownBlock=some W1.heap.size) :
 (w1.setCell ⟨sb,1,none⟩ v1).ownsRow 0 111 12 v1 n3 xs∧MapFn (w1.setCell ⟨sb,1,none⟩ v1) mb n2 F∧Keeps Far w (w1.setCell ⟨sb,1,none⟩ v1)∧Places Far sb mb v1:=by
 have hmb:=hmap.lt;have hle:=hB.size
 have P:Places Far sb mb v1:=by
  rcases hat with e | e
  · exact ⟨G.fs,G.fm,by rw [e];exact G.fn,G.apart,by rw [e];exact G.ns,by rw [e];exact G.nm⟩
  · refine ⟨G.fs,G.fm,fun g hg h=>?_,G.apart,?_,?_⟩
    · rw [e] at hg;have:=hFar g h;simp at hg;omega
    · rw [e];simp;omega
    · rw [e];simp;omega
 have hs:=zS w1 ⟨sb,1,none⟩ v1;refine ⟨World.ownsRow.kept hown hs (.inr P.ns),((hmap.kept hB (by simp)).kept hg (fun e=>G.nm e.symm)).kept hs (by simp only [ne_eq,Option.some.injEq];exact fun e=>G.apart e.symm),?_,P⟩
 refine ((Keeps.grown (Far:=Far) hB (by simp)).trans ?_).trans (Keeps.grown hs (fun g e=>by simp only [Option.some.injEq] at e;rw [←e];exact G.fs))
 exact Keeps.grown hg G.fn
theorem zMf {w W4 W5:World} {Far:Nat→Prop} {sb mb n':Nat} {most:Int} {v1:Value} {F:Value→Option Int} {ts':List Tr} {xs:List Value} (ks:Bk W4 sb #[most,v1,.map (some mb)] 102) (hown:W4.ownsRow 0 111 12 v1 n' xs)
 (hK:Keeps Far w W4) (G:Places Far sb mb v1) (hg:W4.grownBy W5 (some mb)) (hm:MapFn W5 mb n' F) (hn:n'=ts'.length) (hx:xs=zLX ts') (hF : ∀ v,F v=zFq ts' v):StoreIs W5 Far sb most ts'∧Keeps Far w W5:=by
 subst hn hx;refine ⟨StoreIs.of (ks.grownO hg (by simpa using fun e=>G.apart e.symm)) (World.ownsRow.kept hown hg (.inr G.nm)) (hm.congr fun key _ _=>hF key) G,hK.trans (Keeps.grown hg fun g e=>by simp only [Option.some.injEq] at e;rw [←e];exact G.fm)⟩
theorem zHg (w:World) (Far:Nat→Prop) (sb:Nat) (most:Int) (ts:List Tr) (t:Tr) (k c d x0 x1 x2 x3 x4 x5 x6 x7:Int) (s:ByteArray) (hV:zh ts t=zII k c s d x0 x1 x2 x3 x4 x5 x6 x7) (hG:Good ts) (ht:t ∉ ts) (hle:Leans ts t) (hby:Bytes t) (hm:(ts.length:Int)<most) (hlen:ts.length≤1000000000000) (hFar : ∀ k,Far k→k<w.heap.size)
 (hk : ∃ kl,keyOf Tryz.prog 111 (zII k c s d x0 x1 x2 x3 x4 x5 x6 x7)=some kl) (hS:StoreIs w Far sb most ts) :
 Calls Tryz.prog 74 #[.pointer (some ⟨sb,0,none⟩),.agg #[k,c,.string s,d,x0,x1,x2,x3,x4,x5,x6,x7]] w fun e' w'=>e' = .returned (.tuple #[(ts.length:Int),(0:Int)])∧StoreIs w' Far sb most (ts++[t])∧Keeps Far w w':=by
 obtain ⟨mb,nv,ks,hrow,hmap,hP⟩:=hS.parts;obtain ⟨kl,hk⟩:=hk;obtain ⟨i0,hi0,hz0,hz1,hz2⟩:=info_parts zIK;obtain ⟨na,nc,rfl⟩:=zLc hrow;have hkf:=zFv hG ht hle hby;rw [hV] at hkf
 have hlook : ∀ W,Below w.heap.size w W→(Instr.lookup 100 (.map (some mb)) (.agg #[k,c,.string s,d,x0,x1,x2,x3,x4,x5,x6,x7]) true).run Tryz.prog W = .ok (.tuple #[(0:Int),.bool false]) W :=
  fun W hb=>((hmap.kept (row:=none) (zQ hb) (by simp)).look hk).2 hkf
 have Hl:=Bx.mk hlook;have Ks:=Bx.mk ks;have Hrow:=Bx.mk hrow;have Hmap:=Bx.mk hmap;have Hkf:=Bx.mk hkf;have Hk:=Bx.mk hk;have Radd:=Bx.mk (zLY hG hle);have Kadd:=Bx.mk (fun v=>zFr hG ht hle hby v);rw [hV] at Radd Kadd;have hsb:=ks.lt;have hmb:=hmap.lt;clear hmap hrow hlook hkf hk hV ks hG ht hle hby;have G:=Bx.mk hP;have HF:=Bx.mk hFar;clear hP hFar hS;have Hts:=Bx.mk (show ts.length+1=(ts++[t]).length by simp)
 generalize ts++[t]=ts' at *;generalize zLX ts=row at *;generalize zFq ts=F at *;generalize ts.length=nn at *;go_enter Tryz.func74,Tryz.ntmps74;go_wp2_with fail;generalize hW:World.alloc w _=W;have hSz:=sz1 hW;have hB:=bl1 hW;have kn:Bk W (w.heap.size) #[k,c,.string s,d,x0,x1,x2,x3,x4,x5,x6,x7] 111:=bk0 hW;clear hW;have ks:=Ks.out.later hB
 have hl2 : ∀ dk osk,(Instr.lookup 100 (.map (some mb)) (.agg #[k,c,.string s,d,x0,x1,x2,x3,x4,x5,x6,x7]) true).run Tryz.prog (grow (redrawn W dk) osk) = .ok (.tuple #[(0:Int),.bool false]) (grow (redrawn W dk) osk) :=
  fun dk osk=>Hl.out _ (hB.trans ((below_regrown W dk osk).mono hB.size))
 clear Hl Ks;obtain ⟨cn0,cn1,cn2,cn3,cn4,cn5,cn6,cn7⟩:=kn.r8;have cn8 : ∀ dk osk,(grow (redrawn W dk) osk).cell? ⟨w.heap.size,8,none⟩=some (.int .i64 x4):=cell_regrown (kn.cell 8 rfl);have cn9 : ∀ dk osk,(grow (redrawn W dk) osk).cell? ⟨w.heap.size,9,none⟩=some (.int .i64 x5):=cell_regrown (kn.cell 9 rfl);have cn10 : ∀ dk osk,(grow (redrawn W dk) osk).cell? ⟨w.heap.size,10,none⟩=some (.int .i64 x6):=cell_regrown (kn.cell 10 rfl);have cn11 : ∀ dk osk,(grow (redrawn W dk) osk).cell? ⟨w.heap.size,11,none⟩=some (.int .i64 x7):=cell_regrown (kn.cell 11 rfl);obtain ⟨cs0,cs1,cs2⟩:=ks.r3;refine wp_region_quiet_below (by kernel_rfl) (by kernel_rfl) ?_
 repeat (first | go_big_quiet_step ((fail)) | quiet_step (fail))
 refine wpQuiet_nil ?_;rintro _ ⟨⟨dq,osq⟩,rfl⟩;have hb:=below_regrown W dq osq;clear cn0 cn1 cn2 cn3 cn4 cn5 cn6 cn7 cn8 cn9 cn10 cn11;clear cs0 cs1 cs2;replace hB:=hB.trans (hb.mono hB.size);replace kn:=kn.later hb;replace ks:=ks.later hb;replace hSz:=Nat.le_trans hSz hb.size;clear hb;generalize grow (redrawn W dq) osq=W1 at *;clear hl2;go_wp2_with fail;obtain ⟨cs0,cs1,cs2⟩:=ks.r3;refine wp_region_quiet_below (by kernel_rfl) (by kernel_rfl) ?_
 repeat (first | go_big_quiet_step ((fail)) | quiet_step (fail))
 refine wpQuiet_nil ?_;rintro _ ⟨⟨dq,osq⟩,rfl⟩;have hb:=below_regrown W1 dq osq;clear cs0 cs1 cs2;replace hB:=hB.trans (hb.mono hB.size);replace kn:=kn.later hb;replace ks:=ks.later hb;replace hSz:=Nat.le_trans hSz hb.size;clear hb;generalize grow (redrawn W1 dq) osq=W2 at *;go_wp2_with fail;obtain ⟨cn0,cn1,cn2,cn3,cn4,cn5,cn6,cn7,cn8,cn9,cn10,cn11⟩:=kn.c12;obtain ⟨cs0,cs1,cs2⟩:=ks.c3;have fs1:=ks.frozen 1;have hrow2 : ∀ o,((W2.alloc o).drew).ownsRow 0 111 12 (.slice na nn nc) nn row:=fun o=>(World.ownsRow.alloc (World.ownsRow.kept Hrow.out (zQ hB) (by cases (Value.slice na nn nc).ownBlock <;> simp)) o).drew
 have hne1:(Value.slice na nn nc).ownBlock ≠ some sb:=G.out.ns;have hne2:(Value.slice na nn nc).ownBlock ≠ some w.heap.size:=fun e=>by have:=(World.ownsRow.lt Hrow.out _ e).2;omega
 have al1 : ∀ o,(W2.alloc o).cell? ⟨sb,1,none⟩=some (.slice na nn nc):=fun o=>(ks.alloc o).cell 1 rfl;have ks2:=Bx.mk ks;have kn2:=Bx.mk kn;replace hrow2:=Bx.mk hrow2;replace hne1:=Bx.mk hne1;replace hne2:=Bx.mk hne2;clear ks kn
 go_region_law
  ((refine zMZ (by rfl) _ _ 99 (by rfl) 0 111 i0 _ 12 104 Tryz.underlying99 hi0 hz0 hz1 hz2 rfl (by omega) (.slice na nn nc) nn row (by rfl) (hrow2.out _) ⟨W2.heap.size,0,none⟩ 1 1 [.int .i64 k,.int .i64 c,.string s,.int .i64 d,.int .i64 x0,.int .i64 x1,.int .i64 x2,.int .i64 x3,.int .i64 x4,.int .i64 x5,.int .i64 x6,.int .i64 x7] (by rfl) (by rfl) (World.news_of_block (cs:=#[k,c,.string s,d,x0,x1,x2,x3,x4,x5,x6,x7]) (t:=111) (fr:=(0,0)) (heap_alloc_new W2 _)) (by simp [Value.oneCell']) (by simp [maxLen];omega) (by omega) (Nat.zero_le _) ?_;intro v1 w1 hown1 hgrow hat;obtain ⟨va,vc,rfl⟩:=zLc hown1.out;have ks1:=Bk.grownO ((ks2.out.alloc _).drew) hgrow.out hne1.out;have kn1:=Bk.grownO ((kn2.out.alloc _).drew) hgrow.out hne2.out;have cs1':=ks1.cell 1 rfl;have fs1':=ks1.frozen 1;have cn0':=kn1.cell 0 rfl;have cn1':=kn1.cell 1 rfl;have cn2':=kn1.cell 2 rfl;have cn3':=kn1.cell 3 rfl;have cn4':=kn1.cell 4 rfl;have cn5':=kn1.cell 5 rfl;have cn6':=kn1.cell 6 rfl;have cn7':=kn1.cell 7 rfl;have cn8':=kn1.cell 8 rfl;have cn9':=kn1.cell 9 rfl;have cn10':=kn1.cell 10 rfl;have cn11':=kn1.cell 11 rfl))
 all_goals (clear al1 cn0 cn1 cn2 cn3 cn4 cn5 cn6 cn7 cn8 cn9 cn10 cn11 cs0 cs1 cs2 fs1)
 all_goals
  replace ks1:Bk (w1.setCell ⟨sb,1,none⟩ (.slice va (nn+1) vc)) sb #[most,.slice va (nn+1) vc,.map (some mb)] 102:=by simpa using ks1.set 1 (.slice va (nn+1) vc)
  replace kn1:=kn1.other ⟨sb,1,none⟩ (.slice va (nn+1) vc) (by simp only;omega)
  obtain ⟨hown3,hmap3,hK3,hP3⟩:=zMd (zQ (hB.trans ((zB W2 _).drew.mono hB.size))) HF.out Hrow.out Hmap.out G.out hsb hown1.out hgrow.out hat.out;replace hown3:=Bx.mk hown3;replace hmap3:=Bx.mk hmap3;replace hK3:=Bx.mk hK3;replace hP3:=Bx.mk hP3;clear hgrow hown1 hat fs1' cs1' cn0' cn1' cn2' cn3' cn4' cn5' cn6' cn7' cn8' cn9' cn10' cn11' ks2 kn2 hrow2 hne1 hne2;generalize w1.setCell ⟨sb,1,none⟩ (.slice va (nn+1) vc)=W3 at *;go_wp2_with fail;clear hB hSz;have hB:Below W3.heap.size W3 W3:=Below.refl _ _;have hSz:W3.heap.size≤W3.heap.size:=Nat.le_refl _;obtain ⟨cn0,cn1,cn2,cn3,cn4,cn5,cn6,cn7⟩:=kn1.r8;have cn8 : ∀ dk osk,(grow (redrawn W3 dk) osk).cell? ⟨w.heap.size,8,none⟩=some (.int .i64 x4):=cell_regrown (kn1.cell 8 rfl);have cn9 : ∀ dk osk,(grow (redrawn W3 dk) osk).cell? ⟨w.heap.size,9,none⟩=some (.int .i64 x5):=cell_regrown (kn1.cell 9 rfl);have cn10 : ∀ dk osk,(grow (redrawn W3 dk) osk).cell? ⟨w.heap.size,10,none⟩=some (.int .i64 x6):=cell_regrown (kn1.cell 10 rfl);have cn11 : ∀ dk osk,(grow (redrawn W3 dk) osk).cell? ⟨w.heap.size,11,none⟩=some (.int .i64 x7):=cell_regrown (kn1.cell 11 rfl);obtain ⟨cs0,cs1,cs2⟩:=ks1.r3;refine zAM 11 (by kernel_rfl) (by kernel_rfl) ?_
  simp only [List.take_succ_cons,List.take_zero,List.drop_succ_cons,List.drop_zero]
  repeat (first | go_big_quiet_step ((fail)) | quiet_step (fail))
  refine wpQuiet_nil ?_;rintro _ ⟨⟨dq,osq⟩,rfl⟩;have hb:=below_regrown W3 dq osq;replace hB:=hB.trans (hb.mono hB.size);clear cn0 cn1 cn2 cn3 cn4 cn5 cn6 cn7 cn8 cn9 cn10 cn11;clear cs0 cs1 cs2;replace kn1:=kn1.later hb;replace ks1:=ks1.later hb;replace hSz:=Nat.le_trans hSz hb.size;clear hb;generalize grow (redrawn W3 dq) osq=W4 at *;obtain ⟨W5,hrun,hm5,hg5⟩:=(hmap3.out.kept (row:=none) (zQ hB) (by simp)).put (by simp [maxLen];omega) Hk.out Hkf.out (nn:Int) (WalkArith.wf_i64 (by omega))
  obtain ⟨hS5,hK5⟩:=zMf (Far:=Far) ks1 (World.ownsRow.kept hown3.out (zQ hB) (by cases (Value.slice va (nn+1) vc).ownBlock <;> simp)) (hK3.out.trans (Keeps.below hB)) hP3.out hg5 hm5 Hts.out Radd.out.symm (fun v=>(Kadd.out v).symm)
  have HS5:=Bx.mk hS5;have HK5:=Bx.mk hK5;obtain ⟨p5,q5,k5,r5,-⟩:=hS5;obtain ⟨ra,rc,rfl⟩:=zLc r5;rw [←Hts.out] at k5;have c5:=k5.cell 1 rfl;clear hm5 hg5 hK5 r5 k5;unfold zII at hrun;go_wp2_with fail
  go_ret2
  exact ⟨rfl,HS5.out,HK5.out⟩
end
end Go.Proofs.YtgnfgblkpnfcnaaGreatDoor
