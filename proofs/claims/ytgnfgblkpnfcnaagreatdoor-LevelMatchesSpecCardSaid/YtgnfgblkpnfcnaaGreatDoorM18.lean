/- Rmt: joined by program, for one claim. -/
import Derived.Test.YtgnfgblkpnfcnaaGreatDoorM17
set_option maxHeartbeats 2000000
set_option maxRecDepth 100000
set_option linter.unusedVariables false
set_option linter.unusedSimpArgs false
section
namespace Go.Proofs.YtgnfgblkpnfcnaaGreatDoor
open Go.RowKit Go.Sort Go.Maps
open Oct
theorem zBC (o:Oper) (h:o.op = .alloc 25) (ρ:Operand→Value) (w:World) :
 (execOp ρ o).run Tryz.prog w = .ok (.value (.pointer (some ⟨w.heap.size,0,none⟩))) (w.alloc (.cells #[(0:Int),(0:Int),(0:Int),(0:Int),(0:Int),(0:Int)] 25)):=by
 unfold execOp;simp only [h];go_simp
theorem zMe (o:Oper) (s u:Tmp) (h:o.op = .store 25 (.tmp s) (.tmp u)) (x0 x1 x2 x3 x4 x5:Value) (a b c d e f:Int) (ρ:Operand→Value) (w:World) (g:Nat) (h1:ρ (.tmp s) = .pointer (some ⟨g,0,none⟩))
 (h2:ρ (.tmp u) = .agg #[a,b,c,d,e,f]) (hb:Bk w g #[x0,x1,x2,x3,x4,x5] 25) :
 ∃ w',(execOp ρ o).run Tryz.prog w = .ok .skip w'∧Bk w' g #[a,b,c,d,e,f] 25∧w.grownBy w' (some g)∧w'.heap.size=w.heap.size:=by
 have c0:=hb.cell 0 rfl;have f0:=hb.frozen 0;have c1:=hb.cell 1 rfl;have f1:=hb.frozen 1;have c2:=hb.cell 2 rfl;have f2:=hb.frozen 2;have c3:=hb.cell 3 rfl;have f3:=hb.frozen 3;have c4:=hb.cell 4 rfl;have f4:=hb.frozen 4;have c5:=hb.cell 5 rfl;have f5:=hb.frozen 5;refine ⟨_,?_,hb.put6 _ _ _ _ _ _,zR (zR (zR (zR (zR (zR (World.grownBy.refl w _) _ _) _ _) _ _) _ _) _ _) _ _,by simp⟩
 unfold execOp;simp only [h];go_simp
structure MtI (w:World) (gl gh gm gx:Nat) (l h m x:Array Value) (wr:World):Prop where
 l:Bk wr gl l 93
 h:Bk wr gh h 93
 m:Bk wr gm m 93
 x:Bk wr gx x 93
 r:Bk wr (w.heap.size+1+1) #[(0:Int),(0:Int),(0:Int),(0:Int),(0:Int),(0:Int)] 25
 b:Below w.heap.size w wr
 d:gl ≠ gh∧gl ≠ gm∧gl ≠ gx∧gh ≠ gm∧gh ≠ gx
 lo:w.heap.size+1+1<gl∧w.heap.size+1+1<gh
theorem MtI.later {w wr w':World} {gl gh gm gx:Nat} {l h m x:Array Value} (H:MtI w gl gh gm gx l h m x wr) (hb:Below wr.heap.size wr w'):MtI w gl gh gm gx l h m x w' :=
 ⟨H.l.later hb,H.h.later hb,H.m.later hb,H.x.later hb,H.r.later hb,H.b.trans (hb.mono H.b.size),H.d,H.lo⟩
theorem MtI.setL {w wr:World} {gl gh gm gx:Nat} {l h m x:Array Value} (H:MtI w gl gh gm gx l h m x wr) (k:Nat) (v:Value):MtI w gl gh gm gx (l.setIfInBounds k v) h m x (wr.setCell ⟨gl,k,none⟩ v) :=
 have hg:=zS wr ⟨gl,k,none⟩ v
 ⟨H.l.set k v,H.h.grownO hg (fun e=>H.d.1 (by injection e)),H.m.grownO hg (fun e=>H.d.2.1 (by injection e)),H.x.grownO hg (fun e=>H.d.2.2.1 (by injection e)),H.r.grownO hg (fun e=>by injection e with e;have h2:=H.lo.1;simp only at e;omega),H.b.setCell (by have:=H.lo.1;simp only;omega) v,H.d,H.lo⟩
theorem MtI.setH {w wr:World} {gl gh gm gx:Nat} {l h m x:Array Value} (H:MtI w gl gh gm gx l h m x wr) (k:Nat) (v:Value):MtI w gl gh gm gx l (h.setIfInBounds k v) m x (wr.setCell ⟨gh,k,none⟩ v) :=
 have hg:=zS wr ⟨gh,k,none⟩ v
 ⟨H.l.grownO hg (fun e=>H.d.1 (by injection e with e;exact e.symm)),H.h.set k v,H.m.grownO hg (fun e=>H.d.2.2.2.1 (by injection e)),H.x.grownO hg (fun e=>H.d.2.2.2.2 (by injection e)),H.r.grownO hg (fun e=>by injection e with e;have h2:=H.lo.2;simp only at e;omega),H.b.setCell (by have:=H.lo.2;simp only;omega) v,H.d,H.lo⟩
theorem zKm (a0 a1 a2 a3 a4 a5 b0 b1 b2 b3 b4 b5:Int) (e:Bool) (he:zN ⟨⟨max a0 b0,max a1 b1,max a2 b2⟩,⟨min a3 b3,min a4 b4,min a5 b5⟩⟩=e) (w:World) :
 Calls Tryz.prog 93 #[.agg #[a0,a1,a2,a3,a4,a5],.agg #[b0,b1,b2,b3,b4,b5]] w fun e' w'=>e' = .returned (.agg (if e=true then #[(0:Int),(0:Int),(0:Int),(0:Int),(0:Int),(0:Int)] else #[.int .i64 (max a0 b0),.int .i64 (max a1 b1),.int .i64 (max a2 b2),.int .i64 (min a3 b3),.int .i64 (min a4 b4),.int .i64 (min a5 b5)]))∧Below w.heap.size w w':=by
 have He:=Bx.mk he;clear he;go_enter Tryz.func93,Tryz.ntmps93;go_wp2_with fail;generalize hW:World.alloc (World.alloc (World.alloc w _) _) _=W;have hSz:=sz3 hW;have hB:=bl3 hW;have ka:Bk W (w.heap.size) #[a0,a1,a2,a3,a4,a5] 25:=bk2 hW;have kb:Bk W (w.heap.size+1) #[b0,b1,b2,b3,b4,b5] 25:=bk1 hW;have kr:Bk W (w.heap.size+1+1) #[(0:Int),(0:Int),(0:Int),(0:Int),(0:Int),(0:Int)] 25:=bk0 hW;clear hW;obtain ⟨ca0,ca1,ca2,ca3,ca4,ca5⟩:=ka.c6;refine (zKn _ _ _ _).mono ?_;rintro _ w1 ⟨rfl,hb⟩;replace hB:=hB.trans (hb.mono hB.size);replace ka:=ka.later hb;replace kb:=kb.later hb;replace kr:=kr.later hb;replace hSz:=Nat.le_trans hSz hb.size;clear hb;have lol:w.heap.size+1+1<w1.heap.size:=kr.lt;have n0 : ∀ o,(w1.alloc o).cell? ⟨w.heap.size,3,none⟩=some (.int .i64 a3):=fun o=>Bk.cell (zE ka) 3 rfl;have n1 : ∀ o,(w1.alloc o).cell? ⟨w.heap.size,4,none⟩=some (.int .i64 a4):=fun o=>Bk.cell (zE ka) 4 rfl;have n2 : ∀ o,(w1.alloc o).cell? ⟨w.heap.size,5,none⟩=some (.int .i64 a5):=fun o=>Bk.cell (zE ka) 5 rfl;go_wp2_with fail;generalize hW1:World.alloc w1 _=V1;have kl:Bk V1 w1.heap.size #[a0,a1,a2] 93:=bk0 hW1 rfl;have hb:=bl1 hW1;clear hW1 ca0 ca1 ca2 ca3 ca4 ca5 n0 n1 n2;replace hB:=hB.trans (hb.mono hB.size);replace ka:=ka.later hb;replace kb:=kb.later hb;replace kr:=kr.later hb;replace hSz:=Nat.le_trans hSz hb.size;generalize w1.heap.size=gl at *;clear hb;refine (zKn _ _ _ _).mono ?_;rintro _ w2 ⟨rfl,hb⟩;replace hB:=hB.trans (hb.mono hB.size);replace ka:=ka.later hb;replace kb:=kb.later hb;replace kr:=kr.later hb;replace kl:=kl.later hb;replace hSz:=Nat.le_trans hSz hb.size;clear hb;have loh:w.heap.size+1+1<w2.heap.size:=kr.lt;have ohl:gl<w2.heap.size:=kl.lt;have n0 : ∀ o,(w2.alloc o).cell? ⟨w.heap.size+1,0,none⟩=some (.int .i64 b0):=fun o=>Bk.cell (zE kb) 0 rfl;have n1 : ∀ o,(w2.alloc o).cell? ⟨w.heap.size+1,1,none⟩=some (.int .i64 b1):=fun o=>Bk.cell (zE kb) 1 rfl;have n2 : ∀ o,(w2.alloc o).cell? ⟨w.heap.size+1,2,none⟩=some (.int .i64 b2):=fun o=>Bk.cell (zE kb) 2 rfl;go_wp2_with fail;generalize hW2:World.alloc w2 _=V2;have kh:Bk V2 w2.heap.size #[a3,a4,a5] 93:=bk0 hW2 rfl;have hb:=bl1 hW2;clear hW2 n0 n1 n2;replace hB:=hB.trans (hb.mono hB.size);replace ka:=ka.later hb;replace kb:=kb.later hb;replace kr:=kr.later hb;replace kl:=kl.later hb;replace hSz:=Nat.le_trans hSz hb.size;generalize w2.heap.size=gh at *;clear hb;refine (zKn _ _ _ _).mono ?_;rintro _ w3 ⟨rfl,hb⟩;replace hB:=hB.trans (hb.mono hB.size);replace ka:=ka.later hb;replace kb:=kb.later hb;replace kr:=kr.later hb;replace kl:=kl.later hb;replace kh:=kh.later hb;replace hSz:=Nat.le_trans hSz hb.size;clear hb;have lom:w.heap.size+1+1<w3.heap.size:=kr.lt;have oml:gl<w3.heap.size:=kl.lt;have omh:gh<w3.heap.size:=kh.lt;have n0 : ∀ o,(w3.alloc o).cell? ⟨w.heap.size+1,3,none⟩=some (.int .i64 b3):=fun o=>Bk.cell (zE kb) 3 rfl;have n1 : ∀ o,(w3.alloc o).cell? ⟨w.heap.size+1,4,none⟩=some (.int .i64 b4):=fun o=>Bk.cell (zE kb) 4 rfl;have n2 : ∀ o,(w3.alloc o).cell? ⟨w.heap.size+1,5,none⟩=some (.int .i64 b5):=fun o=>Bk.cell (zE kb) 5 rfl;go_wp2_with fail;generalize hW3:World.alloc w3 _=V3;have km:Bk V3 w3.heap.size #[b0,b1,b2] 93:=bk0 hW3 rfl;have hb:=bl1 hW3;clear hW3 n0 n1 n2;replace hB:=hB.trans (hb.mono hB.size);replace ka:=ka.later hb;replace kb:=kb.later hb;replace kr:=kr.later hb;replace kl:=kl.later hb;replace kh:=kh.later hb;replace hSz:=Nat.le_trans hSz hb.size;generalize w3.heap.size=gm at *;clear hb;refine (zKn _ _ _ _).mono ?_;rintro _ w4 ⟨rfl,hb⟩;replace hB:=hB.trans (hb.mono hB.size);replace ka:=ka.later hb;replace kb:=kb.later hb;replace kr:=kr.later hb;replace kl:=kl.later hb;replace kh:=kh.later hb;replace km:=km.later hb;replace hSz:=Nat.le_trans hSz hb.size;clear hb;have lox:w.heap.size+1+1<w4.heap.size:=kr.lt;have oxl:gl<w4.heap.size:=kl.lt;have oxh:gh<w4.heap.size:=kh.lt
 have oxm:gm<w4.heap.size:=km.lt;go_wp2_with fail;generalize hW4:World.alloc w4 _=V4;have kx:Bk V4 w4.heap.size #[b3,b4,b5] 93:=bk0 hW4 rfl;have hb:=bl1 hW4;clear hW4;replace hB:=hB.trans (hb.mono hB.size);replace ka:=ka.later hb;replace kb:=kb.later hb;replace kr:=kr.later hb;replace kl:=kl.later hb;replace kh:=kh.later hb;replace km:=km.later hb;replace hSz:=Nat.le_trans hSz hb.size;generalize w4.heap.size=gx at *;clear hb;have HI:Bx (MtI w gl gh gm gx ((fun k=>match k with | 0=>#[a0,a1,a2] | 1=>#[.int .i64 (max a0 b0),a1,a2] | 2=>#[.int .i64 (max a0 b0),.int .i64 (max a1 b1),a2] | _=>#[.int .i64 (max a0 b0),.int .i64 (max a1 b1),.int .i64 (max a2 b2)]) 0) ((fun k=>match k with | 0=>#[a3,a4,a5] | 1=>#[.int .i64 (min a3 b3),a4,a5] | 2=>#[.int .i64 (min a3 b3),.int .i64 (min a4 b4),a5] | _=>#[.int .i64 (min a3 b3),.int .i64 (min a4 b4),.int .i64 (min a5 b5)]) 0) #[b0,b1,b2] #[b3,b4,b5] V4):=⟨⟨kl,kh,km,kx,kr,hB,by omega,by omega⟩⟩
 clear kl kh km kx kr hB ka kb hSz
 go_loopw [9] (fun v9 wr => ∃ k:Nat,k≤3∧v9 = .int .i64 k∧Bx (MtI w gl gh gm gx ((fun k=>match k with | 0=>#[a0,a1,a2] | 1=>#[.int .i64 (max a0 b0),a1,a2] | 2=>#[.int .i64 (max a0 b0),.int .i64 (max a1 b1),a2] | _=>#[.int .i64 (max a0 b0),.int .i64 (max a1 b1),.int .i64 (max a2 b2)]) k) ((fun k=>match k with | 0=>#[a3,a4,a5] | 1=>#[.int .i64 (min a3 b3),a4,a5] | 2=>#[.int .i64 (min a3 b3),.int .i64 (min a4 b4),a5] | _=>#[.int .i64 (min a3 b3),.int .i64 (min a4 b4),.int .i64 (min a5 b5)]) k) #[b0,b1,b2] #[b3,b4,b5] wr)) (fun i _=>3 - (intOf i).toNat)
 case atStart=>exact ⟨0,Nat.zero_le _,rfl,HI⟩
 case round =>
  clear HI;obtain ⟨k,hk,rfl,HI⟩:=hrel;rcases (show k=0∨k=1∨k=2∨k=3 by omega) with rfl | rfl | rfl | rfl
  · have t0:decide (((0:Nat):Int)<3)=true:=by decide
    have q0 : ∀ dk osk,(grow (redrawn wr dk) osk).cell? ⟨gl,0,none⟩=some (.int .i64 a0):=cell_regrown (HI.out.l.cell 0 rfl);have q1 : ∀ dk osk,(grow (redrawn wr dk) osk).cell? ⟨gm,0,none⟩=some (.int .i64 b0):=cell_regrown (HI.out.m.cell 0 rfl);have mx:(if a0<b0 then b0 else a0)=max a0 b0:=by split <;> omega
    have mn:(if b3<a3 then b3 else a3)=min a3 b3:=by split <;> omega
    go_wp2_with fail;refine zAM 9 (by kernel_rfl) (by kernel_rfl) ?_
    simp only [List.take_succ_cons,List.take_zero,List.drop_succ_cons,List.drop_zero]
    repeat (first | go_big_quiet_step ((fail)) | quiet_step (fail))
    refine wpQuiet_nil ?_;rintro _ ⟨⟨dq,osq⟩,rfl⟩;have HI1:=Bx.mk (HI.out.later (below_regrown wr dq osq));clear q0 q1 HI;generalize grow (redrawn wr dq) osq=w1 at *;have c0:=HI1.out.l.cell 0 rfl;have f0:=HI1.out.l.frozen 0;go_wp2_with fail;have HI2:=Bx.mk (HI1.out.setL 0 (.int .i64 (max a0 b0)));clear HI1 c0 f0;generalize World.setCell w1 _ _=w2 at *;have q0 : ∀ dk osk,(grow (redrawn w2 dk) osk).cell? ⟨gh,0,none⟩=some (.int .i64 a3):=cell_regrown (HI2.out.h.cell 0 rfl);have q1 : ∀ dk osk,(grow (redrawn w2 dk) osk).cell? ⟨gx,0,none⟩=some (.int .i64 b3):=cell_regrown (HI2.out.x.cell 0 rfl);refine zAM 9 (by kernel_rfl) (by kernel_rfl) ?_
    simp only [List.take_succ_cons,List.take_zero,List.drop_succ_cons,List.drop_zero]
    repeat (first | go_big_quiet_step ((fail)) | quiet_step (fail))
    refine wpQuiet_nil ?_;rintro _ ⟨⟨dq,osq⟩,rfl⟩;have HI3:=Bx.mk (HI2.out.later (below_regrown w2 dq osq));clear q0 q1 HI2;generalize grow (redrawn w2 dq) osq=w3 at *;have c0:=HI3.out.h.cell 0 rfl;have f0:=HI3.out.h.frozen 0;go_wp2_with fail;have HI4:=Bx.mk (HI3.out.setH 0 (.int .i64 (min a3 b3)));clear HI3 c0 f0;generalize World.setCell w3 _ _=w4 at *
    go_roundw
    case rel=>exact ⟨1,by omega,rfl,HI4⟩
    case measure=>simp [intOf]
  · have t0:decide (((1:Nat):Int)<3)=true:=by decide
    have q0 : ∀ dk osk,(grow (redrawn wr dk) osk).cell? ⟨gl,1,none⟩=some (.int .i64 a1):=cell_regrown (HI.out.l.cell 1 rfl);have q1 : ∀ dk osk,(grow (redrawn wr dk) osk).cell? ⟨gm,1,none⟩=some (.int .i64 b1):=cell_regrown (HI.out.m.cell 1 rfl);have mx:(if a1<b1 then b1 else a1)=max a1 b1:=by split <;> omega
    have mn:(if b4<a4 then b4 else a4)=min a4 b4:=by split <;> omega
    go_wp2_with fail;refine zAM 9 (by kernel_rfl) (by kernel_rfl) ?_
    simp only [List.take_succ_cons,List.take_zero,List.drop_succ_cons,List.drop_zero]
    repeat (first | go_big_quiet_step ((fail)) | quiet_step (fail))
    refine wpQuiet_nil ?_;rintro _ ⟨⟨dq,osq⟩,rfl⟩;have HI1:=Bx.mk (HI.out.later (below_regrown wr dq osq));clear q0 q1 HI;generalize grow (redrawn wr dq) osq=w1 at *;have c0:=HI1.out.l.cell 1 rfl;have f0:=HI1.out.l.frozen 1;go_wp2_with fail;have HI2:=Bx.mk (HI1.out.setL 1 (.int .i64 (max a1 b1)));clear HI1 c0 f0;generalize World.setCell w1 _ _=w2 at *;have q0 : ∀ dk osk,(grow (redrawn w2 dk) osk).cell? ⟨gh,1,none⟩=some (.int .i64 a4):=cell_regrown (HI2.out.h.cell 1 rfl);have q1 : ∀ dk osk,(grow (redrawn w2 dk) osk).cell? ⟨gx,1,none⟩=some (.int .i64 b4):=cell_regrown (HI2.out.x.cell 1 rfl);refine zAM 9 (by kernel_rfl) (by kernel_rfl) ?_
    simp only [List.take_succ_cons,List.take_zero,List.drop_succ_cons,List.drop_zero]
    repeat (first | go_big_quiet_step ((fail)) | quiet_step (fail))
    refine wpQuiet_nil ?_;rintro _ ⟨⟨dq,osq⟩,rfl⟩;have HI3:=Bx.mk (HI2.out.later (below_regrown w2 dq osq));clear q0 q1 HI2;generalize grow (redrawn w2 dq) osq=w3 at *;have c0:=HI3.out.h.cell 1 rfl;have f0:=HI3.out.h.frozen 1;go_wp2_with fail;have HI4:=Bx.mk (HI3.out.setH 1 (.int .i64 (min a4 b4)));clear HI3 c0 f0;generalize World.setCell w3 _ _=w4 at *
    go_roundw
    case rel=>exact ⟨2,by omega,rfl,HI4⟩
    case measure=>simp [intOf]
  · have t0:decide (((2:Nat):Int)<3)=true:=by decide
    have q0 : ∀ dk osk,(grow (redrawn wr dk) osk).cell? ⟨gl,2,none⟩=some (.int .i64 a2):=cell_regrown (HI.out.l.cell 2 rfl);have q1 : ∀ dk osk,(grow (redrawn wr dk) osk).cell? ⟨gm,2,none⟩=some (.int .i64 b2):=cell_regrown (HI.out.m.cell 2 rfl);have mx:(if a2<b2 then b2 else a2)=max a2 b2:=by split <;> omega
    have mn:(if b5<a5 then b5 else a5)=min a5 b5:=by split <;> omega
    go_wp2_with fail;refine zAM 9 (by kernel_rfl) (by kernel_rfl) ?_
    simp only [List.take_succ_cons,List.take_zero,List.drop_succ_cons,List.drop_zero]
    repeat (first | go_big_quiet_step ((fail)) | quiet_step (fail))
    refine wpQuiet_nil ?_;rintro _ ⟨⟨dq,osq⟩,rfl⟩;have HI1:=Bx.mk (HI.out.later (below_regrown wr dq osq));clear q0 q1 HI;generalize grow (redrawn wr dq) osq=w1 at *;have c0:=HI1.out.l.cell 2 rfl;have f0:=HI1.out.l.frozen 2;go_wp2_with fail;have HI2:=Bx.mk (HI1.out.setL 2 (.int .i64 (max a2 b2)));clear HI1 c0 f0;generalize World.setCell w1 _ _=w2 at *;have q0 : ∀ dk osk,(grow (redrawn w2 dk) osk).cell? ⟨gh,2,none⟩=some (.int .i64 a5):=cell_regrown (HI2.out.h.cell 2 rfl);have q1 : ∀ dk osk,(grow (redrawn w2 dk) osk).cell? ⟨gx,2,none⟩=some (.int .i64 b5):=cell_regrown (HI2.out.x.cell 2 rfl);refine zAM 9 (by kernel_rfl) (by kernel_rfl) ?_
    simp only [List.take_succ_cons,List.take_zero,List.drop_succ_cons,List.drop_zero]
    repeat (first | go_big_quiet_step ((fail)) | quiet_step (fail))
    refine wpQuiet_nil ?_;rintro _ ⟨⟨dq,osq⟩,rfl⟩;have HI3:=Bx.mk (HI2.out.later (below_regrown w2 dq osq));clear q0 q1 HI2;generalize grow (redrawn w2 dq) osq=w3 at *;have c0:=HI3.out.h.cell 2 rfl;have f0:=HI3.out.h.frozen 2;go_wp2_with fail;have HI4:=Bx.mk (HI3.out.setH 2 (.int .i64 (min a5 b5)));clear HI3 c0 f0;generalize World.setCell w3 _ _=w4 at *
    go_roundw
    case rel=>exact ⟨3,by omega,rfl,HI4⟩
    case measure=>simp [intOf]
  · have t0:decide (((3:Nat):Int)<3)=false:=by decide
    go_wp2_with fail;have kl:=HI.out.l;have kh:=HI.out.h;have kr:=HI.out.r;have hB:=HI.out.b;have hSz:w.heap.size+1+1≤wr.heap.size:=Nat.le_of_lt kr.lt;clear HI;replace kl:Bk wr gl #[.int .i64 (max a0 b0),.int .i64 (max a1 b1),.int .i64 (max a2 b2)] 93:=kl;replace kh:Bk wr gh #[.int .i64 (min a3 b3),.int .i64 (min a4 b4),.int .i64 (min a5 b5)] 93:=kh;obtain ⟨cl0,cl1,cl2⟩:=kl.r3;obtain ⟨ch0,ch1,ch2⟩:=kh.r3;have q0:=Bx.mk fun dk osk=>(zKt (max a0 b0) (max a1 b1) (max a2 b2) (grow (redrawn wr dk) osk));have q1:=Bx.mk fun dk osk=>(zKt (min a3 b3) (min a4 b4) (min a5 b5) (grow (redrawn wr dk) osk));refine zAK 5 1 (fun j=>[10].getD j 0) (fun j=>[50].getD j 0) (fun j=>[25].getD j 0) (fun _=>#[.int .i64 0,.int .i64 0,.int .i64 0,.int .i64 0,.int .i64 0,.int .i64 0]) (fun j=>[#[.int .i64 (max a0 b0),.int .i64 (max a1 b1),.int .i64 (max a2 b2),.int .i64 (min a3 b3),.int .i64 (min a4 b4),.int .i64 (min a5 b5)]].getD j #[]) (by kernel_rfl) (by kernel_rfl) ⟨fun j hj=>?_,fun j hj=>?_⟩ 56 (by kernel_rfl) (by rfl) ?_
    · match j,hj with
      | 0,_=>exact ⟨_,rfl,rfl,rfl,zBC _ rfl⟩
      | j+1,hj=>omega
    · match j,hj with
      | 0,_=>exact ⟨_,rfl,rfl,rfl,fun ρ w g h1 h2 hb=>zMe _ 10 50 rfl _ _ _ _ _ _ _ _ _ _ _ _ ρ w g h1 h2 hb⟩
      | j+1,hj=>omega
    simp only [List.take_succ_cons,List.take_zero]
    repeat (refine zAE (fun K hK=>?_);go_simp;first | (refine hK _ ?_;clear hK K) | (apply Exists.intro;refine ⟨fun _=>?_,hK _ ?_⟩;(first | ((with_reducible refine (q0.out _ _).mono ?_);exact fun _ _ h=>by simpa using h) | ((with_reducible refine (q1.out _ _).mono ?_);exact fun _ _ h=>by simpa using h));clear hK K))
    refine zOJ ⟨fun j hj=>match j,hj with | 0,_=>rfl | j+1,hj=>absurd hj (by omega),fun g W1 hb hg hne=>?_⟩
    obtain ⟨hc,kc⟩:=hg 0 (by omega)
    clear hg hne;clear cl0 cl1 cl2;clear ch0 ch1 ch2;clear q0;clear q1;replace hB:=hB.trans (hb.mono hB.size);replace kl:=kl.later hb;replace kh:=kh.later hb;replace kr:=kr.later hb;replace hSz:=Nat.le_trans hSz hb.size;clear hb;simp only [zKA,List.range_succ,List.range_zero,List.nil_append,List.cons_append,List.map_cons,List.map_nil,List.foldl_cons,List.foldl_nil,List.getD_cons_zero,List.getD_cons_succ];generalize g 0=gc at *;replace kc:Bk W1 gc #[.int .i64 (max a0 b0),.int .i64 (max a1 b1),.int .i64 (max a2 b2),.int .i64 (min a3 b3),.int .i64 (min a4 b4),.int .i64 (min a5 b5)] 25:=kc;clear kl kh;obtain ⟨cc0,cc1,cc2,cc3,cc4,cc5⟩:=kc.c6;go_wp2_with fail;refine (zKg _ _ _ _ _ _ _).mono ?_;rintro _ w2 ⟨rfl,hb⟩;replace hB:=hB.trans (hb.mono hB.size);replace kr:=kr.later hb;replace kc:=kc.later hb;replace hSz:=Nat.le_trans hSz hb.size;clear hb;clear cc0 cc1 cc2 cc3 cc4 cc5;rw [He.out];cases e with
    | true =>
      obtain ⟨cr0,cr1,cr2,cr3,cr4,cr5⟩:=kr.c6;obtain ⟨fr0,fr1,fr2,fr3,fr4,fr5⟩:=kr.f6;go_wp2_with fail;replace kr:=kr.put6 (.int .i64 0) (.int .i64 0) (.int .i64 0) (.int .i64 0) (.int .i64 0) (.int .i64 0);exact bodyPost_ret (v:=.agg #[(0:Int),(0:Int),(0:Int),(0:Int),(0:Int),(0:Int)]) (results_cell_row rfl _ _ _ 25 #[(0:Int),(0:Int),(0:Int),(0:Int),(0:Int),(0:Int)] (0,0) _ rfl kr Tryz.underlying25 rfl (by kernel_rfl)) rfl ⟨rfl,zBi hB (by omega) _ _ _ _ _ _⟩
    | false =>
      obtain ⟨cr0,cr1,cr2,cr3,cr4,cr5⟩:=kr.c6;obtain ⟨cc0,cc1,cc2,cc3,cc4,cc5⟩:=kc.c6;obtain ⟨fr0,fr1,fr2,fr3,fr4,fr5⟩:=kr.f6;go_wp2_with fail;replace kr:=kr.put6 (.int .i64 (max a0 b0)) (.int .i64 (max a1 b1)) (.int .i64 (max a2 b2)) (.int .i64 (min a3 b3)) (.int .i64 (min a4 b4)) (.int .i64 (min a5 b5));exact bodyPost_ret (v:=.agg #[.int .i64 (max a0 b0),.int .i64 (max a1 b1),.int .i64 (max a2 b2),.int .i64 (min a3 b3),.int .i64 (min a4 b4),.int .i64 (min a5 b5)]) (results_cell_row rfl _ _ _ 25 #[.int .i64 (max a0 b0),.int .i64 (max a1 b1),.int .i64 (max a2 b2),.int .i64 (min a3 b3),.int .i64 (min a4 b4),.int .i64 (min a5 b5)] (0,0) _ rfl kr Tryz.underlying25 rfl (by kernel_rfl)) rfl ⟨rfl,zBi hB (by omega) _ _ _ _ _ _⟩
theorem zKp (a0 a1 a2 a3 a4 a5 b0 b1 b2 b3 b4 b5:Int) (w:World) :
 Calls Tryz.prog 93 #[.agg #[a0,a1,a2,a3,a4,a5],.agg #[b0,b1,b2,b3,b4,b5]] w fun e' w'=>e' = .returned (.agg #[.int .i64 (zf ⟨⟨a0,a1,a2⟩,⟨a3,a4,a5⟩⟩ ⟨⟨b0,b1,b2⟩,⟨b3,b4,b5⟩⟩).lo.x,.int .i64 (zf ⟨⟨a0,a1,a2⟩,⟨a3,a4,a5⟩⟩ ⟨⟨b0,b1,b2⟩,⟨b3,b4,b5⟩⟩).lo.y,.int .i64 (zf ⟨⟨a0,a1,a2⟩,⟨a3,a4,a5⟩⟩ ⟨⟨b0,b1,b2⟩,⟨b3,b4,b5⟩⟩).lo.z,.int .i64 (zf ⟨⟨a0,a1,a2⟩,⟨a3,a4,a5⟩⟩ ⟨⟨b0,b1,b2⟩,⟨b3,b4,b5⟩⟩).hi.x,.int .i64 (zf ⟨⟨a0,a1,a2⟩,⟨a3,a4,a5⟩⟩ ⟨⟨b0,b1,b2⟩,⟨b3,b4,b5⟩⟩).hi.y,.int .i64 (zf ⟨⟨a0,a1,a2⟩,⟨a3,a4,a5⟩⟩ ⟨⟨b0,b1,b2⟩,⟨b3,b4,b5⟩⟩).hi.z])∧Below w.heap.size w w':=by
 have h:=zKm a0 a1 a2 a3 a4 a5 b0 b1 b2 b3 b4 b5 _ rfl w;have hM:zf ⟨⟨a0,a1,a2⟩,⟨a3,a4,a5⟩⟩ ⟨⟨b0,b1,b2⟩,⟨b3,b4,b5⟩⟩=if zN ⟨⟨max a0 b0,max a1 b1,max a2 b2⟩,⟨min a3 b3,min a4 b4,min a5 b5⟩⟩=true then Box.zero else ⟨⟨max a0 b0,max a1 b1,max a2 b2⟩,⟨min a3 b3,min a4 b4,min a5 b5⟩⟩:=rfl;rw [hM];cases he:zN ⟨⟨max a0 b0,max a1 b1,max a2 b2⟩,⟨min a3 b3,min a4 b4,min a5 b5⟩⟩ with
 | true=>rw [he] at h;simpa [Box.zero,Pt.zero] using h
 | false=>rw [he] at h;simpa using h
end Go.Proofs.YtgnfgblkpnfcnaaGreatDoor
end
