/- M31, M32, M33, M34: joined by program. -/
import Derived.Test.YtfcbajmjaifjlaaGreatM10
set_option maxHeartbeats 4000000
set_option maxRecDepth 100000
set_option linter.all false
namespace Go.Proofs.YtfcbajmjaifjlaaGreat
section
open Go.RowKit Go.Sort Go.Maps
open Oct
theorem zBB (o:Oper) (h:o.op = .alloc 25) (ρ:Operand→Value) (w:World) :
 (execOp ρ o).run Tryz.prog w = .ok (.value (.pointer (some ⟨w.heap.size,0,none⟩))) (w.alloc (.cells #[(0:Int),(0:Int),(0:Int),(0:Int),(0:Int),(0:Int)] 25)):=by
 unfold execOp;simp only [h];go_simp
theorem zMt (o:Oper) (s u:Tmp) (h:o.op = .store 25 (.tmp s) (.tmp u)) (x0 x1 x2 x3 x4 x5:Value) (a b c d e f:Int) (ρ:Operand→Value) (w:World) (g:Nat) (h1:ρ (.tmp s) = .pointer (some ⟨g,0,none⟩))
 (h2:ρ (.tmp u) = .agg #[a,b,c,d,e,f]) (hb:Bk w g #[x0,x1,x2,x3,x4,x5] 25) :
 ∃ w',(execOp ρ o).run Tryz.prog w = .ok .skip w'∧Bk w' g #[a,b,c,d,e,f] 25∧w.grownBy w' (some g)∧w'.heap.size=w.heap.size:=by
 have c0:=hb.cell 0 rfl;have f0:=hb.frozen 0;have c1:=hb.cell 1 rfl;have f1:=hb.frozen 1;have c2:=hb.cell 2 rfl;have f2:=hb.frozen 2;have c3:=hb.cell 3 rfl;have f3:=hb.frozen 3;have c4:=hb.cell 4 rfl;have f4:=hb.frozen 4;have c5:=hb.cell 5 rfl;have f5:=hb.frozen 5;refine ⟨_,?_,hb.put6 _ _ _ _ _ _,zW (zW (zW (zW (zW (zW (World.grownBy.refl w _) _ _) _ _) _ _) _ _) _ _) _ _,by simp⟩
 unfold execOp;simp only [h];go_simp
structure MtI (w:World) (gl gh gm gx:Nat) (l h m x:Array Value) (wr:World):Prop where
 l:Bk wr gl l 173
 h:Bk wr gh h 173
 m:Bk wr gm m 173
 x:Bk wr gx x 173
 r:Bk wr (w.heap.size+1+1) #[(0:Int),(0:Int),(0:Int),(0:Int),(0:Int),(0:Int)] 25
 b:Below w.heap.size w wr
 d:gl ≠ gh∧gl ≠ gm∧gl ≠ gx∧gh ≠ gm∧gh ≠ gx
 lo:w.heap.size+1+1<gl∧w.heap.size+1+1<gh
theorem MtI.la {w wr w':World} {gl gh gm gx:Nat} {l h m x:Array Value} (H:MtI w gl gh gm gx l h m x wr) (hb:Below wr.heap.size wr w'):MtI w gl gh gm gx l h m x w' :=
 ⟨H.l.la hb,H.h.la hb,H.m.la hb,H.x.la hb,H.r.la hb,tr H.b hb,H.d,H.lo⟩
theorem MtI.setL {w wr:World} {gl gh gm gx:Nat} {l h m x:Array Value} (H:MtI w gl gh gm gx l h m x wr) (k:Nat) (v:Value):MtI w gl gh gm gx (l.setIfInBounds k v) h m x (wr.setCell ⟨gl,k,none⟩ v) :=
 have hg:=zX wr ⟨gl,k,none⟩ v
 ⟨H.l.set k v,H.h.grownO hg (fun e=>H.d.1 (by injection e)),H.m.grownO hg (fun e=>H.d.2.1 (by injection e)),H.x.grownO hg (fun e=>H.d.2.2.1 (by injection e)),H.r.grownO hg (fun e=>by injection e with e;have h2:=H.lo.1;simp only at e;omega),H.b.setCell (by have:=H.lo.1;simp only;omega) v,H.d,H.lo⟩
theorem MtI.setH {w wr:World} {gl gh gm gx:Nat} {l h m x:Array Value} (H:MtI w gl gh gm gx l h m x wr) (k:Nat) (v:Value):MtI w gl gh gm gx l (h.setIfInBounds k v) m x (wr.setCell ⟨gh,k,none⟩ v) :=
 have hg:=zX wr ⟨gh,k,none⟩ v
 ⟨H.l.grownO hg (fun e=>H.d.1 (by injection e with e;exact e.symm)),H.h.set k v,H.m.grownO hg (fun e=>H.d.2.2.2.1 (by injection e)),H.x.grownO hg (fun e=>H.d.2.2.2.2 (by injection e)),H.r.grownO hg (fun e=>by injection e with e;have h2:=H.lo.2;simp only at e;omega),H.b.setCell (by have:=H.lo.2;simp only;omega) v,H.d,H.lo⟩
theorem zLA (a0 a1 a2 a3 a4 a5 b0 b1 b2 b3 b4 b5:Int) (e:Bool) (he:zS ⟨⟨max a0 b0,max a1 b1,max a2 b2⟩,⟨min a3 b3,min a4 b4,min a5 b5⟩⟩=e) (w:World) :
 Calls Tryz.prog 80 #[.agg #[a0,a1,a2,a3,a4,a5],.agg #[b0,b1,b2,b3,b4,b5]] w fun e' w'=>e' = .returned (.agg (if e=true then #[(0:Int),(0:Int),(0:Int),(0:Int),(0:Int),(0:Int)] else #[(max a0 b0:Int),(max a1 b1:Int),(max a2 b2:Int),(min a3 b3:Int),(min a4 b4:Int),(min a5 b5:Int)]))∧Below w.heap.size w w':=by
 have He:=Bx.mk he;clear he;go_enter Tryz.func80,Tryz.ntmps80;go_wp2_with fail;generalize hW:((w.alloc _).alloc _).alloc _=W;have JE:=sz3 hW;have hB:=bl3 hW;have ka:Bk W (w.heap.size) #[a0,a1,a2,a3,a4,a5] 25:=bk2 hW;have kb:Bk W (w.heap.size+1) #[b0,b1,b2,b3,b4,b5] 25:=bk1 hW;have kr:Bk W (w.heap.size+1+1) #[(0:Int),(0:Int),(0:Int),(0:Int),(0:Int),(0:Int)] 25:=bk0 hW;clear hW;obtain ⟨ca0,ca1,ca2,ca3,ca4,ca5⟩:=ka.c6;refine (zLB _ _ _ _).mono ?_;rintro _ w1 ⟨rfl,hb⟩;replace hB:=tr hB hb;replace ka:=ka.la hb;replace kb:=kb.la hb;replace kr:=kr.la hb;replace JE:=nlt JE hb.size;clear hb;have lol:w.heap.size+1+1<w1.heap.size:=kr.lt;have n0 : ∀ o,(w1.alloc o).cell? ⟨w.heap.size,3,none⟩=some (.int .i64 a3):=fun o=>Bk.cell (zD ka) 3 rfl;have n1 : ∀ o,(w1.alloc o).cell? ⟨w.heap.size,4,none⟩=some (.int .i64 a4):=fun o=>Bk.cell (zD ka) 4 rfl;have n2 : ∀ o,(w1.alloc o).cell? ⟨w.heap.size,5,none⟩=some (.int .i64 a5):=fun o=>Bk.cell (zD ka) 5 rfl;go_wp2_with fail;generalize hW1:w1.alloc _=V1;have kl:Bk V1 w1.heap.size #[a0,a1,a2] 173:=bk0 hW1 rfl;have hb:=bl1 hW1;clear hW1 ca0 ca1 ca2 ca3 ca4 ca5 n0 n1 n2;replace hB:=tr hB hb;replace ka:=ka.la hb;replace kb:=kb.la hb;replace kr:=kr.la hb;replace JE:=nlt JE hb.size;generalize w1.heap.size=gl at *;clear hb;refine (zLB _ _ _ _).mono ?_;rintro _ w2 ⟨rfl,hb⟩;replace hB:=tr hB hb;replace ka:=ka.la hb;replace kb:=kb.la hb;replace kr:=kr.la hb;replace kl:=kl.la hb;replace JE:=nlt JE hb.size;clear hb;have loh:w.heap.size+1+1<w2.heap.size:=kr.lt;have ohl:gl<w2.heap.size:=kl.lt;have n0 : ∀ o,(w2.alloc o).cell? ⟨w.heap.size+1,0,none⟩=some (.int .i64 b0):=fun o=>Bk.cell (zD kb) 0 rfl;have n1 : ∀ o,(w2.alloc o).cell? ⟨w.heap.size+1,1,none⟩=some (.int .i64 b1):=fun o=>Bk.cell (zD kb) 1 rfl;have n2 : ∀ o,(w2.alloc o).cell? ⟨w.heap.size+1,2,none⟩=some (.int .i64 b2):=fun o=>Bk.cell (zD kb) 2 rfl;go_wp2_with fail;generalize hW2:w2.alloc _=V2;have kh:Bk V2 w2.heap.size #[a3,a4,a5] 173:=bk0 hW2 rfl;have hb:=bl1 hW2;clear hW2 n0 n1 n2;replace hB:=tr hB hb;replace ka:=ka.la hb;replace kb:=kb.la hb;replace kr:=kr.la hb;replace kl:=kl.la hb;replace JE:=nlt JE hb.size;generalize w2.heap.size=gh at *;clear hb;refine (zLB _ _ _ _).mono ?_;rintro _ w3 ⟨rfl,hb⟩;replace hB:=tr hB hb;replace ka:=ka.la hb;replace kb:=kb.la hb;replace kr:=kr.la hb;replace kl:=kl.la hb;replace kh:=kh.la hb;replace JE:=nlt JE hb.size;clear hb;have lom:w.heap.size+1+1<w3.heap.size:=kr.lt;have oml:gl<w3.heap.size:=kl.lt;have omh:gh<w3.heap.size:=kh.lt;have n0 : ∀ o,(w3.alloc o).cell? ⟨w.heap.size+1,3,none⟩=some (.int .i64 b3):=fun o=>Bk.cell (zD kb) 3 rfl;have n1 : ∀ o,(w3.alloc o).cell? ⟨w.heap.size+1,4,none⟩=some (.int .i64 b4):=fun o=>Bk.cell (zD kb) 4 rfl;have n2 : ∀ o,(w3.alloc o).cell? ⟨w.heap.size+1,5,none⟩=some (.int .i64 b5):=fun o=>Bk.cell (zD kb) 5 rfl;go_wp2_with fail;generalize hW3:w3.alloc _=V3;have km:Bk V3 w3.heap.size #[b0,b1,b2] 173:=bk0 hW3 rfl;have hb:=bl1 hW3;clear hW3 n0 n1 n2;replace hB:=tr hB hb;replace ka:=ka.la hb;replace kb:=kb.la hb;replace kr:=kr.la hb;replace kl:=kl.la hb;replace kh:=kh.la hb;replace JE:=nlt JE hb.size;generalize w3.heap.size=gm at *;clear hb;refine (zLB _ _ _ _).mono ?_;rintro _ w4 ⟨rfl,hb⟩;replace hB:=tr hB hb;replace ka:=ka.la hb;replace kb:=kb.la hb;replace kr:=kr.la hb;replace kl:=kl.la hb;replace kh:=kh.la hb;replace km:=km.la hb;replace JE:=nlt JE hb.size;clear hb;have lox:w.heap.size+1+1<w4.heap.size:=kr.lt;have oxl:gl<w4.heap.size:=kl.lt;have oxh:gh<w4.heap.size:=kh.lt;have oxm:gm<w4.heap.size:=km.lt;go_wp2_with fail;generalize hW4:w4.alloc _=V4;have kx:Bk V4 w4.heap.size #[b3,b4,b5] 173:=bk0 hW4 rfl;have hb:=bl1 hW4;clear hW4;replace hB:=tr hB hb;replace ka:=ka.la hb;replace kb:=kb.la hb;replace kr:=kr.la hb;replace kl:=kl.la hb;replace kh:=kh.la hb;replace km:=km.la hb
 replace JE:=nlt JE hb.size;generalize w4.heap.size=gx at *;clear hb;have HI:Bx (MtI w gl gh gm gx ((fun k=>match k with | 0=>#[a0,a1,a2] | 1=>#[(max a0 b0:Int),a1,a2] | 2=>#[(max a0 b0:Int),(max a1 b1:Int),a2] | _=>#[(max a0 b0:Int),(max a1 b1:Int),(max a2 b2:Int)]) 0) ((fun k=>match k with | 0=>#[a3,a4,a5] | 1=>#[(min a3 b3:Int),a4,a5] | 2=>#[(min a3 b3:Int),(min a4 b4:Int),a5] | _=>#[(min a3 b3:Int),(min a4 b4:Int),(min a5 b5:Int)]) 0) #[b0,b1,b2] #[b3,b4,b5] V4):=⟨⟨kl,kh,km,kx,kr,hB,by omega,by omega⟩⟩
 clear kl kh km kx kr hB ka kb JE
 go_loopw [9] (fun v9 wr => ∃ k:Nat,k≤3∧v9 = .int .i64 k∧Bx (MtI w gl gh gm gx ((fun k=>match k with | 0=>#[a0,a1,a2] | 1=>#[(max a0 b0:Int),a1,a2] | 2=>#[(max a0 b0:Int),(max a1 b1:Int),a2] | _=>#[(max a0 b0:Int),(max a1 b1:Int),(max a2 b2:Int)]) k) ((fun k=>match k with | 0=>#[a3,a4,a5] | 1=>#[(min a3 b3:Int),a4,a5] | 2=>#[(min a3 b3:Int),(min a4 b4:Int),a5] | _=>#[(min a3 b3:Int),(min a4 b4:Int),(min a5 b5:Int)]) k) #[b0,b1,b2] #[b3,b4,b5] wr)) (fun i _=>3 - (intOf i).toNat)
 case atStart=>exact ⟨0,Nat.zero_le _,rfl,HI⟩
 case round =>
  clear HI;obtain ⟨k,hk,rfl,HI⟩:=hrel;rcases (show k=0∨k=1∨k=2∨k=3 by omega) with rfl | rfl | rfl | rfl
  · have t0:decide (((0:Nat):Int)<3)=true:=by decide
    have q0 : ∀ dk osk,(grow (redrawn wr dk) osk).cell? ⟨gl,0,none⟩=some (.int .i64 a0):=cq (HI.o.l.cell 0 rfl);have q1 : ∀ dk osk,(grow (redrawn wr dk) osk).cell? ⟨gm,0,none⟩=some (.int .i64 b0):=cq (HI.o.m.cell 0 rfl);have mx:(if a0<b0 then b0 else a0)=max a0 b0:=by split <;> omega
    have mn:(if b3<a3 then b3 else a3)=min a3 b3:=by split <;> omega
    go_wp2_with fail;refine zAK 9 (by kernel_rfl) (by kernel_rfl) ?_
    simp only [List.take_succ_cons,List.take_zero,List.drop_succ_cons,List.drop_zero]
    repeat (first | go_big_quiet_step (fail) | quiet_step (fail))
    refine wq ?_;rintro _ ⟨⟨dq,osq⟩,rfl⟩;have Aj:=Bx.mk (HI.o.la (bq wr dq osq));clear q0 q1 HI;generalize grow (redrawn wr dq) osq=w1 at *;have c0:=Aj.o.l.cell 0 rfl;have f0:=Aj.o.l.frozen 0;go_wp2_with fail;have Ak:=Bx.mk (Aj.o.setL 0 (.int .i64 (max a0 b0)));clear Aj c0 f0;generalize World.setCell w1 _ _=w2 at *;have q0 : ∀ dk osk,(grow (redrawn w2 dk) osk).cell? ⟨gh,0,none⟩=some (.int .i64 a3):=cq (Ak.o.h.cell 0 rfl);have q1 : ∀ dk osk,(grow (redrawn w2 dk) osk).cell? ⟨gx,0,none⟩=some (.int .i64 b3):=cq (Ak.o.x.cell 0 rfl);refine zAK 9 (by kernel_rfl) (by kernel_rfl) ?_
    simp only [List.take_succ_cons,List.take_zero,List.drop_succ_cons,List.drop_zero]
    repeat (first | go_big_quiet_step (fail) | quiet_step (fail))
    refine wq ?_;rintro _ ⟨⟨dq,osq⟩,rfl⟩;have Am:=Bx.mk (Ak.o.la (bq w2 dq osq));clear q0 q1 Ak;generalize grow (redrawn w2 dq) osq=w3 at *;have c0:=Am.o.h.cell 0 rfl;have f0:=Am.o.h.frozen 0;go_wp2_with fail;have Ao:=Bx.mk (Am.o.setH 0 (.int .i64 (min a3 b3)));clear Am c0 f0;generalize World.setCell w3 _ _=w4 at *
    go_roundw
    case rel=>exact ⟨1,by omega,rfl,Ao⟩
    case measure=>simp [intOf]
  · have t0:decide (((1:Nat):Int)<3)=true:=by decide
    have q0 : ∀ dk osk,(grow (redrawn wr dk) osk).cell? ⟨gl,1,none⟩=some (.int .i64 a1):=cq (HI.o.l.cell 1 rfl);have q1 : ∀ dk osk,(grow (redrawn wr dk) osk).cell? ⟨gm,1,none⟩=some (.int .i64 b1):=cq (HI.o.m.cell 1 rfl);have mx:(if a1<b1 then b1 else a1)=max a1 b1:=by split <;> omega
    have mn:(if b4<a4 then b4 else a4)=min a4 b4:=by split <;> omega
    go_wp2_with fail;refine zAK 9 (by kernel_rfl) (by kernel_rfl) ?_
    simp only [List.take_succ_cons,List.take_zero,List.drop_succ_cons,List.drop_zero]
    repeat (first | go_big_quiet_step (fail) | quiet_step (fail))
    refine wq ?_;rintro _ ⟨⟨dq,osq⟩,rfl⟩;have Aj:=Bx.mk (HI.o.la (bq wr dq osq));clear q0 q1 HI;generalize grow (redrawn wr dq) osq=w1 at *;have c0:=Aj.o.l.cell 1 rfl;have f0:=Aj.o.l.frozen 1;go_wp2_with fail;have Ak:=Bx.mk (Aj.o.setL 1 (.int .i64 (max a1 b1)));clear Aj c0 f0;generalize World.setCell w1 _ _=w2 at *;have q0 : ∀ dk osk,(grow (redrawn w2 dk) osk).cell? ⟨gh,1,none⟩=some (.int .i64 a4):=cq (Ak.o.h.cell 1 rfl);have q1 : ∀ dk osk,(grow (redrawn w2 dk) osk).cell? ⟨gx,1,none⟩=some (.int .i64 b4):=cq (Ak.o.x.cell 1 rfl);refine zAK 9 (by kernel_rfl) (by kernel_rfl) ?_
    simp only [List.take_succ_cons,List.take_zero,List.drop_succ_cons,List.drop_zero]
    repeat (first | go_big_quiet_step (fail) | quiet_step (fail))
    refine wq ?_;rintro _ ⟨⟨dq,osq⟩,rfl⟩;have Am:=Bx.mk (Ak.o.la (bq w2 dq osq));clear q0 q1 Ak;generalize grow (redrawn w2 dq) osq=w3 at *;have c0:=Am.o.h.cell 1 rfl;have f0:=Am.o.h.frozen 1;go_wp2_with fail;have Ao:=Bx.mk (Am.o.setH 1 (.int .i64 (min a4 b4)));clear Am c0 f0;generalize World.setCell w3 _ _=w4 at *
    go_roundw
    case rel=>exact ⟨2,by omega,rfl,Ao⟩
    case measure=>simp [intOf]
  · have t0:decide (((2:Nat):Int)<3)=true:=by decide
    have q0 : ∀ dk osk,(grow (redrawn wr dk) osk).cell? ⟨gl,2,none⟩=some (.int .i64 a2):=cq (HI.o.l.cell 2 rfl);have q1 : ∀ dk osk,(grow (redrawn wr dk) osk).cell? ⟨gm,2,none⟩=some (.int .i64 b2):=cq (HI.o.m.cell 2 rfl);have mx:(if a2<b2 then b2 else a2)=max a2 b2:=by split <;> omega
    have mn:(if b5<a5 then b5 else a5)=min a5 b5:=by split <;> omega
    go_wp2_with fail;refine zAK 9 (by kernel_rfl) (by kernel_rfl) ?_
    simp only [List.take_succ_cons,List.take_zero,List.drop_succ_cons,List.drop_zero]
    repeat (first | go_big_quiet_step (fail) | quiet_step (fail))
    refine wq ?_;rintro _ ⟨⟨dq,osq⟩,rfl⟩;have Aj:=Bx.mk (HI.o.la (bq wr dq osq));clear q0 q1 HI;generalize grow (redrawn wr dq) osq=w1 at *;have c0:=Aj.o.l.cell 2 rfl;have f0:=Aj.o.l.frozen 2;go_wp2_with fail;have Ak:=Bx.mk (Aj.o.setL 2 (.int .i64 (max a2 b2)));clear Aj c0 f0;generalize World.setCell w1 _ _=w2 at *;have q0 : ∀ dk osk,(grow (redrawn w2 dk) osk).cell? ⟨gh,2,none⟩=some (.int .i64 a5):=cq (Ak.o.h.cell 2 rfl);have q1 : ∀ dk osk,(grow (redrawn w2 dk) osk).cell? ⟨gx,2,none⟩=some (.int .i64 b5):=cq (Ak.o.x.cell 2 rfl);refine zAK 9 (by kernel_rfl) (by kernel_rfl) ?_
    simp only [List.take_succ_cons,List.take_zero,List.drop_succ_cons,List.drop_zero]
    repeat (first | go_big_quiet_step (fail) | quiet_step (fail))
    refine wq ?_;rintro _ ⟨⟨dq,osq⟩,rfl⟩;have Am:=Bx.mk (Ak.o.la (bq w2 dq osq));clear q0 q1 Ak;generalize grow (redrawn w2 dq) osq=w3 at *;have c0:=Am.o.h.cell 2 rfl;have f0:=Am.o.h.frozen 2;go_wp2_with fail;have Ao:=Bx.mk (Am.o.setH 2 (.int .i64 (min a5 b5)));clear Am c0 f0;generalize World.setCell w3 _ _=w4 at *
    go_roundw
    case rel=>exact ⟨3,by omega,rfl,Ao⟩
    case measure=>simp [intOf]
  · have t0:decide (((3:Nat):Int)<3)=false:=by decide
    go_wp2_with fail;have kl:=HI.o.l;have kh:=HI.o.h;have kr:=HI.o.r;have hB:=HI.o.b;have JE:w.heap.size+1+1≤wr.heap.size:=Nat.le_of_lt kr.lt;clear HI;replace kl:Bk wr gl #[(max a0 b0:Int),(max a1 b1:Int),(max a2 b2:Int)] 173:=kl;replace kh:Bk wr gh #[(min a3 b3:Int),(min a4 b4:Int),(min a5 b5:Int)] 173:=kh;obtain ⟨cl0,cl1,cl2⟩:=kl.r3;obtain ⟨FC,FD,FE⟩:=kh.r3;have q0:=Bx.mk fun dk osk=>(zLG (max a0 b0) (max a1 b1) (max a2 b2) (grow (redrawn wr dk) osk));have q1:=Bx.mk fun dk osk=>(zLG (min a3 b3) (min a4 b4) (min a5 b5) (grow (redrawn wr dk) osk));refine zAI 5 1 (fun j=>[10].getD j 0) (fun j=>[50].getD j 0) (fun j=>[25].getD j 0) (fun _=>#[.int .i64 0,.int .i64 0,.int .i64 0,.int .i64 0,.int .i64 0,.int .i64 0]) (fun j=>[#[.int .i64 (max a0 b0),.int .i64 (max a1 b1),.int .i64 (max a2 b2),.int .i64 (min a3 b3),.int .i64 (min a4 b4),.int .i64 (min a5 b5)]].getD j #[]) (by kernel_rfl) (by kernel_rfl) ⟨fun j hj=>?_,fun j hj=>?_⟩ 56 (by kernel_rfl) (by rfl) ?_
    · match j,hj with
      | 0,_=>exact ⟨_,rfl,rfl,rfl,zBB _ rfl⟩
      | j+1,hj=>omega
    · match j,hj with
      | 0,_=>exact ⟨_,rfl,rfl,rfl,fun ρ w g h1 h2 hb=>zMt _ 10 50 rfl _ _ _ _ _ _ _ _ _ _ _ _ ρ w g h1 h2 hb⟩
      | j+1,hj=>omega
    simp only [List.take_succ_cons,List.take_zero]
    repeat (refine zOT (fun K hK=>?_);go_simp;first | (refine hK _ ?_;clear hK K) | (apply Exists.intro;refine ⟨fun _=>?_,hK _ ?_⟩;(first | ((with_reducible refine (q0.o _ _).mono ?_);exact fun _ _ h=>by simpa using h) | ((with_reducible refine (q1.o _ _).mono ?_);exact fun _ _ h=>by simpa using h));clear hK K))
    refine zOS ⟨fun j hj=>match j,hj with | 0,_=>rfl | j+1,hj=>absurd hj (by omega),fun g W1 hb hg Ph=>?_⟩
    obtain ⟨hc,kc⟩:=hg 0 (by omega)
    clear hg Ph;clear cl0 cl1 cl2;clear FC FD FE;clear q0;clear q1;replace hB:=tr hB hb;replace kl:=kl.la hb;replace kh:=kh.la hb;replace kr:=kr.la hb;replace JE:=nlt JE hb.size;clear hb;simp only [zKg,List.range_succ,List.range_zero,List.nil_append,List.cons_append,List.map_cons,List.map_nil,List.foldl_cons,List.foldl_nil,List.getD_cons_zero,List.getD_cons_succ];generalize g 0=gc at *;replace kc:Bk W1 gc #[(max a0 b0:Int),(max a1 b1:Int),(max a2 b2:Int),(min a3 b3:Int),(min a4 b4:Int),(min a5 b5:Int)] 25:=kc;clear kl kh;obtain ⟨cc0,cc1,cc2,cc3,cc4,cc5⟩:=kc.c6;go_wp2_with fail;refine (zK4 _ _ _ _ _ _ _).mono ?_;rintro _ w2 ⟨rfl,hb⟩;replace hB:=tr hB hb;replace kr:=kr.la hb;replace kc:=kc.la hb;replace JE:=nlt JE hb.size;clear hb;clear cc0 cc1 cc2 cc3 cc4 cc5;rw [He.o];cases e with
    | true =>
      obtain ⟨Fj,Fk,Fl,Fm,Fn,Fo⟩:=kr.c6;obtain ⟨GU,GV,GW,GX,GY,GZ⟩:=kr.f6;go_wp2_with fail;replace kr:=kr.put6 (.int .i64 0) (.int .i64 0) (.int .i64 0) (.int .i64 0) (.int .i64 0) (.int .i64 0);exact bodyPost_ret (v:=.agg #[(0:Int),(0:Int),(0:Int),(0:Int),(0:Int),(0:Int)]) (results_cell_row rfl _ _ _ 25 #[(0:Int),(0:Int),(0:Int),(0:Int),(0:Int),(0:Int)] (0,0) _ rfl kr Tryz.underlying25 rfl (by kernel_rfl)) rfl ⟨rfl,zBm hB (by omega) _ _ _ _ _ _⟩
    | false =>
      obtain ⟨Fj,Fk,Fl,Fm,Fn,Fo⟩:=kr.c6;obtain ⟨cc0,cc1,cc2,cc3,cc4,cc5⟩:=kc.c6;obtain ⟨GU,GV,GW,GX,GY,GZ⟩:=kr.f6;go_wp2_with fail;replace kr:=kr.put6 (.int .i64 (max a0 b0)) (.int .i64 (max a1 b1)) (.int .i64 (max a2 b2)) (.int .i64 (min a3 b3)) (.int .i64 (min a4 b4)) (.int .i64 (min a5 b5));exact bodyPost_ret (v:=.agg #[(max a0 b0:Int),(max a1 b1:Int),(max a2 b2:Int),(min a3 b3:Int),(min a4 b4:Int),(min a5 b5:Int)]) (results_cell_row rfl _ _ _ 25 #[(max a0 b0:Int),(max a1 b1:Int),(max a2 b2:Int),(min a3 b3:Int),(min a4 b4:Int),(min a5 b5:Int)] (0,0) _ rfl kr Tryz.underlying25 rfl (by kernel_rfl)) rfl ⟨rfl,zBm hB (by omega) _ _ _ _ _ _⟩
theorem zLD (a0 a1 a2 a3 a4 a5 b0 b1 b2 b3 b4 b5:Int) (w:World) :
 Calls Tryz.prog 80 #[.agg #[a0,a1,a2,a3,a4,a5],.agg #[b0,b1,b2,b3,b4,b5]] w fun e' w'=>e' = .returned (.agg #[.int .i64 (zn ⟨⟨a0,a1,a2⟩,⟨a3,a4,a5⟩⟩ ⟨⟨b0,b1,b2⟩,⟨b3,b4,b5⟩⟩).lo.x,.int .i64 (zn ⟨⟨a0,a1,a2⟩,⟨a3,a4,a5⟩⟩ ⟨⟨b0,b1,b2⟩,⟨b3,b4,b5⟩⟩).lo.y,.int .i64 (zn ⟨⟨a0,a1,a2⟩,⟨a3,a4,a5⟩⟩ ⟨⟨b0,b1,b2⟩,⟨b3,b4,b5⟩⟩).lo.z,.int .i64 (zn ⟨⟨a0,a1,a2⟩,⟨a3,a4,a5⟩⟩ ⟨⟨b0,b1,b2⟩,⟨b3,b4,b5⟩⟩).hi.x,.int .i64 (zn ⟨⟨a0,a1,a2⟩,⟨a3,a4,a5⟩⟩ ⟨⟨b0,b1,b2⟩,⟨b3,b4,b5⟩⟩).hi.y,.int .i64 (zn ⟨⟨a0,a1,a2⟩,⟨a3,a4,a5⟩⟩ ⟨⟨b0,b1,b2⟩,⟨b3,b4,b5⟩⟩).hi.z])∧Below w.heap.size w w':=by
 have h:=zLA a0 a1 a2 a3 a4 a5 b0 b1 b2 b3 b4 b5 _ rfl w;have hM:zn ⟨⟨a0,a1,a2⟩,⟨a3,a4,a5⟩⟩ ⟨⟨b0,b1,b2⟩,⟨b3,b4,b5⟩⟩=if zS ⟨⟨max a0 b0,max a1 b1,max a2 b2⟩,⟨min a3 b3,min a4 b4,min a5 b5⟩⟩=true then Box.zero else ⟨⟨max a0 b0,max a1 b1,max a2 b2⟩,⟨min a3 b3,min a4 b4,min a5 b5⟩⟩:=rfl;rw [hM];cases he:zS ⟨⟨max a0 b0,max a1 b1,max a2 b2⟩,⟨min a3 b3,min a4 b4,min a5 b5⟩⟩ with
 | true=>rw [he] at h;simpa [Box.zero,Pt.zero] using h
 | false=>rw [he] at h;simpa using h
theorem zMT {a b:Box} {m:Int} (hm:0≤m) (h:Small b m):Small (zn a b) m:=by
 obtain ⟨h1,h2,h3,h4,h5,h6⟩:=h;unfold zn;split
 · exact ⟨by simp [Box.zero,Pt.zero];omega,by simp [Box.zero,Pt.zero];omega,by simp [Box.zero,Pt.zero];omega,by simp [Box.zero,Pt.zero];omega,by simp [Box.zero,Pt.zero];omega,by simp [Box.zero,Pt.zero];omega⟩
 · unfold zGx;exact ⟨by simp only [];omega,by simp only [];omega,by simp only [];omega,by simp only [];omega,by simp only [];omega,by simp only [];omega⟩
theorem zK1 (a0 a1 a2 a3 a4 a5 b0 b1 b2 b3 b4 b5:Int) (hS:Small ⟨⟨b0,b1,b2⟩,⟨b3,b4,b5⟩⟩ 1048575) (w:World) :
 Calls Tryz.prog 106 #[.agg #[a0,a1,a2,a3,a4,a5],.agg #[b0,b1,b2,b3,b4,b5]] w fun e w'=>e = .returned (.bool (zAE (zn ⟨⟨a0,a1,a2⟩,⟨a3,a4,a5⟩⟩ ⟨⟨b0,b1,b2⟩,⟨b3,b4,b5⟩⟩) == zAE ⟨⟨b0,b1,b2⟩,⟨b3,b4,b5⟩⟩))∧Below w.heap.size w w':=by
 have h1:=Bx.mk fun W=>zLD a0 a1 a2 a3 a4 a5 b0 b1 b2 b3 b4 b5 W;have hM:Small (zn ⟨⟨a0,a1,a2⟩,⟨a3,a4,a5⟩⟩ ⟨⟨b0,b1,b2⟩,⟨b3,b4,b5⟩⟩) 1048575:=zMT (by decide) hS
 have h2:=Bx.mk fun W=>zLO (zn ⟨⟨a0,a1,a2⟩,⟨a3,a4,a5⟩⟩ ⟨⟨b0,b1,b2⟩,⟨b3,b4,b5⟩⟩).lo.x (zn ⟨⟨a0,a1,a2⟩,⟨a3,a4,a5⟩⟩ ⟨⟨b0,b1,b2⟩,⟨b3,b4,b5⟩⟩).lo.y (zn ⟨⟨a0,a1,a2⟩,⟨a3,a4,a5⟩⟩ ⟨⟨b0,b1,b2⟩,⟨b3,b4,b5⟩⟩).lo.z (zn ⟨⟨a0,a1,a2⟩,⟨a3,a4,a5⟩⟩ ⟨⟨b0,b1,b2⟩,⟨b3,b4,b5⟩⟩).hi.x (zn ⟨⟨a0,a1,a2⟩,⟨a3,a4,a5⟩⟩ ⟨⟨b0,b1,b2⟩,⟨b3,b4,b5⟩⟩).hi.y (zn ⟨⟨a0,a1,a2⟩,⟨a3,a4,a5⟩⟩ ⟨⟨b0,b1,b2⟩,⟨b3,b4,b5⟩⟩).hi.z hM W;have h3:=Bx.mk fun W=>zLO b0 b1 b2 b3 b4 b5 hS W;have hV:zAE ⟨⟨(zn ⟨⟨a0,a1,a2⟩,⟨a3,a4,a5⟩⟩ ⟨⟨b0,b1,b2⟩,⟨b3,b4,b5⟩⟩).lo.x,(zn ⟨⟨a0,a1,a2⟩,⟨a3,a4,a5⟩⟩ ⟨⟨b0,b1,b2⟩,⟨b3,b4,b5⟩⟩).lo.y,(zn ⟨⟨a0,a1,a2⟩,⟨a3,a4,a5⟩⟩ ⟨⟨b0,b1,b2⟩,⟨b3,b4,b5⟩⟩).lo.z⟩,⟨(zn ⟨⟨a0,a1,a2⟩,⟨a3,a4,a5⟩⟩ ⟨⟨b0,b1,b2⟩,⟨b3,b4,b5⟩⟩).hi.x,(zn ⟨⟨a0,a1,a2⟩,⟨a3,a4,a5⟩⟩ ⟨⟨b0,b1,b2⟩,⟨b3,b4,b5⟩⟩).hi.y,(zn ⟨⟨a0,a1,a2⟩,⟨a3,a4,a5⟩⟩ ⟨⟨b0,b1,b2⟩,⟨b3,b4,b5⟩⟩).hi.z⟩⟩=zAE (zn ⟨⟨a0,a1,a2⟩,⟨a3,a4,a5⟩⟩ ⟨⟨b0,b1,b2⟩,⟨b3,b4,b5⟩⟩):=rfl;rw [hV] at h2;generalize zAE (zn ⟨⟨a0,a1,a2⟩,⟨a3,a4,a5⟩⟩ ⟨⟨b0,b1,b2⟩,⟨b3,b4,b5⟩⟩)=v1 at *;generalize zAE ⟨⟨b0,b1,b2⟩,⟨b3,b4,b5⟩⟩=v2 at *;generalize (zn ⟨⟨a0,a1,a2⟩,⟨a3,a4,a5⟩⟩ ⟨⟨b0,b1,b2⟩,⟨b3,b4,b5⟩⟩).lo.x=m0 at *;generalize (zn ⟨⟨a0,a1,a2⟩,⟨a3,a4,a5⟩⟩ ⟨⟨b0,b1,b2⟩,⟨b3,b4,b5⟩⟩).lo.y=m1 at *;generalize (zn ⟨⟨a0,a1,a2⟩,⟨a3,a4,a5⟩⟩ ⟨⟨b0,b1,b2⟩,⟨b3,b4,b5⟩⟩).lo.z=m2 at *;generalize (zn ⟨⟨a0,a1,a2⟩,⟨a3,a4,a5⟩⟩ ⟨⟨b0,b1,b2⟩,⟨b3,b4,b5⟩⟩).hi.x=m3 at *;generalize (zn ⟨⟨a0,a1,a2⟩,⟨a3,a4,a5⟩⟩ ⟨⟨b0,b1,b2⟩,⟨b3,b4,b5⟩⟩).hi.y=m4 at *;generalize (zn ⟨⟨a0,a1,a2⟩,⟨a3,a4,a5⟩⟩ ⟨⟨b0,b1,b2⟩,⟨b3,b4,b5⟩⟩).hi.z=m5 at *;clear hS hM hV;go_enter Tryz.func106,Tryz.ntmps106;go_wp2_with fail;generalize hW:(w.alloc _).alloc _=W;have JE:=sz2 hW;have hB:=bl2 hW;have ka:Bk W (w.heap.size) #[a0,a1,a2,a3,a4,a5] 25:=bk1 hW;have kb:Bk W (w.heap.size+1) #[b0,b1,b2,b3,b4,b5] 25:=bk0 hW;clear hW;obtain ⟨ca0,ca1,ca2,ca3,ca4,ca5⟩:=ka.r6;obtain ⟨Ev,cb1,cb2,cb3,Ew,Ex⟩:=kb.r6;have q0:=Bx.mk fun dk osk=>rq (h1.o (grow (redrawn W dk) osk));have q1:=Bx.mk fun dk osk=>rq (h2.o (grow (redrawn W dk) osk));have q2:=Bx.mk fun dk osk=>rq (h3.o (grow (redrawn W dk) osk));refine wg ?_
 repeat (first | go_big_quiet_step (with_reducible first | exact q0.o _ _ | exact q1.o _ _ | exact q2.o _ _) | quiet_step (with_reducible first | exact q0.o _ _ | exact q1.o _ _ | exact q2.o _ _))
 refine wq ?_;rintro _ ⟨⟨dq,osq⟩,rfl⟩;have hb:=bq W dq osq;clear ca0 ca1 ca2 ca3 ca4 ca5;clear Ev cb1 cb2 cb3 Ew Ex;clear q0;clear q1;clear q2;replace hB:=tr hB hb;replace ka:=ka.la hb;replace kb:=kb.la hb;replace JE:=nlt JE hb.size;clear hb;generalize grow (redrawn W dq) osq=W1 at *;go_wp2_with fail;go_ret;exact ⟨rfl,hB⟩
theorem zLN (a b c d e f:Int) (ha:Option Addr) (hcp:Nat) (xs:List Int) (hl:xs.length≤300) (w:World) (Rn:Sl w .i64 ha xs) :
 Calls Tryz.prog 44 #[.agg #[a,b,c,d,e,f,.slice ha xs.length hcp]] w fun e' w'=>e' = .returned (.bool (zN6 ⟨⟨a,b,c⟩,⟨d,e,f⟩⟩ xs))∧Below w.heap.size w w':=by
 have R7:=Bx.mk fun W=>zw a b c W;have R8:=Bx.mk fun W=>zw d e f W;have hV:=show zN6 ⟨⟨a,b,c⟩,⟨d,e,f⟩⟩ xs=(okP ⟨a,b,c⟩ && okP ⟨d,e,f⟩ && (!zS ⟨⟨a,b,c⟩,⟨d,e,f⟩⟩ || decide (⟨⟨a,b,c⟩,⟨d,e,f⟩⟩=Box.zero)) && decide (zAE ⟨⟨a,b,c⟩,⟨d,e,f⟩⟩≤2097152) && decide (zAE ⟨⟨a,b,c⟩,⟨d,e,f⟩⟩=xs.length) && xs.all Pal.cell) from rfl;have QE:okP ⟨a,b,c⟩=true→okP ⟨d,e,f⟩=true→Small ⟨⟨a,b,c⟩,⟨d,e,f⟩⟩ 1048575:=fun h1 h2=>zJG (by unfold okB;rw [h1,h2];rfl)
 have So:zS ⟨⟨a,b,c⟩,⟨d,e,f⟩⟩=false→1≤zAE ⟨⟨a,b,c⟩,⟨d,e,f⟩⟩:=fun h=>zBW h;have SR:zS ⟨⟨a,b,c⟩,⟨d,e,f⟩⟩=true→zAE ⟨⟨a,b,c⟩,⟨d,e,f⟩⟩=0:=fun h=>zN8 h;have Sn:okP ⟨a,b,c⟩=true→okP ⟨d,e,f⟩=true → ∀ W,Calls Tryz.prog 45 #[.agg #[a,b,c,d,e,f]] W fun e' w'=>e' = .returned (.int .i64 (zAE ⟨⟨a,b,c⟩,⟨d,e,f⟩⟩))∧Below W.heap.size W w':=fun h1 h2 W=>zLO a b c d e f (QE h1 h2) W;have hq:=fun W=>zIi a b c d e f 0 0 0 0 0 0 W;rw [show decide (⟨⟨a,b,c⟩,⟨d,e,f⟩⟩=Box.zero)=decide ((⟨⟨a,b,c⟩,⟨d,e,f⟩⟩:Box)=⟨⟨0,0,0⟩,⟨0,0,0⟩⟩) from rfl] at hV;have Db:=Bx.mk Rn;clear Rn QE;generalize hr:zN6 ⟨⟨a,b,c⟩,⟨d,e,f⟩⟩ xs=r at *;generalize okP ⟨a,b,c⟩=r1 at *;generalize okP ⟨d,e,f⟩=r2 at *;generalize zS ⟨⟨a,b,c⟩,⟨d,e,f⟩⟩=em at *;generalize decide ((⟨⟨a,b,c⟩,⟨d,e,f⟩⟩:Box)=⟨⟨0,0,0⟩,⟨0,0,0⟩⟩)=bz at *;generalize zAE ⟨⟨a,b,c⟩,⟨d,e,f⟩⟩=v at *;clear hr;cases r1 with
 | false =>
   have Hr:=Bx.mk (show r=false by simpa using hV)
   clear hV So SR Sn hq;go_enter Tryz.func44,Tryz.ntmps44;go_wp2_with fail;generalize hW:w.alloc _=W;have JE:=sz1 hW;have hB:=bl1 hW;have kg:Bk W (w.heap.size) #[a,b,c,d,e,f,.slice ha xs.length hcp] 28:=bk0 hW;clear hW;refine (R7.o _).mono ?_;rintro _ w1 ⟨rfl,hb⟩;replace hB:=tr hB hb;replace kg:=kg.la hb;replace JE:=nlt JE hb.size;clear hb;obtain ⟨F4,F5,F6,F7,F8,F9,FA⟩:=kg.c7;go_wp2_with fail;clear F4 F5 F6 F7 F8 F9 FA;refine (R8.o _).mono ?_;rintro _ w2 ⟨rfl,hb⟩;replace hB:=tr hB hb;replace kg:=kg.la hb;replace JE:=nlt JE hb.size;clear hb;obtain ⟨F4,F5,F6,F7,F8,F9,FA⟩:=kg.c7;go_wp2_with fail;clear F4 F5 F6 F7 F8 F9 FA;go_ret;exact ⟨by rw [Hr.o];rfl,hB⟩
 | true =>
   cases r2 with
   | false =>
     have Hr:=Bx.mk (show r=false by simpa using hV)
     clear hV So SR Sn hq;go_enter Tryz.func44,Tryz.ntmps44;go_wp2_with fail;generalize hW:w.alloc _=W;have JE:=sz1 hW;have hB:=bl1 hW;have kg:Bk W (w.heap.size) #[a,b,c,d,e,f,.slice ha xs.length hcp] 28:=bk0 hW;clear hW;refine (R7.o _).mono ?_;rintro _ w1 ⟨rfl,hb⟩;replace hB:=tr hB hb;replace kg:=kg.la hb;replace JE:=nlt JE hb.size;clear hb;obtain ⟨F4,F5,F6,F7,F8,F9,FA⟩:=kg.c7;go_wp2_with fail;clear F4 F5 F6 F7 F8 F9 FA;refine (R8.o _).mono ?_;rintro _ w2 ⟨rfl,hb⟩;replace hB:=tr hB hb;replace kg:=kg.la hb;replace JE:=nlt JE hb.size;clear hb;obtain ⟨F4,F5,F6,F7,F8,F9,FA⟩:=kg.c7;go_wp2_with fail;clear F4 F5 F6 F7 F8 F9 FA;go_ret;exact ⟨by rw [Hr.o];rfl,hB⟩
   | true =>
     have hv:=Bx.mk (Sn rfl rfl);clear Sn;cases em with
     | true =>
       obtain rfl:v=0:=SR rfl;clear SR So;cases bz with
       | false =>
         have Hr:=Bx.mk (show r=false by simpa using hV)
         clear hV;go_enter Tryz.func44,Tryz.ntmps44;go_wp2_with fail;generalize hW:w.alloc _=W;have JE:=sz1 hW;have hB:=bl1 hW;have kg:Bk W (w.heap.size) #[a,b,c,d,e,f,.slice ha xs.length hcp] 28:=bk0 hW;clear hW;refine (R7.o _).mono ?_;rintro _ w1 ⟨rfl,hb⟩;replace hB:=tr hB hb;replace kg:=kg.la hb;replace JE:=nlt JE hb.size;clear hb;obtain ⟨F4,F5,F6,F7,F8,F9,FA⟩:=kg.c7;go_wp2_with fail;clear F4 F5 F6 F7 F8 F9 FA;refine (R8.o _).mono ?_;rintro _ w2 ⟨rfl,hb⟩;replace hB:=tr hB hb;replace kg:=kg.la hb;replace JE:=nlt JE hb.size;clear hb;obtain ⟨F4,F5,F6,F7,F8,F9,FA⟩:=kg.c7;go_wp2_with fail;clear F4 F5 F6 F7 F8 F9 FA;refine (hv.o _).mono ?_;rintro _ w3 ⟨rfl,hb⟩;replace hB:=tr hB hb;replace kg:=kg.la hb;replace JE:=nlt JE hb.size;clear hb;obtain ⟨F4,F5,F6,F7,F8,F9,FA⟩:=kg.c7;go_wp2_with fail;clear F4 F5 F6 F7 F8 F9 FA;go_ret;exact ⟨by rw [Hr.o];rfl,hB⟩
       | true =>
         by_cases h0:xs.length=0
         · have Hr:=Bx.mk (show r=true by
            have:xs=[]:=List.eq_nil_of_length_eq_zero h0;rw [hV,this];rfl)
           have t0:((xs.length:Int) != 0)=false:=by rw [h0];rfl
           clear hV h0;go_enter Tryz.func44,Tryz.ntmps44;go_wp2_with fail;generalize hW:w.alloc _=W;have JE:=sz1 hW;have hB:=bl1 hW;have kg:Bk W (w.heap.size) #[a,b,c,d,e,f,.slice ha xs.length hcp] 28:=bk0 hW;clear hW;refine (R7.o _).mono ?_;rintro _ w1 ⟨rfl,hb⟩;replace hB:=tr hB hb;replace kg:=kg.la hb;replace JE:=nlt JE hb.size;clear hb;obtain ⟨F4,F5,F6,F7,F8,F9,FA⟩:=kg.c7;go_wp2_with fail;clear F4 F5 F6 F7 F8 F9 FA;refine (R8.o _).mono ?_;rintro _ w2 ⟨rfl,hb⟩;replace hB:=tr hB hb;replace kg:=kg.la hb;replace JE:=nlt JE hb.size;clear hb;obtain ⟨F4,F5,F6,F7,F8,F9,FA⟩:=kg.c7;go_wp2_with fail;clear F4 F5 F6 F7 F8 F9 FA;refine (hv.o _).mono ?_;rintro _ w3 ⟨rfl,hb⟩;replace hB:=tr hB hb;replace kg:=kg.la hb;replace JE:=nlt JE hb.size;clear hb;obtain ⟨F4,F5,F6,F7,F8,F9,FA⟩:=kg.c7;go_wp2_with fail;clear F4 F5 F6 F7 F8 F9 FA
           go_loop [6] (fun v6=>v6 = .int .i64 0) (fun _=>0)
           case atStart=>rfl
           case round =>
            subst hrel;have t9:decide ((0:Int)<0)=false:=by decide
            go_wp2_with fail;go_ret;exact ⟨by rw [Hr.o];rfl,hB⟩
         · have t0:((xs.length:Int) != 0)=true:=bne_iff_ne.2 (by omega)
           have Hr:=Bx.mk (show r=false by
            have:decide ((0:Int)=xs.length)=false:=decide_eq_false (by omega)
            rw [hV,this,Bool.and_false,Bool.false_and])
           clear hV;go_enter Tryz.func44,Tryz.ntmps44;go_wp2_with fail;generalize hW:w.alloc _=W;have JE:=sz1 hW;have hB:=bl1 hW;have kg:Bk W (w.heap.size) #[a,b,c,d,e,f,.slice ha xs.length hcp] 28:=bk0 hW;clear hW;refine (R7.o _).mono ?_;rintro _ w1 ⟨rfl,hb⟩;replace hB:=tr hB hb;replace kg:=kg.la hb;replace JE:=nlt JE hb.size;clear hb;obtain ⟨F4,F5,F6,F7,F8,F9,FA⟩:=kg.c7;go_wp2_with fail;clear F4 F5 F6 F7 F8 F9 FA;refine (R8.o _).mono ?_;rintro _ w2 ⟨rfl,hb⟩;replace hB:=tr hB hb;replace kg:=kg.la hb;replace JE:=nlt JE hb.size;clear hb;obtain ⟨F4,F5,F6,F7,F8,F9,FA⟩:=kg.c7;go_wp2_with fail;clear F4 F5 F6 F7 F8 F9 FA;refine (hv.o _).mono ?_;rintro _ w3 ⟨rfl,hb⟩;replace hB:=tr hB hb;replace kg:=kg.la hb;replace JE:=nlt JE hb.size;clear hb;obtain ⟨F4,F5,F6,F7,F8,F9,FA⟩:=kg.c7;go_wp2_with fail;clear F4 F5 F6 F7 F8 F9 FA;go_ret;exact ⟨by rw [Hr.o];rfl,hB⟩
     | false =>
       have SV:=So rfl;clear SR So hq;have t00:(v == 0)=false:=beq_eq_false_iff_ne.2 (by omega)
       by_cases h1:2097152<v
       · have t1:decide (2097152<v)=true:=by simpa using h1
         have Hr:=Bx.mk (show r=false by
          have:decide (v≤2097152)=false:=decide_eq_false (by omega)
          rw [hV,this];simp)
         clear hV;go_enter Tryz.func44,Tryz.ntmps44;go_wp2_with fail;generalize hW:w.alloc _=W;have JE:=sz1 hW;have hB:=bl1 hW;have kg:Bk W (w.heap.size) #[a,b,c,d,e,f,.slice ha xs.length hcp] 28:=bk0 hW;clear hW;refine (R7.o _).mono ?_;rintro _ w1 ⟨rfl,hb⟩;replace hB:=tr hB hb;replace kg:=kg.la hb;replace JE:=nlt JE hb.size;clear hb;obtain ⟨F4,F5,F6,F7,F8,F9,FA⟩:=kg.c7;go_wp2_with fail;clear F4 F5 F6 F7 F8 F9 FA;refine (R8.o _).mono ?_;rintro _ w2 ⟨rfl,hb⟩;replace hB:=tr hB hb;replace kg:=kg.la hb;replace JE:=nlt JE hb.size;clear hb;obtain ⟨F4,F5,F6,F7,F8,F9,FA⟩:=kg.c7;go_wp2_with fail;clear F4 F5 F6 F7 F8 F9 FA;refine (hv.o _).mono ?_;rintro _ w3 ⟨rfl,hb⟩;replace hB:=tr hB hb;replace kg:=kg.la hb;replace JE:=nlt JE hb.size;clear hb;obtain ⟨F4,F5,F6,F7,F8,F9,FA⟩:=kg.c7;go_wp2_with fail;clear F4 F5 F6 F7 F8 F9 FA;go_ret;exact ⟨by rw [Hr.o];rfl,hB⟩
       · have t1:decide (2097152<v)=false:=by simpa using h1
         by_cases h2:v=xs.length
         · have t2:((xs.length:Int) != v)=false:=by rw [h2];simp
           have Hv:=Bx.mk (show r=xs.all Pal.cell by
            have:decide (v≤2097152)=true:=decide_eq_true (by omega)
            rw [hV,this,h2];simp)
           have H2:=Bx.mk h2;clear hV h2;go_enter Tryz.func44,Tryz.ntmps44;go_wp2_with fail;generalize hW:w.alloc _=W;have JE:=sz1 hW;have hB:=bl1 hW;have kg:Bk W (w.heap.size) #[a,b,c,d,e,f,.slice ha xs.length hcp] 28:=bk0 hW;clear hW;refine (R7.o _).mono ?_;rintro _ w1 ⟨rfl,hb⟩;replace hB:=tr hB hb;replace kg:=kg.la hb;replace JE:=nlt JE hb.size;clear hb;obtain ⟨F4,F5,F6,F7,F8,F9,FA⟩:=kg.c7;go_wp2_with fail;clear F4 F5 F6 F7 F8 F9 FA;refine (R8.o _).mono ?_;rintro _ w2 ⟨rfl,hb⟩;replace hB:=tr hB hb;replace kg:=kg.la hb;replace JE:=nlt JE hb.size;clear hb;obtain ⟨F4,F5,F6,F7,F8,F9,FA⟩:=kg.c7;go_wp2_with fail;clear F4 F5 F6 F7 F8 F9 FA;refine (hv.o _).mono ?_;rintro _ w3 ⟨rfl,hb⟩;replace hB:=tr hB hb;replace kg:=kg.la hb;replace JE:=nlt JE hb.size;clear hb;obtain ⟨F4,F5,F6,F7,F8,F9,FA⟩:=kg.c7;go_wp2_with fail;clear F4 F5 F6 F7 F8 F9 FA;have hBv:v≤300:=by have:=H2.o;omega
           have HB:=Bx.mk hB;clear hB
           go_loop [6] (fun v6 => ∃ k:Nat,(k:Int)≤v∧v6 = .int .i64 k∧Bx ((xs.take k).all Pal.cell=true)) (fun i=>300 - (intOf i).toNat)
           case atStart=>exact ⟨0,by omega,rfl,⟨rfl⟩⟩
           case round =>
            obtain ⟨k,hk,rfl,Jd⟩:=hrel;by_cases hlt:(k:Int)<v
            · have t9:decide ((k:Int)<v)=true:=by simpa using hlt
              obtain ⟨x,hx⟩ : ∃ x,xs[k]? = some x:=⟨_,lge (by have:=H2.o;omega)⟩
              obtain ⟨b',off,Ka,hc⟩:=(Db.o.below HB.o) k x hx;have b1:(0:Int)≤(k:Int):=by omega
              have b2:(k:Int)<(xs.length:Int):=by have:=H2.o;omega
              have FA:=kg.cell 6 rfl;have HX:=Bx.mk hx;have hm:=Bx.mk fun W=>zLC x W;clear hx;subst Ka;cases hp:Pal.cell x with
              | true =>
                rw [hp] at hm;have Je:=Bx.mk (zA7 HX.o Jd.o hp);clear hp;go_wp2_with fail;refine (hm.o _).mono ?_;rintro _ _ ⟨rfl,rfl⟩;go_wp2_with fail;go_round
                case rel=>exact ⟨k+1,by omega,by go_num,Je⟩
                case measure=>simp [intOf];omega
              | false =>
                rw [hp] at hm;have Hr:=Bx.mk (Hv.o.trans (zA8 HX.o hp));clear hp;go_wp2_with fail;refine (hm.o _).mono ?_;rintro _ _ ⟨rfl,rfl⟩;go_wp2_with fail;go_ret;exact ⟨by rw [Hr.o];rfl,HB.o⟩
            · have t9:decide ((k:Int)<v)=false:=by simpa using hlt
              have Hr:=Bx.mk (show r=true from Hv.o.trans (by
               have h:=Jd.o;rwa [List.take_of_length_le (by have:=H2.o;omega)] at h))
              go_wp2_with fail;go_ret;exact ⟨by rw [Hr.o];rfl,HB.o⟩
         · have t2:((xs.length:Int) != v)=true:=bne_iff_ne.2 (fun e=>h2 e.symm)
           have Hr:=Bx.mk (show r=false by
            have:decide (v=xs.length)=false:=decide_eq_false h2;rw [hV,this];simp)
           clear hV h2;go_enter Tryz.func44,Tryz.ntmps44;go_wp2_with fail;generalize hW:w.alloc _=W;have JE:=sz1 hW;have hB:=bl1 hW;have kg:Bk W (w.heap.size) #[a,b,c,d,e,f,.slice ha xs.length hcp] 28:=bk0 hW;clear hW;refine (R7.o _).mono ?_;rintro _ w1 ⟨rfl,hb⟩;replace hB:=tr hB hb;replace kg:=kg.la hb;replace JE:=nlt JE hb.size;clear hb;obtain ⟨F4,F5,F6,F7,F8,F9,FA⟩:=kg.c7;go_wp2_with fail;clear F4 F5 F6 F7 F8 F9 FA;refine (R8.o _).mono ?_;rintro _ w2 ⟨rfl,hb⟩;replace hB:=tr hB hb;replace kg:=kg.la hb;replace JE:=nlt JE hb.size;clear hb;obtain ⟨F4,F5,F6,F7,F8,F9,FA⟩:=kg.c7;go_wp2_with fail;clear F4 F5 F6 F7 F8 F9 FA;refine (hv.o _).mono ?_;rintro _ w3 ⟨rfl,hb⟩;replace hB:=tr hB hb;replace kg:=kg.la hb;replace JE:=nlt JE hb.size;clear hb;obtain ⟨F4,F5,F6,F7,F8,F9,FA⟩:=kg.c7;go_wp2_with fail;clear F4 F5 F6 F7 F8 F9 FA;go_ret;exact ⟨by rw [Hr.o];rfl,hB⟩
structure RnI (w:World) (a b c d e f:Int) (gr gk:Nat) (k:Nat) (v:Value) (wr:World):Prop where
 kk:Bk wr gk #[a,b,c,d,e,f,v] 28
 own:Own wr (gk+1) 3 .i64 v (List.replicate k 0)
 kr:Bk wr gr #[(0:Int),(0:Int),(0:Int),(0:Int),(0:Int),(0:Int),.slice none 0 0] 28
 bel:Below w.heap.size w wr
 lt:w.heap.size≤gr∧gr<gk
theorem zLF (a b c d e f:Int) (QE:okB ⟨⟨a,b,c⟩,⟨d,e,f⟩⟩=true) (he:zS ⟨⟨a,b,c⟩,⟨d,e,f⟩⟩=false) (n:Nat) (hn:zAE ⟨⟨a,b,c⟩,⟨d,e,f⟩⟩=n) (OY:n≤5000) (w:World) :
 Calls Tryz.prog 87 #[.agg #[a,b,c,d,e,f],(0:Int)] w fun e' w' => ∃ g cap,e' = .returned (.tuple #[.agg #[a,b,c,d,e,f,.slice (some ⟨g,0,none⟩) n cap],(0:Int)])∧Own w' w.heap.size 3 .i64 (.slice (some ⟨g,0,none⟩) n cap) (List.replicate n 0)∧Below w.heap.size w w':=by
 have QF:okP ⟨a,b,c⟩=true∧okP ⟨d,e,f⟩=true:=by simpa [okB] using QE
 have R7:=Bx.mk fun W=>zw a b c W;have R8:=Bx.mk fun W=>zw d e f W;have hm:=Bx.mk fun W=>zLC 0 W;have hv:=Bx.mk fun W=>zLO a b c d e f (zJG QE) W;have Qn:1≤n:=by have:=zBW he;omega
 rw [QF.1] at R7;rw [QF.2] at R8;rw [hn] at hv;rw [show Pal.cell 0=true from rfl] at hm;clear QE he QF hn;have t1:((n:Int) == 0)=false:=beq_eq_false_iff_ne.2 (by omega)
 have t2:decide (2097152<(n:Int))=false:=by simp;omega
 go_enter Tryz.func87,Tryz.ntmps87;go_wp2_with fail;generalize hW:(w.alloc _).alloc _=W;have JE:=sz2 hW;have hB:=bl2 hW;have kb:Bk W (w.heap.size) #[a,b,c,d,e,f] 25:=bk1 hW;have kr:Bk W (w.heap.size+1) #[(0:Int),(0:Int),(0:Int),(0:Int),(0:Int),(0:Int),.slice none 0 0] 28:=bk0 hW;clear hW;refine (R7.o _).mono ?_;rintro _ w1 ⟨rfl,hb⟩;replace hB:=tr hB hb;replace kb:=kb.la hb;replace kr:=kr.la hb;replace JE:=nlt JE hb.size;clear hb;obtain ⟨Ev,cb1,cb2,cb3,Ew,Ex⟩:=kb.c6;go_wp2_with fail;clear Ev cb1 cb2 cb3 Ew Ex;refine (R8.o _).mono ?_;rintro _ w2 ⟨rfl,hb⟩;replace hB:=tr hB hb;replace kb:=kb.la hb;replace kr:=kr.la hb;replace JE:=nlt JE hb.size;clear hb;go_wp2_with fail;refine (hm.o _).mono ?_;rintro _ _ ⟨rfl,rfl⟩;obtain ⟨Ev,cb1,cb2,cb3,Ew,Ex⟩:=kb.c6;go_wp2_with fail;refine (hv.o _).mono ?_;rintro _ w3 ⟨rfl,hb⟩;clear Ev cb1 cb2 cb3 Ew Ex;replace hB:=tr hB hb;replace kb:=kb.la hb;replace kr:=kr.la hb;replace JE:=nlt JE hb.size;clear hb;obtain ⟨Ev,cb1,cb2,cb3,Ew,Ex⟩:=kb.c6;go_wp2_with fail;generalize hW3:w3.alloc _=V3
 have HI:Bx (RnI w a b c d e f (w.heap.size+1) w3.heap.size 0 (.slice none 0 0) V3):=⟨by
  have kk:Bk V3 w3.heap.size #[a,b,c,d,e,f,.slice none 0 0] 28:=bk0 hW3 rfl;have Jv:=bl1 hW3;exact ⟨kk,Own.nil _ _ _ _,kr.la Jv,tr hB Jv,by omega,kr.lt⟩⟩
 clear Ev cb1 cb2 cb3 Ew Ex;clear hW3 kb kr hB R7 R8 hm hv JE;generalize w3.heap.size=gk at *;obtain ⟨gr,NQ⟩ : ∃ gr,gr=w.heap.size+1:=⟨_,rfl⟩;rw [←NQ] at HI ⊢;clear NQ
 go_loopw [11] (fun v11 wr => ∃ (k:Nat) (v:Value),k≤n∧v11 = .int .i64 k∧Bx (RnI w a b c d e f gr gk k v wr)) (fun i _=>n - (intOf i).toNat)
 case atStart=>exact ⟨0,_,Nat.zero_le _,rfl,HI⟩
 case round =>
  clear HI;obtain ⟨k,v,hk,rfl,HI⟩:=hrel;by_cases hlt:k<n
  · have t0:decide ((k:Int)<(n:Int))=true:=by simp;omega
    obtain ⟨pa0,pc0,rfl,-⟩:=HI.o.own.form;have P7:(List.replicate k (0:Int)).length=k:=List.length_replicate;rw [P7] at HI;have FA:=HI.o.kk.cell 6 rfl;have NK:gk+1≤wr.heap.size:=HI.o.kk.lt;have OX:(List.replicate k (0:Int)++[0]).length=k+1:=by simp
    have Ph:=Bx.mk (show ∀ x,x<gk+1→(Value.slice pa0 k pc0).ownBlock ≠ some x from fun x hx e=>by have:=(HI.o.own.lt x e).1;omega)
    have Dh:=Bx.mk (show (List.replicate k (0:Int)).length≤1000000000 by rw [List.length_replicate];omega)
    go_wp2_with (first
     | (at_builtin
        refine zAG rfl _ _ 26 rfl 3 .i64 (.int .i64 0) 8 (by omega) Tryz.underlying26 (by kernel_rfl) rfl (gk+1) _ (List.replicate k 0) rfl (HI.o.own.alloc _) 0 ⟨wr.heap.size,0,none⟩ 1 rfl (zF _ _ _) Dh.o (zk NK _) ?_
        intro v1 w1 QR N3 SV;obtain ⟨pa,pc,rfl,-⟩:=QR.form;rw [OX] at QR ⊢;have Tt:Bk w1 gk #[a,b,c,d,e,f,.slice pa0 k pc0] 28:=Bk.grownO (zD HI.o.kk) N3 (Ph.o _ (by omega))
        have FB:=Tt.cell 6 rfl;have GS:=Tt.frozen 6))
    have U2:Bk w1 gr #[(0:Int),(0:Int),(0:Int),(0:Int),(0:Int),(0:Int),.slice none 0 0] 28:=Bk.grownO (zD HI.o.kr) N3 (Ph.o _ (by have:=HI.o.lt.2;omega))
    have Jr:Below w.heap.size w w1:=(HI.o.bel.alloc HI.o.bel.size (.cells #[(0:Int)] 3)).grown N3 (zk HI.o.bel.size _) (fun g hg=>by have:=(HI.o.own.lt g hg).1;have:=HI.o.lt;omega)
    have DM:=Bx.mk QR;have HK:=Bx.mk Tt;have HR:=Bx.mk U2;have HB:=Bx.mk Jr;clear OX P7 QR N3 Ph Tt U2 Jr FA;generalize hW2:World.setCell w1 _ _=w2
    have Ak:Bx (RnI w a b c d e f gr gk (k+1) (.slice pa (k+1) pc) w2):=⟨by
     have hge:=HI.o.lt;rw [←hW2];refine ⟨by simpa using HK.o.set 6 (.slice pa (k+1) pc),?_,HR.o.other _ _ (by simp only;omega),HB.o.setCell (by simp only;omega) _,HI.o.lt⟩
     rw [List.replicate_succ'];exact DM.o.setBelow (by simp only;omega) _⟩
    clear hW2 DM HK HR HB HI FB GS
    go_roundw
    case rel=>exact ⟨k+1,_,by omega,by go_num,Ak⟩
    case measure=>simp [intOf];omega
  · obtain rfl:k=n:=by omega
    have t0:decide ((k:Int)<(k:Int))=false:=by simp
    obtain ⟨g,cap,rfl,-,-,-,-,-⟩:=HI.o.own.at (by rw [List.length_replicate];omega)
    have P7:(List.replicate k (0:Int)).length=k:=List.length_replicate;rw [P7] at HI;have kk:=HI.o.kk;have kr:=HI.o.kr;have hB:=HI.o.bel;have Oy:=HI.o.lt;have DK:=Bx.mk HI.o.own;clear HI P7;obtain ⟨ck0,ck1,ck2,ck3,ck4,ck5,ck6⟩:=kk.c7;have Fj:=kr.cell 0 rfl;have GU:=kr.frozen 0;have Fk:=kr.cell 1 rfl;have GV:=kr.frozen 1;have Fl:=kr.cell 2 rfl;have GW:=kr.frozen 2;have Fm:=kr.cell 3 rfl;have GX:=kr.frozen 3;have Fn:=kr.cell 4 rfl;have GY:=kr.frozen 4;have Fo:=kr.cell 5 rfl;have GZ:=kr.frozen 5;have Fp:=kr.cell 6 rfl;have Ga:=kr.frozen 6;go_wp2_with fail;replace kr:=kr.put7 (.int .i64 a) (.int .i64 b) (.int .i64 c) (.int .i64 d) (.int .i64 e) (.int .i64 f) (.slice (some ⟨g,0,none⟩) k cap);obtain ⟨z0,z1,z2,z3,z4,z5,z6⟩:=kr.c7;have hB7:=zBn hB Oy.1 (.int .i64 a) (.int .i64 b) (.int .i64 c) (.int .i64 d) (.int .i64 e) (.int .i64 f) (.slice (some ⟨g,0,none⟩) k cap);have hO:Own _ (gk+1) 3 .i64 (.slice (some ⟨g,0,none⟩) k cap) (List.replicate k 0):=((((((DK.o.setBelow (a:=⟨gr,0,none⟩) (by simp only;omega) (.int .i64 a)).setBelow (a:=⟨gr,1,none⟩) (by simp only;omega) (.int .i64 b)).setBelow (a:=⟨gr,2,none⟩) (by simp only;omega) (.int .i64 c)).setBelow (a:=⟨gr,3,none⟩) (by simp only;omega) (.int .i64 d)).setBelow (a:=⟨gr,4,none⟩) (by simp only;omega) (.int .i64 e)).setBelow (a:=⟨gr,5,none⟩) (by simp only;omega) (.int .i64 f)).setBelow (a:=⟨gr,6,none⟩) (by simp only;omega) (.slice (some ⟨g,0,none⟩) k cap)
    clear ck0 ck1 ck2 ck3 ck4 ck5 ck6 Fj Fk Fl Fm Fn Fo Fp GU GV GW GX GY GZ Ga;exact bodyPost_ret (v:=.tuple #[.agg #[a,b,c,d,e,f,.slice (some ⟨g,0,none⟩) k cap],(0:Int)]) (by simp [results,Tryz.results87,go_sem,z0,z1,z2,z3,z4,z5,z6]) rfl ⟨g,cap,rfl,hO.base (by omega),hB7⟩
end
section
open Go.RowKit Go.Sort Go.Maps
open Oct
attribute [local go_sem ↓] Go.wp_at_zero Go.wp_at_succ
theorem zK2 (a b c d e f:Int) (pb po:Nat) (hcp n:Nat) (xs:List Int) (hn:xs.length=n) (h1:0<n) (h2:n≤5000) (w:World) (Rn:Sl w .i64 (some ⟨pb,po,none⟩) xs) :
 Calls Tryz.prog 88 #[.agg #[a,b,c,d,e,f,.slice (some ⟨pb,po,none⟩) n hcp]] w fun e' w' => ∃ g cap,e' = .returned (.agg #[a,b,c,d,e,f,.slice (some ⟨g,0,none⟩) n cap])∧Own w' w.heap.size 3 .i64 (.slice (some ⟨g,0,none⟩) n cap) xs∧Below w.heap.size w w':=by
 obtain ⟨i0,Na,TQ,TR,TS⟩:=info_parts (show (Tryz.prog.info? 3).map (fun i=>(i.zero,i.size,i.bytes))=some (some (.int .i64 0),1,8) by kernel_rfl)
 have hlm:=Bx.mk (show (xs.map (Value.int .i64)).length=n * 1 by rw [List.length_map,hn];omega)
 have h1c:=Bx.mk (show ∀ u∈xs.map (Value.int .i64),u.oneCell'=true from fun u hu=>by
  obtain ⟨x,_,rfl⟩:=List.mem_map.1 hu;rfl)
 have Db:=Bx.mk Rn;have Hn:=Bx.mk hn;clear Rn hn;go_enter Tryz.func88,Tryz.ntmps88;go_wp2_with fail;generalize hW:(w.alloc _).alloc _=W;have JE:=sz2 hW;have hB:=bl2 hW;have kg:Bk W (w.heap.size) #[a,b,c,d,e,f,.slice (some ⟨pb,po,none⟩) n hcp] 28:=bk1 hW;have kr:Bk W (w.heap.size+1) #[(0:Int),(0:Int),(0:Int),(0:Int),(0:Int),(0:Int),.slice none 0 0] 28:=bk0 hW;clear hW;obtain ⟨F4,F5,F6,F7,F8,F9,FA⟩:=kg.c7;obtain ⟨Fj,Fk,Fl,Fm,Fn,Fo,Fp⟩:=kr.c7;obtain ⟨GU,GV,GW,GX,GY,GZ,Ga⟩:=kr.f7
 have hnw:=Bx.mk fun (V:World) (hV:Below W.heap.size W V)=>(show ∀ j u,(xs.map (Value.int .i64))[j]? = some u→V.cell? ((⟨pb,po,none⟩:Addr).add j)=some u from fun j u hu=>by
  rw [List.getElem?_map] at hu;cases hx:xs[j]? with
  | none=>rw [hx] at hu;cases hu
  | some x =>
    rw [hx] at hu;injection hu with hu;subst hu;obtain ⟨b',off',he,hc⟩:=(Db.o.below (tr hB hV)) j x hx;simp only [Option.some.injEq,Addr.mk.injEq,and_true] at he;obtain ⟨rfl,rfl⟩:=he;have:(⟨pb,po,none⟩:Addr).add j=⟨pb,po+j,none⟩:=by unfold Addr.add;split <;> simp_all
    rw [this];exact hc)
 go_region_held3 (fun w'=>w'.cell? ⟨w.heap.size,0,none⟩=some (.int .i64 a)∧w'.cell? ⟨w.heap.size,1,none⟩=some (.int .i64 b)∧w'.cell? ⟨w.heap.size,2,none⟩=some (.int .i64 c)∧w'.cell? ⟨w.heap.size,3,none⟩=some (.int .i64 d)∧w'.cell? ⟨w.heap.size,4,none⟩=some (.int .i64 e)∧w'.cell? ⟨w.heap.size,5,none⟩=some (.int .i64 f)∧w'.cell? ⟨w.heap.size,6,none⟩=some (.slice (some ⟨pb,po,none⟩) n hcp))
  (first | go_keep | (dsimp only;and_intros <;> assumption))
  ((refine step_append_lies _ (by rfl) (.tmp 6) (.tmp 8) 26 (by rfl) (w.heap.size+1+1) 3 i0 (.int .i64 0) 1 8 Tryz.underlying26 Na TQ TR TS rfl (by omega) (.slice none 0 0) 0 [] (by simp [Act.eval,Act.put]) (World.ownsRow_nil _ _ _ _) ⟨pb,po,none⟩ n hcp (xs.map (Value.int .i64)) (by simp [Act.eval,Act.put]) hlm.o (hnw.o _ br.drew) h1c.o h1 (by simp only [maxLen];omega) (by omega) JE W.heap.size rfl ?_;intro g cap w1 QQ hg Jk hlt;have K7:=((Below.refl W.heap.size W).drew).grown hg (Nat.le_refl _) (fun g h=>by cases h);have Tp:=kg.la K7;have U4:=kr.la K7;have d0:=Tp.cell 0 rfl;have d1:=Tp.cell 1 rfl;have d2:=Tp.cell 2 rfl;have d3:=Tp.cell 3 rfl;have d4:=Tp.cell 4 rfl;have d5:=Tp.cell 5 rfl;have d6:=Tp.cell 6 rfl;have e0:=U4.cell 0 rfl;have h0:=U4.frozen 0;have e1:=U4.cell 1 rfl;have h1:=U4.frozen 1;have e2:=U4.cell 2 rfl;have h2:=U4.frozen 2;have e3:=U4.cell 3 rfl;have h3:=U4.frozen 3;have e4:=U4.cell 4 rfl;have h4:=U4.frozen 4;have e5:=U4.cell 5 rfl;have h5:=U4.frozen 5;have e6:=U4.cell 6 rfl;have h6:=U4.frozen 6))
 have hO:Own w1 (w.heap.size+1+1) 3 .i64 (.slice (some ⟨g,0,none⟩) n cap) xs:=by
  have QS:=QQ;simp only [Nat.zero_add,List.nil_append] at QS;unfold Own;rw [Hn.o];exact QS
 have U3:=U4.put7 (.int .i64 a) (.int .i64 b) (.int .i64 c) (.int .i64 d) (.int .i64 e) (.int .i64 f) (.slice (some ⟨g,0,none⟩) n cap);have I2:=zBn (tr hB K7) (show w.heap.size≤w.heap.size+1 by omega) (.int .i64 a) (.int .i64 b) (.int .i64 c) (.int .i64 d) (.int .i64 e) (.int .i64 f) (.slice (some ⟨g,0,none⟩) n cap)
 have Iy:Own _ (w.heap.size+1+1) 3 .i64 (.slice (some ⟨g,0,none⟩) n cap) xs:=((((((hO.setBelow (a:=⟨w.heap.size+1,0,none⟩) (by simp only;omega) (.int .i64 a)).setBelow (a:=⟨w.heap.size+1,1,none⟩) (by simp only;omega) (.int .i64 b)).setBelow (a:=⟨w.heap.size+1,2,none⟩) (by simp only;omega) (.int .i64 c)).setBelow (a:=⟨w.heap.size+1,3,none⟩) (by simp only;omega) (.int .i64 d)).setBelow (a:=⟨w.heap.size+1,4,none⟩) (by simp only;omega) (.int .i64 e)).setBelow (a:=⟨w.heap.size+1,5,none⟩) (by simp only;omega) (.int .i64 f)).setBelow (a:=⟨w.heap.size+1,6,none⟩) (by simp only;omega) (.slice (some ⟨g,0,none⟩) n cap)
 clear hg Jk QQ hO U4 Tp kr kg d0 d1 d2 d3 d4 d5 d6 e0 e1 e2 e3 e4 e5 e6 h0 h1 h2 h3 h4 h5 h6 F4 F5 F6 F7 F8 F9 FA Fj Fk Fl Fm Fn Fo Fp GU GV GW GX GY GZ Ga;go_wp2_with fail;exact bodyPost_ret (v:=.agg #[a,b,c,d,e,f,.slice (some ⟨g,0,none⟩) n cap]) (results_cell_row rfl _ _ _ 28 #[a,b,c,d,e,f,.slice (some ⟨g,0,none⟩) n cap] (0,0) _ rfl U3 Tryz.underlying28 rfl (by kernel_rfl)) rfl ⟨g,cap,rfl,Iy.base (by omega),I2⟩
end
section
open Go.RowKit Go.Sort Go.Maps
open Oct
structure RpI (w:World) (gv hv ov:Array Value) (n cap g1 go:Nat) (hb:Option Addr) (ys:List Int) (xs:List Int) (wr:World):Prop where
 kg:Bk wr w.heap.size gv 28
 kh:Bk wr (w.heap.size+1) hv 28
 kr:Bk wr (w.heap.size+1+1) #[(0:Int),(0:Int),(0:Int),(0:Int),(0:Int),(0:Int),.slice none 0 0] 28
 ko:Bk wr go ov 28
 own:Own wr (w.heap.size+1+1+1) 3 .i64 (.slice (some ⟨g1,0,none⟩) n cap) xs
 bel:Below w.heap.size w wr
 sl:Sl wr .i64 hb ys
 lt:w.heap.size+1+1<g1∧g1<go
theorem RpI.la {w wr w':World} {gv hv ov:Array Value} {n cap g1 go:Nat} {hb:Option Addr} {ys xs:List Int} (H:RpI w gv hv ov n cap g1 go hb ys xs wr) (h:Below wr.heap.size wr w'):RpI w gv hv ov n cap g1 go hb ys xs w' :=
 ⟨H.kg.la h,H.kh.la h,H.kr.la h,H.ko.la h,H.own.below h,tr H.bel h,H.sl.below h,H.lt⟩
theorem RpI.put {w wr:World} {gv hv ov:Array Value} {n cap g1 go:Nat} {hb:Option Addr} {ys xs:List Int} (H:RpI w gv hv ov n cap g1 go hb ys xs wr) (hn:xs.length=n) (h0:0<n) (hf:ys ≠ [] → ∀ b,hb.map (·.block)=some b→b<w.heap.size) (k:Nat) (x:Int):RpI w gv hv ov n cap g1 go hb ys (xs.set k x) (wr.setCell ⟨g1,k,none⟩ (.int .i64 x)):=by
 have hlt:=H.lt;obtain ⟨g',Et,he,-,-,-,-,S4⟩:=H.own.at (by omega)
 rw [hn] at he S4;injection he with h1 h2 h3;injection h1 with h1;injection h1 with h1;subst h1 h3;refine ⟨H.kg.other _ _ (by simp only;omega),H.kh.other _ _ (by simp only;omega),H.kr.other _ _ (by simp only;omega),H.ko.other _ _ (by simp only;omega),S4 k x,H.bel.setCell (by simp only;omega) _,?_,hlt⟩
 intro i y hy;obtain ⟨b',off',he,hc⟩:=H.sl i y hy;refine ⟨b',off',he,?_⟩;have:=hf (by rintro rfl;simp at hy) b' (by rw [he];rfl)
 rw [World.cell?_of_block (heap_setCell_other wr _ _ _ (by simp only;omega))];exact hc
def zFB (b:Box) (zs:List Int) (G:Pt→Int) (Ta:Pt→Bool) (k:Nat):List Int:=(List.range zs.length).map fun j:Nat=>if j<k∧Ta (atB b (j:Int))=true then G (atB b (j:Int)) else zs.getD j 0
theorem zFF (b:Box) (zs:List Int) (G:Pt→Int) (Ta:Pt→Bool) (k:Nat):(zFB b zs G Ta k).length=zs.length:=by simp [zFB]
theorem zFE (b:Box) (zs:List Int) (G:Pt→Int) (Ta:Pt→Bool) (k:Nat) {j:Nat} (hj:j<zs.length):(zFB b zs G Ta k)[j]? = some (if j<k∧Ta (atB b (j:Int))=true then G (atB b (j:Int)) else zs.getD j 0):=by
 unfold zFB;rw [List.getElem?_map,List.getElem?_range hj];rfl
theorem zFI (b:Box) (zs:List Int) (G:Pt→Int) (Ta:Pt→Bool):zFB b zs G Ta 0=zs:=by
 apply List.ext_getElem?;intro i;rcases Nat.lt_or_ge i zs.length with h | h
 · rw [zFE b zs G Ta 0 h,if_neg (by omega),List.getD,lge h]
   rfl
 · rw [List.getElem?_eq_none (by rw [zFF];exact h),List.getElem?_eq_none h]
theorem zFD (b:Box) (zs:List Int) (G:Pt→Int) (Ta:Pt→Bool) {k:Nat} (hk:k<zs.length):(zFB b zs G Ta k)[k]? = some (zs.getD k 0):=by
 rw [zFE b zs G Ta k hk,if_neg (by omega)]
theorem zFG (b:Box) (zs:List Int) (G:Pt→Int) (Ta:Pt→Bool) {k:Nat} (hk:k<zs.length) (hi:Ta (atB b (k:Int))=true):(zFB b zs G Ta k).set k (G (atB b (k:Int)))=zFB b zs G Ta (k+1):=by
 apply List.ext_getElem?;intro i;rw [List.getElem?_set];rcases Nat.lt_or_ge i zs.length with h | h
 · rw [zFE b zs G Ta k h,zFE b zs G Ta (k+1) h];by_cases e:k=i
   · subst e;rw [if_pos rfl,if_pos (by rw [zFF];exact hk),if_pos ⟨Nat.lt_succ_self k,hi⟩]
   · rw [if_neg e];by_cases h2:i<k
     · simp [h2,Nat.lt_succ_of_lt h2]
     · rw [if_neg (fun h=>h2 h.1),if_neg (fun h=>h2 (by omega))]
 · rw [if_neg (by omega),List.getElem?_eq_none (by rw [zFF];exact h),List.getElem?_eq_none (by rw [zFF];exact h)]
theorem zFH (b:Box) (zs:List Int) (G:Pt→Int) (Ta:Pt→Bool) {k:Nat} (hi:Ta (atB b (k:Int))=false):zFB b zs G Ta k=zFB b zs G Ta (k+1):=by
 unfold zFB;refine List.map_congr_left fun j _=>?_;by_cases e:j=k
 · subst e;rw [if_neg (by omega),if_neg (by rw [hi];simp)]
 · by_cases h2:j<k
   · simp [h2,Nat.lt_succ_of_lt h2]
   · rw [if_neg (fun h=>h2 h.1),if_neg (fun h=>h2 (by omega))]
theorem zFC (b:Box) (F G:Pt→Int) (Ta:Pt→Bool) {n:Nat} (hn:(cellsOf b F).length=n):zFB b (cellsOf b F) G Ta n=cellsOf b fun p=>if Ta p=true then G p else F p:=by
 apply List.ext_getElem?;intro i;rcases Nat.lt_or_ge i n with h | h
 · rw [zFE b _ G Ta n (by omega),zJ (by rw [zK] at hn;omega),List.getD,zJ (by rw [zK] at hn;omega)]
   by_cases hi:Ta (atB b (i:Int))=true
   · rw [if_pos ⟨h,hi⟩,if_pos hi]
   · rw [if_neg (fun h=>hi h.2),if_neg hi];rfl
 · rw [List.getElem?_eq_none (by rw [zFF];omega),List.getElem?_eq_none (by rw [zK] at hn ⊢; omega)]
theorem zLI (a b c d e f a2 b2 c2 d2 e2 f2:Int) (pb po n hcp:Nat) (hb:Option Addr) (Lm:Nat) (ys:List Int) (HS:Small ⟨⟨a,b,c⟩,⟨d,e,f⟩⟩ 1048575) (hV:zAE ⟨⟨a,b,c⟩,⟨d,e,f⟩⟩=n) (h0:0<n) (OY:n≤5000) (HX:GoodG ⟨⟨a2,b2,c2⟩,⟨d2,e2,f2⟩⟩ ys Lm) (F0:Pt→Int) (zs:List Int) (TZ:zs=cellsOf ⟨⟨a,b,c⟩,⟨d,e,f⟩⟩ F0) (w:World) (Rn:Sl w .i64 (some ⟨pb,po,none⟩) zs) (Rv:Sl w .i64 hb ys) :
 Calls Tryz.prog 31 #[.agg #[a,b,c,d,e,f,.slice (some ⟨pb,po,none⟩) n hcp],.agg #[a2,b2,c2,d2,e2,f2,.slice hb ys.length Lm]] w fun e' w' => ∃ g cap,e' = .returned (.agg #[a,b,c,d,e,f,.slice (some ⟨g,0,none⟩) n cap])∧Own w' w.heap.size 3 .i64 (.slice (some ⟨g,0,none⟩) n cap) (cellsOf ⟨⟨a,b,c⟩,⟨d,e,f⟩⟩ fun p=>if inB p ⟨⟨a2,b2,c2⟩,⟨d2,e2,f2⟩⟩=true then zE ⟨⟨a2,b2,c2⟩,⟨d2,e2,f2⟩⟩ ys p else F0 p)∧Below w.heap.size w w':=by
 have TY:zs.length=n:=by rw [TZ,zK];omega
 have Ln:=Bx.mk fun W (h:Sl W .i64 (some ⟨pb,po,none⟩) zs)=>zK2 a b c d e f pb po hcp n zs TY h0 OY W h;have Jk:=Bx.mk fun W (k:Nat) (hk:k<n)=>zK0 a b c d e f (k:Int) HS (by omega) W
 have hin:=Bx.mk fun W (k:Nat)=>zK8 (atB ⟨⟨a,b,c⟩,⟨d,e,f⟩⟩ (k:Int)).x (atB ⟨⟨a,b,c⟩,⟨d,e,f⟩⟩ (k:Int)).y (atB ⟨⟨a,b,c⟩,⟨d,e,f⟩⟩ (k:Int)).z a2 b2 c2 d2 e2 f2 W;have NU:=Bx.mk fun W (k:Nat) (h:Sl W .i64 hb ys)=>zK5 a2 b2 c2 d2 e2 f2 (atB ⟨⟨a,b,c⟩,⟨d,e,f⟩⟩ (k:Int)).x (atB ⟨⟨a,b,c⟩,⟨d,e,f⟩⟩ (k:Int)).y (atB ⟨⟨a,b,c⟩,⟨d,e,f⟩⟩ (k:Int)).z hb Lm ys HX W h;have Jd:=Bx.mk (show zFB ⟨⟨a,b,c⟩,⟨d,e,f⟩⟩ zs (zE ⟨⟨a2,b2,c2⟩,⟨d2,e2,f2⟩⟩ ys) (fun p=>inB p ⟨⟨a2,b2,c2⟩,⟨d2,e2,f2⟩⟩) n=cellsOf ⟨⟨a,b,c⟩,⟨d,e,f⟩⟩ fun p=>if inB p ⟨⟨a2,b2,c2⟩,⟨d2,e2,f2⟩⟩=true then zE ⟨⟨a2,b2,c2⟩,⟨d2,e2,f2⟩⟩ ys p else F0 p from by rw [TZ];exact zFC _ _ _ _ (by rw [←TZ];exact TY))
 have Ri:=Bx.mk fun (k:Nat) (hk:k<n) (hi:inB (atB ⟨⟨a,b,c⟩,⟨d,e,f⟩⟩ (k:Int)) ⟨⟨a2,b2,c2⟩,⟨d2,e2,f2⟩⟩=true)=>zFG ⟨⟨a,b,c⟩,⟨d,e,f⟩⟩ zs (zE ⟨⟨a2,b2,c2⟩,⟨d2,e2,f2⟩⟩ ys) (fun p=>inB p ⟨⟨a2,b2,c2⟩,⟨d2,e2,f2⟩⟩) (k:=k) (by omega) hi
 have S6:=Bx.mk fun (k:Nat) (hi:inB (atB ⟨⟨a,b,c⟩,⟨d,e,f⟩⟩ (k:Int)) ⟨⟨a2,b2,c2⟩,⟨d2,e2,f2⟩⟩=false)=>zFH ⟨⟨a,b,c⟩,⟨d,e,f⟩⟩ zs (zE ⟨⟨a2,b2,c2⟩,⟨d2,e2,f2⟩⟩ ys) (fun p=>inB p ⟨⟨a2,b2,c2⟩,⟨d2,e2,f2⟩⟩) (k:=k) hi;have Od:=Bx.mk fun (k:Nat)=>(zFF ⟨⟨a,b,c⟩,⟨d,e,f⟩⟩ zs (zE ⟨⟨a2,b2,c2⟩,⟨d2,e2,f2⟩⟩ ys) (fun p=>inB p ⟨⟨a2,b2,c2⟩,⟨d2,e2,f2⟩⟩) k).trans TY;have TV:=Bx.mk (zFI ⟨⟨a,b,c⟩,⟨d,e,f⟩⟩ zs (zE ⟨⟨a2,b2,c2⟩,⟨d2,e2,f2⟩⟩ ys) (fun p=>inB p ⟨⟨a2,b2,c2⟩,⟨d2,e2,f2⟩⟩));have Mj:=Bx.mk fun (k:Nat) (hk:k<n)=>zFD ⟨⟨a,b,c⟩,⟨d,e,f⟩⟩ zs (zE ⟨⟨a2,b2,c2⟩,⟨d2,e2,f2⟩⟩ ys) (fun p=>inB p ⟨⟨a2,b2,c2⟩,⟨d2,e2,f2⟩⟩) (k:=k) (by omega)
 have Mi:=Bx.mk (show ys ≠ [] → ∀ b,hb.map (·.block)=some b→b<w.heap.size from fun hx b Jp=>by
  obtain ⟨x,r,rfl⟩:=List.exists_cons_of_ne_nil hx;obtain ⟨b',off,h1,h2⟩:=Rv 0 x rfl;rw [h1] at Jp;simp only [Option.map_some,Option.some.injEq] at Jp;rw [←Jp];exact World.block_lt_of_cell? w _ h2)
 have Db:=Bx.mk Rn;have Dc:=Bx.mk Rv;clear Rn Rv HS hV HX TZ TY;go_enter Tryz.func31,Tryz.ntmps31;go_wp2_with fail;generalize hW:((w.alloc _).alloc _).alloc _=W;have JE:=sz3 hW;have hB:=bl3 hW;have kg:Bk W (w.heap.size) #[a,b,c,d,e,f,.slice (some ⟨pb,po,none⟩) n hcp] 28:=bk2 hW;have kh:Bk W (w.heap.size+1) #[a2,b2,c2,d2,e2,f2,.slice hb ys.length Lm] 28:=bk1 hW;have kr:Bk W (w.heap.size+1+1) #[(0:Int),(0:Int),(0:Int),(0:Int),(0:Int),(0:Int),.slice none 0 0] 28:=bk0 hW;clear hW;obtain ⟨F4,F5,F6,F7,F8,F9,FA⟩:=kg.c7;have q0:True:=trivial;refine (Ln.o _ (Db.o.below hB)).mono ?_;rintro _ w1 ⟨g1,cap,rfl,QQ,Jr⟩;have N3:=QQ.lt g1 rfl;have JF:=JE;have DK:=Bx.mk QQ;replace hB:=tr hB Jr;replace kg:=kg.la Jr;replace kh:=kh.la Jr;replace kr:=kr.la Jr;replace JE:=nlt JE Jr.size;clear Jr;clear F4 F5 F6 F7 F8 F9 FA;clear QQ q0;go_wp2_with fail;generalize hW1:w1.alloc _=V1;have K7:=bl1 hW1;have ko:Bk V1 w1.heap.size #[a,b,c,d,e,f,.slice (some ⟨g1,0,none⟩) n cap] 28:=bk0 hW1 rfl
 have HI:Bx (RpI w #[a,b,c,d,e,f,.slice (some ⟨pb,po,none⟩) n hcp] #[a2,b2,c2,d2,e2,f2,.slice hb ys.length Lm] #[a,b,c,d,e,f,.slice (some ⟨g1,0,none⟩) n cap] n cap g1 w1.heap.size hb ys (zFB ⟨⟨a,b,c⟩,⟨d,e,f⟩⟩ zs (zE ⟨⟨a2,b2,c2⟩,⟨d2,e2,f2⟩⟩ ys) (fun p=>inB p ⟨⟨a2,b2,c2⟩,⟨d2,e2,f2⟩⟩) 0) V1):=⟨by
  rw [TV.o];exact ⟨kg.la K7,kh.la K7,kr.la K7,ko,(DK.o.base (by omega)).below K7,tr hB K7,Dc.o.below (tr hB K7),by omega⟩⟩
 clear hW1 K7 ko kg kh kr hB JE JF DK N3 TV Ln Db;generalize w1.heap.size=go at *
 go_loopw [6] (fun v6 wr => ∃ k:Nat,k≤n∧v6 = .int .i64 k∧Bx (RpI w #[a,b,c,d,e,f,.slice (some ⟨pb,po,none⟩) n hcp] #[a2,b2,c2,d2,e2,f2,.slice hb ys.length Lm] #[a,b,c,d,e,f,.slice (some ⟨g1,0,none⟩) n cap] n cap g1 go hb ys (zFB ⟨⟨a,b,c⟩,⟨d,e,f⟩⟩ zs (zE ⟨⟨a2,b2,c2⟩,⟨d2,e2,f2⟩⟩ ys) (fun p=>inB p ⟨⟨a2,b2,c2⟩,⟨d2,e2,f2⟩⟩) k) wr)) (fun i _=>n - (intOf i).toNat)
 case atStart=>exact ⟨0,Nat.zero_le _,rfl,HI⟩
 case round =>
  clear HI;obtain ⟨k,hk,rfl,HI⟩:=hrel;by_cases hlt:k<n
  · have t0:decide ((k:Int)<(n:Int))=true:=by simp;omega
    have z1:=fun W=>Jk.o W k hlt;have z2:=fun W=>hin.o W k;have z3:=fun W=>NU.o W k;have z4:=Ri.o k hlt;have z5:=S6.o k;have z6:=Mj.o k hlt;generalize zE ⟨⟨a2,b2,c2⟩,⟨d2,e2,f2⟩⟩ ys=FF at *;rcases hpt:atB ⟨⟨a,b,c⟩,⟨d,e,f⟩⟩ (k:Int) with ⟨px,py,pz⟩;simp only [hpt] at z1 z2 z3 z4 z5;generalize hfp:FF ⟨px,py,pz⟩=x at *;generalize Nj:inB ⟨px,py,pz⟩ ⟨⟨a2,b2,c2⟩,⟨d2,e2,f2⟩⟩=ib at *;have z1:=Bx.mk z1;have z2:=Bx.mk z2;have z3:=Bx.mk z3;have z4:=Bx.mk z4;have z5:=Bx.mk z5;have z6:=Bx.mk z6;clear hpt hfp Nj;obtain ⟨F4,F5,F6,F7,F8,F9,FA⟩:=HI.o.kg.c7;go_wp2_with fail;refine (z1.o _).mono ?_;rintro _ w2 ⟨rfl,Js⟩;have Ak:=Bx.mk (HI.o.la Js);have FC : ∀ o,(w2.alloc o).cell? ⟨w.heap.size+1,0,none⟩=some (.int .i64 a2):=fun o=>Bk.cell (zD Ak.o.kh) 0 rfl;have FD : ∀ o,(w2.alloc o).cell? ⟨w.heap.size+1,1,none⟩=some (.int .i64 b2):=fun o=>Bk.cell (zD Ak.o.kh) 1 rfl;have FE : ∀ o,(w2.alloc o).cell? ⟨w.heap.size+1,2,none⟩=some (.int .i64 c2):=fun o=>Bk.cell (zD Ak.o.kh) 2 rfl;have FG : ∀ o,(w2.alloc o).cell? ⟨w.heap.size+1,3,none⟩=some (.int .i64 d2):=fun o=>Bk.cell (zD Ak.o.kh) 3 rfl;have FH : ∀ o,(w2.alloc o).cell? ⟨w.heap.size+1,4,none⟩=some (.int .i64 e2):=fun o=>Bk.cell (zD Ak.o.kh) 4 rfl;have FI : ∀ o,(w2.alloc o).cell? ⟨w.heap.size+1,5,none⟩=some (.int .i64 f2):=fun o=>Bk.cell (zD Ak.o.kh) 5 rfl;clear HI Js F4 F5 F6 F7 F8 F9 FA;go_wp2_with fail;generalize hW3:w2.alloc _=V3;have Jv:=bl1 hW3;have kp:Bk V3 w2.heap.size #[px,py,pz] 23:=bk0 hW3 rfl;have Am:=Bx.mk (Ak.o.la Jv);clear hW3 Jv FC FD FE FG FH FI Ak;generalize w2.heap.size=gp at *;refine (z2.o _).mono ?_;rintro _ w4 ⟨rfl,Jz⟩;have Ao:=Bx.mk (Am.o.la Jz);replace kp:=kp.la Jz;clear Jz Am;cases ib with
    | false =>
      have Ap:=Ao.o;rw [z5.o rfl] at Ap;have Aq:=Bx.mk Ap;clear Ap;go_wp2_with fail
      go_roundw
      case rel=>exact ⟨k+1,by omega,by go_num,Aq⟩
      case measure=>simp [intOf];omega
    | true =>
      obtain ⟨FC,FD,FE,FG,FH,FI,FJ⟩:=Ao.o.kh.r7;obtain ⟨cp0,cp1,cp2⟩:=kp.r3;have Fb : ∀ dk osk,(grow (redrawn w4 dk) osk).cell? ⟨go,6,none⟩=some (.slice (some ⟨g1,0,none⟩) n cap):=cq (Ao.o.ko.cell 6 rfl);have q0:=Bx.mk fun dk osk=>rq (z3.o (grow (redrawn w4 dk) osk) (Ao.o.sl.below (bq w4 dk osk)));have b1:(0:Int)≤(k:Int):=by omega
      have b2:(k:Int)<(n:Int):=by omega
      go_wp2_with fail;refine zAK 7 (by kernel_rfl) (by kernel_rfl) ?_
      simp only [List.take_succ_cons,List.take_zero,List.drop_succ_cons,List.drop_zero]
      repeat (first | go_big_quiet_step (with_reducible exact q0.o _ _) | quiet_step (with_reducible exact q0.o _ _))
      refine wq ?_;rintro _ ⟨⟨dq,osq⟩,rfl⟩;have Ap:=Bx.mk (Ao.o.la (bq w4 dq osq));clear q0 FC FD FE FG FH FI FJ cp0 cp1 cp2 Fb Ao kp;generalize grow (redrawn w4 dq) osq=w5 at *;have HL:=Bx.mk (Od.o k);obtain ⟨g9,cap9,MQ,-,-,LA,Mg,-⟩:=Ap.o.own.at (by rw [HL.o];omega)
      rw [HL.o] at MQ;injection MQ with h91 h92 h93;injection h91 with h91;injection h91 with h91;subst h91;have ck:=LA k _ z6.o;have fk:=Mg k;have Aq:=Ap.o.put HL.o h0 Mi.o k x;rw [z4.o (by first | rfl | trivial)] at Aq
      have Ar:=Bx.mk Aq;clear Aq LA Mg h92 h93;go_wp2_with fail
      go_roundw
      case rel=>exact ⟨k+1,by omega,by go_num,Ar⟩
      case measure=>simp [intOf];omega
  · obtain rfl:k=n:=by omega
    have t0:decide ((k:Int)<(k:Int))=false:=by simp
    have Ak:=HI.o;rw [Jd.o] at Ak;have kg:=Ak.kg;have ko:=Ak.ko;have kr:=Ak.kr;have hB:=Ak.bel;have Oy:=Ak.lt;have hO:=Ak.own;clear HI Ak Jd Jk hin NU Ri S6 Od Mj
    have FA:=kg.cell 6 rfl;obtain ⟨co0,co1,co2,co3,co4,co5,Fb⟩:=ko.c7;have Fj:=kr.cell 0 rfl;have GU:=kr.frozen 0;have Fk:=kr.cell 1 rfl;have GV:=kr.frozen 1;have Fl:=kr.cell 2 rfl;have GW:=kr.frozen 2;have Fm:=kr.cell 3 rfl;have GX:=kr.frozen 3;have Fn:=kr.cell 4 rfl;have GY:=kr.frozen 4;have Fo:=kr.cell 5 rfl;have GZ:=kr.frozen 5;have Fp:=kr.cell 6 rfl;have Ga:=kr.frozen 6;have U3:=kr.put7 (.int .i64 a) (.int .i64 b) (.int .i64 c) (.int .i64 d) (.int .i64 e) (.int .i64 f) (.slice (some ⟨g1,0,none⟩) k cap);have I2:=Bx.mk (zBn hB (show w.heap.size≤w.heap.size+1+1 by omega) (.int .i64 a) (.int .i64 b) (.int .i64 c) (.int .i64 d) (.int .i64 e) (.int .i64 f) (.slice (some ⟨g1,0,none⟩) k cap))
    have Iy:=Bx.mk (((((((hO.setBelow (a:=⟨w.heap.size+1+1,0,none⟩) (by simp only;omega) (.int .i64 a)).setBelow (a:=⟨w.heap.size+1+1,1,none⟩) (by simp only;omega) (.int .i64 b)).setBelow (a:=⟨w.heap.size+1+1,2,none⟩) (by simp only;omega) (.int .i64 c)).setBelow (a:=⟨w.heap.size+1+1,3,none⟩) (by simp only;omega) (.int .i64 d)).setBelow (a:=⟨w.heap.size+1+1,4,none⟩) (by simp only;omega) (.int .i64 e)).setBelow (a:=⟨w.heap.size+1+1,5,none⟩) (by simp only;omega) (.int .i64 f)).setBelow (a:=⟨w.heap.size+1+1,6,none⟩) (by simp only;omega) (.slice (some ⟨g1,0,none⟩) k cap))
    clear hB hO;go_wp2_with fail;exact bodyPost_ret (v:=.agg #[a,b,c,d,e,f,.slice (some ⟨g1,0,none⟩) k cap]) (results_cell_row rfl _ _ _ 28 #[a,b,c,d,e,f,.slice (some ⟨g1,0,none⟩) k cap] (0,0) _ rfl U3 Tryz.underlying28 rfl (by kernel_rfl)) rfl ⟨g1,cap,rfl,Iy.o.base (by omega),I2.o⟩
theorem zLH (a b c d e f a2 b2 c2 d2 e2 f2:Int) (pb po n hcp:Nat) (hb:Option Addr) (Lm:Nat) (ys:List Int) (HS:Small ⟨⟨a,b,c⟩,⟨d,e,f⟩⟩ 1048575) (hV:zAE ⟨⟨a,b,c⟩,⟨d,e,f⟩⟩=n) (h0:0<n) (OY:n≤5000) (HX:GoodG ⟨⟨a2,b2,c2⟩,⟨d2,e2,f2⟩⟩ ys Lm) (w:World) (Rn:Sl w .i64 (some ⟨pb,po,none⟩) (List.replicate n 0)) (Rv:Sl w .i64 hb ys) :
 Calls Tryz.prog 31 #[.agg #[a,b,c,d,e,f,.slice (some ⟨pb,po,none⟩) n hcp],.agg #[a2,b2,c2,d2,e2,f2,.slice hb ys.length Lm]] w fun e' w' => ∃ g cap,e' = .returned (.agg #[a,b,c,d,e,f,.slice (some ⟨g,0,none⟩) n cap])∧Own w' w.heap.size 3 .i64 (.slice (some ⟨g,0,none⟩) n cap) (cellsOf ⟨⟨a,b,c⟩,⟨d,e,f⟩⟩ (zE ⟨⟨a2,b2,c2⟩,⟨d2,e2,f2⟩⟩ ys))∧Below w.heap.size w w':=by
 have hz:List.replicate n (0:Int)=cellsOf ⟨⟨a,b,c⟩,⟨d,e,f⟩⟩ fun _=>0:=by
  unfold cellsOf;rw [hV,List.map_const',List.length_range];rfl
 have h:=zLI a b c d e f a2 b2 c2 d2 e2 f2 pb po n hcp hb Lm ys HS hV h0 OY HX (fun _=>0) _ hz w Rn Rv
 have he:(cellsOf ⟨⟨a,b,c⟩,⟨d,e,f⟩⟩ fun p=>if inB p ⟨⟨a2,b2,c2⟩,⟨d2,e2,f2⟩⟩=true then zE ⟨⟨a2,b2,c2⟩,⟨d2,e2,f2⟩⟩ ys p else 0)=cellsOf ⟨⟨a,b,c⟩,⟨d,e,f⟩⟩ (zE ⟨⟨a2,b2,c2⟩,⟨d2,e2,f2⟩⟩ ys):=zI fun p _=>by
  unfold zE;split <;> rfl
 rw [he] at h;exact h
theorem zMS (f:Pt→Int) : ∀ (n:Nat) (a:Pt),Tr.small n (Tr.can f n a):=by
 have Ta : ∀ (n d:Nat) (ch:Fin 8→Tr),(∀ i,Tr.small n (ch i))→Tr.small (n+1) (Tr.mkInner d ch):=by
  intro n d ch h;unfold Tr.mkInner;split
  · rename_i hc;obtain ⟨c,hc⟩:=hc.1;rw [hc];simp [Tr.small]
  · exact h
 intro n
 induction n with
 | zero =>
   intro a;unfold Tr.can Tr.mkBrick;split <;> simp [Tr.small]
 | succ n ih =>
   intro a;unfold Tr.can;exact Ta n _ _ (fun i=>ih _)
theorem zB7 {f:Pt→Int} (hf : ∀ p,0≤f p∧f p≤255) {n:Nat} (hn:n≤12) (a:Pt):(Tr.enc (Tr.can f n a)).length≤100000000000000:=by
 have h:=Tr.enc_small n _ (zAF hf n a (by omega)) (zMS f n a)
 have:8 ^ n≤8 ^ 12:=Nat.pow_le_pow_right (by decide) hn
 omega
theorem zN2 {f:Pt→Int} (hf : ∀ p,0≤f p∧f p≤255) {c:Int} (hc:0≤c∧c≤255) (p:Pt) : ∀ q,0≤Tr.upd f p c q∧Tr.upd f p c q≤255:=fun q=>by
 unfold Tr.upd;split
 · exact hc
 · exact hf q
def zCT (f:Pt→Int) (a:Pt):List Int:=(List.range 64).map fun k=>f (Tr.cellAt a k)
theorem zCV (f:Pt→Int) (a:Pt):(zCT f a).length=64:=by simp [zCT]
theorem zCU {f:Pt→Int} (hf : ∀ p,0≤f p∧f p≤255) (a:Pt):(zCT f a).all Pal.cell=true:=by
 rw [List.all_eq_true];intro x hx;obtain ⟨k,_,rfl⟩:=List.mem_map.1 hx;rw [Pal.cell_eq];simpa using hf _
theorem zB0 (f:Pt→Int) (a:Pt):Tr.can f 0 a=Tr.mkBrick (zCT f a):=rfl
theorem zMF {f:Pt→Int} (c:Int) {a p:Pt} (ha:Tr.Al 0 a) (h:Tr.InC 0 a p):Tr.mkBrick ((zCT f a).set (Tr.idx p) c)=Tr.can (Tr.upd f p c) 0 a:=by
 have:=Tr.set_can f c 0 a p ha h;rw [←this,zB0];unfold Tr.setT;rw [Tr.cells_mkBrick (zCV f a)]
theorem idx_eq {ax ay az px py pz:Int} (ha:Tr.Al 0 ⟨ax,ay,az⟩) (h:Tr.InC 0 ⟨ax,ay,az⟩ ⟨px,py,pz⟩):16 * (pz - az)+4 * (py - ay)+px - ax=((Tr.idx ⟨px,py,pz⟩:Nat):Int):=by
 obtain ⟨a1,a2,a3⟩:=ha;obtain ⟨h1,h2,h3⟩:=h;simp only [] at a1 a2 a3 h1 h2 h3;have e4:(2:Int) ^ (0+2)=4:=by decide
 rw [e4] at a1 a2 a3 h1 h2 h3;unfold Tr.idx;simp only [];omega
theorem zGY {n:Nat} {ax ay az px py pz m:Int} (hm:m=2 ^ (n+2)) (ha:Tr.Al n ⟨ax,ay,az⟩) (h:Tr.InC n ⟨ax,ay,az⟩ ⟨px,py,pz⟩):(ax≤px∧px<ax+m)∧(ay≤py∧py<ay+m)∧(az≤pz∧pz<az+m):=by
 have:=zb.1 ((zGT hm ha).2 h);exact ⟨⟨this.1,this.2.1⟩,⟨this.2.2.1,this.2.2.2.1⟩,⟨this.2.2.2.2.1,this.2.2.2.2.2⟩⟩
theorem zME (f:Pt→Int) (hf : ∀ p,0≤f p∧f p≤255) (ax ay az px py pz c:Int) (Jb:Tr.Al 0 ⟨ax,ay,az⟩) (hin:Tr.InC 0 ⟨ax,ay,az⟩ ⟨px,py,pz⟩) (hx:0≤ax∧ax+4≤16384) (hy:0≤ay∧ay+4≤16384) (hz:0≤az∧az+4≤16384) (hc:0≤c∧c≤255) (w:World) :
 Calls Tryz.prog 169 #[.string (strOfNums (Tr.enc (Tr.can f 0 ⟨ax,ay,az⟩))),.agg #[ax,ay,az],(2:Int),.agg #[px,py,pz],c] w fun e w'=>e = .returned (.string (strOfNums (Tr.enc (Tr.can (Tr.upd f ⟨px,py,pz⟩ c) 0 ⟨ax,ay,az⟩))))∧Below w.heap.size w w':=by
 have hb:=zGY (m:=4) (by decide) Jb hin
 have LN:=Bx.mk fun W=>zCN (zCT f ⟨ax,ay,az⟩) (zCV _ _) (zCU hf _) W;rw [←zB0] at LN;have Nz:=fun W=>zGd ax ay az px py pz (by omega) (by omega) (by omega) W
 rw [idx_eq Jb hin] at Nz;have Cx:=Bx.mk Nz;have hk:=Tr.idx_lt ⟨px,py,pz⟩;have hl:=zCV f ⟨ax,ay,az⟩;have Ri:=Bx.mk (zMF (f:=f) c Jb hin)
 have Jd:=Bx.mk (show ((zCT f ⟨ax,ay,az⟩).set (Tr.idx ⟨px,py,pz⟩) c).all Pal.cell=true from by
  rw [List.all_eq_true];intro x hx;rcases List.mem_or_eq_of_mem_set hx with h | h
  · exact List.all_eq_true.1 (zCU hf _) x h
  · rw [h,Pal.cell_eq];simpa using hc)
 have Kl:=Bx.mk fun (pa:Option Addr) (pc:Nat) W (h:Sl W .i64 pa ((zCT f ⟨ax,ay,az⟩).set (Tr.idx ⟨px,py,pz⟩) c))=>zKr pa pc _ W (by rw [List.length_set];exact hl) Jd.o h
 rw [Ri.o] at Kl;generalize strOfNums (Tr.enc (Tr.can f 0 ⟨ax,ay,az⟩))=S at *;generalize strOfNums (Tr.enc (Tr.can (Tr.upd f ⟨px,py,pz⟩ c) 0 ⟨ax,ay,az⟩))=S2 at *;generalize zCT f ⟨ax,ay,az⟩=xs at *;generalize Tr.idx ⟨px,py,pz⟩=k at *;have Hl:=Bx.mk hl;clear Jb hin hx hy hz hc hb Ri Jd Nz hl;go_enter Tryz.func169,Tryz.ntmps169;go_wp2_with fail;generalize hW:(w.alloc _).alloc _=W;have hB:=bl2 hW;have ka:Bk W (w.heap.size) #[ax,ay,az] 23:=bk1 hW;have kp:Bk W (w.heap.size+1) #[px,py,pz] 23:=bk0 hW;have HI:=Bx.mk (show Bk W (w.heap.size) #[ax,ay,az] 23∧Bk W (w.heap.size+1) #[px,py,pz] 23∧Below w.heap.size w W from ⟨ka,kp,hB⟩);have Ai:Bx (w.heap.size+1<W.heap.size):=⟨kp.lt⟩;clear hW ka kp hB;refine (LN.o _).mono ?_;rintro _ w1 ⟨v,rfl,QQ,Jr⟩;replace HI:=Bx.mk (show Bk w1 (w.heap.size) #[ax,ay,az] 23∧Bk w1 (w.heap.size+1) #[px,py,pz] 23∧Below w.heap.size w w1 from ⟨HI.o.1.la Jr,HI.o.2.1.la Jr,tr HI.o.2.2 Jr⟩);have DK:=Bx.mk (Own.base QQ (B':=w.heap.size) (nlt (by omega) (Nat.le_of_lt Ai.o)))
 obtain ⟨g,cap,rfl,-,-,-,-,-⟩:=QQ.at (by rw [Hl.o];decide)
 rw [Hl.o];clear QQ Jr LN Ai;obtain ⟨ca0,ca1,ca2⟩:=HI.o.1.c3;obtain ⟨cp0,cp1,cp2⟩:=HI.o.2.1.c3;go_wp2_with fail;refine (Cx.o _).mono ?_;rintro _ w2 ⟨rfl,Js⟩;replace DK:=Bx.mk (DK.o.below Js);replace HI:=Bx.mk (show Bk w2 (w.heap.size) #[ax,ay,az] 23∧Bk w2 (w.heap.size+1) #[px,py,pz] 23∧Below w.heap.size w w2 from ⟨HI.o.1.la Js,HI.o.2.1.la Js,tr HI.o.2.2 Js⟩);obtain ⟨g',Et,he,hge,hlt,LO,Mw,S4⟩:=DK.o.at (by rw [Hl.o];decide)
 rw [Hl.o] at he S4;injection he with MN MO he3;injection MN with MN;injection MN with MN;subst MN he3;obtain ⟨x,hx⟩:=zBY Hl (show k<64 from hk);have LY:=LO _ _ hx;have hfk:=Mw k;have b1:(0:Int)≤(k:Int):=by omega
 have b2:(k:Int)<64:=by omega
 have H2:=Bx.mk (S4 k c);have Hge:=Bx.mk hge;clear Js LO Mw S4 hx Cx ca0 ca1 ca2 cp0 cp1 cp2 hge;go_wp2_with fail;generalize hW3:World.setCell w2 _ _=w3;have DO:Bx (Own w3 w.heap.size 3 .i64 (.slice (some ⟨g,0,none⟩) 64 cap) (xs.set k c)):=by rw [←hW3];exact H2
 have A6:Bx (Below w.heap.size w w3):=by rw [←hW3];exact ⟨HI.o.2.2.setCell Hge.o _⟩
 clear hW3 H2 HI LY hfk DK;refine (Kl.o _ cap _ DO.o.sl).mono ?_;rintro _ w4 ⟨rfl,Jz⟩;have A7:=Bx.mk (tr A6.o Jz);clear Jz Kl DO;go_wp2_with fail;go_ret;exact ⟨rfl,A7.o⟩
theorem zMD (n:Nat) (hn:n≤11) (f:Pt→Int) (hf : ∀ p,0≤f p∧f p≤255) (ax ay az px py pz c:Int) (Jb:Tr.Al (n+1) ⟨ax,ay,az⟩) (hin:Tr.InC (n+1) ⟨ax,ay,az⟩ ⟨px,py,pz⟩) (hx:0≤ax∧ax≤16384) (hy:0≤ay∧ay≤16384) (hz:0≤az∧az≤16384) (hc:0≤c∧c≤255)
 (Nn:Bx (∀ (k:Nat),k<8→k=Tr.octN n ⟨px,py,pz⟩ → ∀ W,Calls Tryz.prog 169 #[.string (strOfNums (Tr.enc (Tr.can f n (Tr.cor ⟨ax,ay,az⟩ n k)))),.agg #[(ax+chX k (2 ^ (n+2)):Int),(ay+chY k (2 ^ (n+2)):Int),(az+chZ k (2 ^ (n+2)):Int)],((n:Int)+2:Int),.agg #[px,py,pz],c] W fun e w'=>e = .returned (.string (strOfNums (Tr.enc (Tr.can (Tr.upd f ⟨px,py,pz⟩ c) n (Tr.cor ⟨ax,ay,az⟩ n k)))))∧Below W.heap.size W w')) (w:World) :
 Calls Tryz.prog 169 #[.string (strOfNums (Tr.enc (Tr.can f (n+1) ⟨ax,ay,az⟩))),.agg #[ax,ay,az],((n:Int)+3:Int),.agg #[px,py,pz],c] w fun e w'=>e = .returned (.string (strOfNums (Tr.enc (Tr.can (Tr.upd f ⟨px,py,pz⟩ c) (n+1) ⟨ax,ay,az⟩))))∧Below w.heap.size w w':=by
 have Mf:=zN2 hf hc ⟨px,py,pz⟩;obtain ⟨K,hK⟩ : ∃ K:Fin 8→Tr,K=fun i=>Tr.can (Tr.upd f ⟨px,py,pz⟩ c) n (Tr.cor ⟨ax,ay,az⟩ n i.val):=⟨_,rfl⟩;obtain ⟨T0,JG⟩ : ∃ T0:Nat→ByteArray,T0=fun k=>strOfNums (Tr.enc (Tr.can f n (Tr.cor ⟨ax,ay,az⟩ n k))):=⟨_,rfl⟩;obtain ⟨TK,JH⟩ : ∃ TK:Nat→ByteArray,TK=fun k=>strOfNums (Tr.enc (Tr.can (Tr.upd f ⟨px,py,pz⟩ c) n (Tr.cor ⟨ax,ay,az⟩ n k))):=⟨_,rfl⟩;have RD:Tr.can (Tr.upd f ⟨px,py,pz⟩ c) (n+1) ⟨ax,ay,az⟩=Tr.mkInner (n+3) K:=by rw [hK];rfl
 have Iq : ∀ i,Tr.WF (K i):=fun i=>by rw [hK];exact zAF Mf n _ (by omega)
 have Ip:(Tr.enc (.node (n+3) K)).length≤1000000000000000:=by
  have hk:=fun i=>(show (Tr.enc (K i)).length≤100000000000000 by rw [hK];exact zB7 Mf (by omega) _)
  rw [←Tr.pos_all (n+3) K]
  have key : ∀ k,k≤8→Tr.pos K k≤2+k * 100000000000000:=by
   intro k
   induction k with
   | zero=>intro _;rw [Tr.pos_zero];omega
   | succ k ih=>intro O9;rw [Tr.pos_succ K (by omega)];have h1:=ih (by omega);have h2:=hk ⟨k,by omega⟩;omega
  have:=key 8 nlr;omega
 have Nw:=Bx.mk fun (a:Option Addr) (cap:Nat) W (h:Slv W a (zM5 (zg K)))=>zKw (n+3) (by omega) K Iq Ip a cap W h
 rw [←RD,show ((n+3:Nat):Int)=(n:Int)+3 by omega] at Nw
 have hT:=Bx.mk fun (k:Nat) (hk:k<8) (he : ¬k=Tr.octN n ⟨px,py,pz⟩)=>(show T0 k=TK k from by
  rw [JG,JH]
  have:Tr.can f n (Tr.cor ⟨ax,ay,az⟩ n k)=Tr.can (Tr.upd f ⟨px,py,pz⟩ c) n (Tr.cor ⟨ax,ay,az⟩ n k):=Tr.can_congr n _ (Tr.al_cor Jb k) fun q hq=>by
   unfold Tr.upd;rw [if_neg];intro e;rw [e] at hq;exact he (congrArg Fin.val (Tr.inC_other (i:=⟨k,hk⟩) Jb hq).1)
  simp only [this])
 have Im:=Bx.mk fun k (hk:k<8)=>(show zM5 ((zg K).take (k+1))=zM5 ((zg K).take k)++[.string (TK k)] by
  rw [zHI K hk,zM7,JH,hK])
 have QB:=Bx.mk fun W=>zJB n hn ax ay az px py pz Jb hin hx hy hz W;have Lk:=Bx.mk fun W (k:Nat) (hk:k<8)=>zDU (n+2) (by omega) ax ay az k hk (by omega) (by omega) (by omega) W
 rw [show ((n+2:Nat):Int)+1=(n:Int)+3 by omega] at Lk
 have Sq:=zAF hf (n+1) ⟨ax,ay,az⟩ (by omega)
 have RW:=zB7 hf (show n+1≤12 by omega) ⟨ax,ay,az⟩
 have S8:IntKind.i64.wrap ((n:Int)+3 - 1)=(n:Int)+2:=by rw [show (n:Int)+3 - 1=(n:Int)+2 by omega];exact wj _ (by omega)
 have h2:((n:Int)+3 == 2)=false:=by simp;omega
 have LD:Tr.can f (n+1) ⟨ax,ay,az⟩=Tr.mkInner (n+3) (fun i=>Tr.can f n (Tr.cor ⟨ax,ay,az⟩ n i.val)):=rfl;have ho8:=Tr.octN_lt n ⟨px,py,pz⟩;have No:=Nn;clear Nn;have Nn:=Bx.mk fun (k:Nat) (hk:k<8) (he:k=Tr.octN n ⟨px,py,pz⟩) W=>(show Calls Tryz.prog 169 #[.string (T0 k),.agg #[(ax+chX k (2 ^ (n+2)):Int),(ay+chY k (2 ^ (n+2)):Int),(az+chZ k (2 ^ (n+2)):Int)],((n:Int)+2:Int),.agg #[px,py,pz],c] W fun e w'=>e = .returned (.string (TK k))∧Below W.heap.size W w' from by rw [JG,JH];exact No.o k hk he W)
 clear No;generalize Tr.octN n ⟨px,py,pz⟩=o at *;generalize strOfNums (Tr.enc (Tr.can (Tr.upd f ⟨px,py,pz⟩ c) (n+1) ⟨ax,ay,az⟩))=S2 at *;by_cases hnode : ∃ d ch,Tr.can f (n+1) ⟨ax,ay,az⟩ = .node d ch
 · obtain ⟨d,ch,hd⟩:=hnode
   have LW : ∀ i:Fin 8,ch i=Tr.can f n (Tr.cor ⟨ax,ay,az⟩ n i.val):=fun i=>by
    have h1:=Tr.mkInner_kid (n+3) (fun i:Fin 8=>Tr.can f n (Tr.cor ⟨ax,ay,az⟩ n i.val)) i;rw [←LD,hd] at h1;exact h1
   rw [hd] at Sq RW;have LT:=Bx.mk fun W=>zKt d ch Sq (by omega) W
   have OD:=Bx.mk fun k (hk:k<8)=>(show (zM5 (zg ch))[k]? = some (.string (T0 k)) by rw [zM6 (zHH ch hk),LW,JG])
   have Na:=fun W:World=>za (P:=Tryz.prog) 9 Tryz.underlying9 (Tr.enc_byt _ Sq) (k:=0) (x:=110) (by simp [Tr.enc]) W
   rw [show ((0:Nat):Int)=0 from rfl] at Na;rw [hd];generalize strOfNums (Tr.enc (.node d ch))=S at *;clear hx hy hz Jb hin hf Mf hK JG JH RD Iq Ip LD LW hd Sq RW hc;go_enter Tryz.func169,Tryz.ntmps169;go_wp2_with fail;generalize hW:(w.alloc _).alloc _=W;have hB:=bl2 hW;have ka:Bk W (w.heap.size) #[ax,ay,az] 23:=bk1 hW;have kp:Bk W (w.heap.size+1) #[px,py,pz] 23:=bk0 hW;have HI:=Bx.mk (show Bk W (w.heap.size) #[ax,ay,az] 23∧Bk W (w.heap.size+1) #[px,py,pz] 23∧Below w.heap.size w W from ⟨ka,kp,hB⟩);have Ai:Bx (w.heap.size+1<W.heap.size):=⟨kp.lt⟩;clear hW ka kp hB
   go_loopw [12,13] (fun v12 v13 wr => ∃ k:Nat,k≤8∧v13 = .int .i64 k∧Bx (Ownv wr (w.heap.size+1+1) 9 v12 (zM5 ((zg K).take k)))∧Bx (Bk wr (w.heap.size) #[ax,ay,az] 23∧Bk wr (w.heap.size+1) #[px,py,pz] 23∧Below w.heap.size w wr)) (fun _ i _=>8 - (intOf i).toNat)
   case atStart=>exact ⟨0,Nat.zero_le _,rfl,⟨Ownv.nil _ _ _⟩,HI⟩
   case round =>
    clear HI;obtain ⟨k,hk,rfl,QQ,HI⟩:=hrel;by_cases hlt:k<8
    · have t0:decide ((k:Int)<8)=true:=by simp;omega
      have b1:(0:Int)≤(k:Int):=by omega
      have b2:(k:Int)<8:=by omega
      have Po:=Bx.mk (Im.o k hlt);have Dh:=Bx.mk (show (zM5 ((zg K).take k)).length≤1000000000 by rw [zAC,List.length_take];omega)
      go_wp2_with fail;refine (LT.o _).mono ?_;rintro _ w1 ⟨g,pc,rfl,OJ,-,Jr⟩;obtain ⟨b,off,he,LY⟩:=OJ k _ (OD.o k hlt);simp only [Option.some.injEq,Addr.mk.injEq,and_true] at he;obtain ⟨rfl,rfl⟩:=he;rw [Nat.zero_add] at LY;have Aj:=Bx.mk (show Bk w1 (w.heap.size) #[ax,ay,az] 23∧Bk w1 (w.heap.size+1) #[px,py,pz] 23∧Below w.heap.size w w1 from ⟨HI.o.1.la Jr,HI.o.2.1.la Jr,tr HI.o.2.2 Jr⟩);have DM:=Bx.mk (QQ.o.below Jr);have OY:=Jr.size;clear Jr OJ HI QQ;obtain ⟨ca0,ca1,ca2⟩:=Aj.o.1.c3;obtain ⟨cp0,cp1,cp2⟩:=Aj.o.2.1.c3;go_wp2_with fail;refine (QB.o _).mono ?_;rintro _ w2 ⟨rfl,Js⟩;have Ak:=Bx.mk (show Bk w2 (w.heap.size) #[ax,ay,az] 23∧Bk w2 (w.heap.size+1) #[px,py,pz] 23∧Below w.heap.size w w2 from ⟨Aj.o.1.la Js,Aj.o.2.1.la Js,tr Aj.o.2.2 Js⟩);have DN:=Bx.mk (DM.o.below Js);clear Js ca0 ca1 ca2 cp0 cp1 cp2 Aj DM LY;by_cases he:k=o
      · have h1:((k:Int) == (o:Int))=true:=by rw [he];simp
        have HX:=Bx.mk (show Tr.can f n (Tr.cor ⟨ax,ay,az⟩ n k)=Tr.can f n (Tr.cor ⟨ax,ay,az⟩ n k)∧k=o from ⟨rfl,he⟩);have S7:=fun W=>Nn.o k hlt he W;have S7:=Bx.mk S7;clear he;obtain ⟨ca0,ca1,ca2⟩:=Ak.o.1.r3;obtain ⟨cp0,cp1,cp2⟩:=Ak.o.2.1.r3;have q0:=Bx.mk fun dk osk=>rq (Lk.o (grow (redrawn w2 dk) osk) k hlt);have q1:=Bx.mk fun dk osk=>rq (S7.o (grow (redrawn w2 dk) osk));go_wp2_with fail;refine wg ?_
        repeat (first | go_big_quiet_step (with_reducible first | exact q0.o _ _ | exact q1.o _ _) | quiet_step (with_reducible first | exact q0.o _ _ | exact q1.o _ _))
        refine wq ?_;rintro _ ⟨⟨dq,osq⟩,rfl⟩;have Jq:=bq w2 dq osq;have Am:=Bx.mk (show Bk (grow (redrawn w2 dq) osq) (w.heap.size) #[ax,ay,az] 23∧Bk (grow (redrawn w2 dq) osq) (w.heap.size+1) #[px,py,pz] 23∧Below w.heap.size w (grow (redrawn w2 dq) osq) from ⟨Ak.o.1.la Jq,Ak.o.2.1.la Jq,tr Ak.o.2.2 Jq⟩);have DO:=Bx.mk (DN.o.below Jq);clear q0 q1 ca0 ca1 ca2 cp0 cp1 cp2 Jq Ak DN S7;generalize grow (redrawn w2 dq) osq=w3 at *;have Ob:w.heap.size+1+1≤w3.heap.size:=Am.o.2.1.lt
        go_wp2_with (first
         | (at_builtin
            refine zAH rfl _ _ 35 rfl 9 (.string ByteArray.empty) 16 (by omega) Tryz.underlying35 (by kernel_rfl) rfl (w.heap.size+1+1) _ (zM5 ((zg K).take k)) rfl (DO.o.alloc _) (.string (TK k)) rfl ⟨w3.heap.size,0,none⟩ 1 rfl (zF _ _ _) Dh.o (zk Ob _) ?_
            intro v9 w9 QW NB _))
        have H9:=Bx.mk QW;rw [←Po.o] at H9;have K7:=(Am.o.2.2.alloc Am.o.2.2.size (.cells #[.string (TK k)] 9)).grown NB (zk Am.o.2.2.size _) (fun g hg=>by have:=(DO.o.lt g hg).1;omega)
        have Au:=Bx.mk (show Bk w9 (w.heap.size) #[ax,ay,az] 23∧Bk w9 (w.heap.size+1) #[px,py,pz] 23∧Below w.heap.size w w9 from ⟨Bk.grownO (zD Am.o.1) NB (fun e=>by have:=(DO.o.lt _ e).1;omega),Bk.grownO (zD Am.o.2.1) NB (fun e=>by have:=(DO.o.lt _ e).1;omega),K7⟩)
        clear QW NB K7;go_wp2_with fail
        go_roundw
        case rel=>exact ⟨k+1,by omega,by go_num,H9,Au⟩
        case measure=>simp [intOf];omega
      · have h1:((k:Int) == (o:Int))=false:=by simp;omega
        have JI:=hT.o k hlt he;have CB:=Bx.mk JI;clear JI;have Am:=Ak;have DO:=DN;have Ob:w.heap.size+1+1≤w2.heap.size:=Am.o.2.1.lt;clear he Ak DN
        go_wp2_with (first
         | (at_builtin
            refine zAH rfl _ _ 35 rfl 9 (.string ByteArray.empty) 16 (by omega) Tryz.underlying35 (by kernel_rfl) rfl (w.heap.size+1+1) _ (zM5 ((zg K).take k)) rfl (DO.o.alloc _) (.string (T0 k)) rfl ⟨w2.heap.size,0,none⟩ 1 rfl (zF _ _ _) Dh.o (zk Ob _) ?_
            intro v9 w9 QW NB _))
        rw [CB.o] at QW NB;have H9:=Bx.mk QW;rw [←Po.o] at H9;have K7:=(Am.o.2.2.alloc Am.o.2.2.size (.cells #[.string (TK k)] 9)).grown NB (zk Am.o.2.2.size _) (fun g hg=>by have:=(DO.o.lt g hg).1;omega)
        have Au:=Bx.mk (show Bk w9 (w.heap.size) #[ax,ay,az] 23∧Bk w9 (w.heap.size+1) #[px,py,pz] 23∧Below w.heap.size w w9 from ⟨Bk.grownO (zD Am.o.1) NB (fun e=>by have:=(DO.o.lt _ e).1;omega),Bk.grownO (zD Am.o.2.1) NB (fun e=>by have:=(DO.o.lt _ e).1;omega),K7⟩)
        clear QW NB K7;go_wp2_with fail
        go_roundw
        case rel=>exact ⟨k+1,by omega,by go_num,H9,Au⟩
        case measure=>simp [intOf];omega
    · obtain rfl:k=8:=by omega
      have t0:decide (((8:Nat):Int)<8)=false:=by decide
      have QS:=QQ.o;rw [List.take_of_length_le (by rw [zh];exact Nat.le_refl _)] at QS
      obtain ⟨pa,pc,rfl,Rn⟩:=QS.form;have OW:(zM5 (zg K)).length=8:=by rw [zAC,zh]
      rw [OW];have Db:=Bx.mk Rn;clear Rn QS QQ OW;go_wp2_with fail;refine (Nw.o pa pc _ Db.o).mono ?_;rintro _ w9 ⟨rfl,K7⟩;have AB:=Bx.mk (tr HI.o.2.2 K7);clear K7;go_wp2_with fail;go_ret;exact ⟨rfl,AB.o⟩
 · obtain ⟨u,hu⟩ : ∃ u,Tr.can f (n+1) ⟨ax,ay,az⟩ = .uni u:=by
    rw [LD];unfold Tr.mkInner;split
    · rename_i LM;exact LM.1
    · rename_i LM;exact absurd ⟨n+3,fun i:Fin 8=>Tr.can f n (Tr.cor ⟨ax,ay,az⟩ n i.val),by rw [LD];unfold Tr.mkInner;rw [if_neg LM]⟩ hnode
   have hTu:=Bx.mk fun k (hk:k<8)=>(show T0 k=strOfNums (Tr.enc (.uni u)) by
    have h1:=Tr.mkInner_kid (n+3) (fun i:Fin 8=>Tr.can f n (Tr.cor ⟨ax,ay,az⟩ n i.val)) ⟨k,hk⟩;rw [←LD,hu] at h1;rw [JG]
    show strOfNums (Tr.enc (Tr.can f n (Tr.cor ⟨ax,ay,az⟩ n k)))=_
    rw [←h1];rfl)
   rw [hu] at Sq;have Na:=fun W:World=>za (P:=Tryz.prog) 9 Tryz.underlying9 (Tr.enc_byt _ Sq) (k:=0) (x:=117) (by simp [Tr.enc]) W
   rw [show ((0:Nat):Int)=0 from rfl] at Na;rw [hu];generalize strOfNums (Tr.enc (.uni u))=S at *;clear hx hy hz Jb hin hf Mf hK JG JH RD Iq Ip LD hu Sq RW hc hnode;go_enter Tryz.func169,Tryz.ntmps169;go_wp2_with fail;generalize hW:(w.alloc _).alloc _=W;have hB:=bl2 hW;have ka:Bk W (w.heap.size) #[ax,ay,az] 23:=bk1 hW;have kp:Bk W (w.heap.size+1) #[px,py,pz] 23:=bk0 hW;have HI:=Bx.mk (show Bk W (w.heap.size) #[ax,ay,az] 23∧Bk W (w.heap.size+1) #[px,py,pz] 23∧Below w.heap.size w W from ⟨ka,kp,hB⟩);have Ai:Bx (w.heap.size+1<W.heap.size):=⟨kp.lt⟩;clear hW ka kp hB
   go_loopw [12,13] (fun v12 v13 wr => ∃ k:Nat,k≤8∧v13 = .int .i64 k∧Bx (Ownv wr (w.heap.size+1+1) 9 v12 (zM5 ((zg K).take k)))∧Bx (Bk wr (w.heap.size) #[ax,ay,az] 23∧Bk wr (w.heap.size+1) #[px,py,pz] 23∧Below w.heap.size w wr)) (fun _ i _=>8 - (intOf i).toNat)
   case atStart=>exact ⟨0,Nat.zero_le _,rfl,⟨Ownv.nil _ _ _⟩,HI⟩
   case round =>
    clear HI;obtain ⟨k,hk,rfl,QQ,HI⟩:=hrel;by_cases hlt:k<8
    · have t0:decide ((k:Int)<8)=true:=by simp;omega
      have b1:(0:Int)≤(k:Int):=by omega
      have b2:(k:Int)<8:=by omega
      have Po:=Bx.mk (Im.o k hlt);have Dh:=Bx.mk (show (zM5 ((zg K).take k)).length≤1000000000 by rw [zAC,List.length_take];omega)
      have JB:=Bx.mk (hTu.o k hlt);have Aj:=HI;have DM:=QQ;obtain ⟨w1,Sr⟩ : ∃ w1,w1=wr:=⟨_,rfl⟩;rw [←Sr] at Aj DM ⊢;clear Sr HI QQ;obtain ⟨ca0,ca1,ca2⟩:=Aj.o.1.c3;obtain ⟨cp0,cp1,cp2⟩:=Aj.o.2.1.c3;go_wp2_with fail;refine (QB.o _).mono ?_;rintro _ w2 ⟨rfl,Js⟩;have Ak:=Bx.mk (show Bk w2 (w.heap.size) #[ax,ay,az] 23∧Bk w2 (w.heap.size+1) #[px,py,pz] 23∧Below w.heap.size w w2 from ⟨Aj.o.1.la Js,Aj.o.2.1.la Js,tr Aj.o.2.2 Js⟩);have DN:=Bx.mk (DM.o.below Js);clear Js ca0 ca1 ca2 cp0 cp1 cp2 Aj DM ;by_cases he:k=o
      · have h1:((k:Int) == (o:Int))=true:=by rw [he];simp
        have HX:=Bx.mk (show Tr.can f n (Tr.cor ⟨ax,ay,az⟩ n k)=Tr.can f n (Tr.cor ⟨ax,ay,az⟩ n k)∧k=o from ⟨rfl,he⟩);have S7:=fun W=>Nn.o k hlt he W;rw [JB.o] at S7;have S7:=Bx.mk S7;clear he;obtain ⟨ca0,ca1,ca2⟩:=Ak.o.1.r3;obtain ⟨cp0,cp1,cp2⟩:=Ak.o.2.1.r3;have q0:=Bx.mk fun dk osk=>rq (Lk.o (grow (redrawn w2 dk) osk) k hlt);have q1:=Bx.mk fun dk osk=>rq (S7.o (grow (redrawn w2 dk) osk));go_wp2_with fail;refine wg ?_
        repeat (first | go_big_quiet_step (with_reducible first | exact q0.o _ _ | exact q1.o _ _) | quiet_step (with_reducible first | exact q0.o _ _ | exact q1.o _ _))
        refine wq ?_;rintro _ ⟨⟨dq,osq⟩,rfl⟩;have Jq:=bq w2 dq osq;have Am:=Bx.mk (show Bk (grow (redrawn w2 dq) osq) (w.heap.size) #[ax,ay,az] 23∧Bk (grow (redrawn w2 dq) osq) (w.heap.size+1) #[px,py,pz] 23∧Below w.heap.size w (grow (redrawn w2 dq) osq) from ⟨Ak.o.1.la Jq,Ak.o.2.1.la Jq,tr Ak.o.2.2 Jq⟩);have DO:=Bx.mk (DN.o.below Jq);clear q0 q1 ca0 ca1 ca2 cp0 cp1 cp2 Jq Ak DN S7;generalize grow (redrawn w2 dq) osq=w3 at *;have Ob:w.heap.size+1+1≤w3.heap.size:=Am.o.2.1.lt
        go_wp2_with (first
         | (at_builtin
            refine zAH rfl _ _ 35 rfl 9 (.string ByteArray.empty) 16 (by omega) Tryz.underlying35 (by kernel_rfl) rfl (w.heap.size+1+1) _ (zM5 ((zg K).take k)) rfl (DO.o.alloc _) (.string (TK k)) rfl ⟨w3.heap.size,0,none⟩ 1 rfl (zF _ _ _) Dh.o (zk Ob _) ?_
            intro v9 w9 QW NB _))
        have H9:=Bx.mk QW;rw [←Po.o] at H9;have K7:=(Am.o.2.2.alloc Am.o.2.2.size (.cells #[.string (TK k)] 9)).grown NB (zk Am.o.2.2.size _) (fun g hg=>by have:=(DO.o.lt g hg).1;omega)
        have Au:=Bx.mk (show Bk w9 (w.heap.size) #[ax,ay,az] 23∧Bk w9 (w.heap.size+1) #[px,py,pz] 23∧Below w.heap.size w w9 from ⟨Bk.grownO (zD Am.o.1) NB (fun e=>by have:=(DO.o.lt _ e).1;omega),Bk.grownO (zD Am.o.2.1) NB (fun e=>by have:=(DO.o.lt _ e).1;omega),K7⟩)
        clear QW NB K7;go_wp2_with fail
        go_roundw
        case rel=>exact ⟨k+1,by omega,by go_num,H9,Au⟩
        case measure=>simp [intOf];omega
      · have h1:((k:Int) == (o:Int))=false:=by simp;omega
        have JI:=hT.o k hlt he;rw [JB.o] at JI;have CB:=Bx.mk JI;clear JI;have Am:=Ak;have DO:=DN;have Ob:w.heap.size+1+1≤w2.heap.size:=Am.o.2.1.lt;clear he Ak DN
        go_wp2_with (first
         | (at_builtin
            refine zAH rfl _ _ 35 rfl 9 (.string ByteArray.empty) 16 (by omega) Tryz.underlying35 (by kernel_rfl) rfl (w.heap.size+1+1) _ (zM5 ((zg K).take k)) rfl (DO.o.alloc _) (.string (S)) rfl ⟨w2.heap.size,0,none⟩ 1 rfl (zF _ _ _) Dh.o (zk Ob _) ?_
            intro v9 w9 QW NB _))
        rw [CB.o] at QW NB;have H9:=Bx.mk QW;rw [←Po.o] at H9;have K7:=(Am.o.2.2.alloc Am.o.2.2.size (.cells #[.string (TK k)] 9)).grown NB (zk Am.o.2.2.size _) (fun g hg=>by have:=(DO.o.lt g hg).1;omega)
        have Au:=Bx.mk (show Bk w9 (w.heap.size) #[ax,ay,az] 23∧Bk w9 (w.heap.size+1) #[px,py,pz] 23∧Below w.heap.size w w9 from ⟨Bk.grownO (zD Am.o.1) NB (fun e=>by have:=(DO.o.lt _ e).1;omega),Bk.grownO (zD Am.o.2.1) NB (fun e=>by have:=(DO.o.lt _ e).1;omega),K7⟩)
        clear QW NB K7;go_wp2_with fail
        go_roundw
        case rel=>exact ⟨k+1,by omega,by go_num,H9,Au⟩
        case measure=>simp [intOf];omega
    · obtain rfl:k=8:=by omega
      have t0:decide (((8:Nat):Int)<8)=false:=by decide
      have QS:=QQ.o;rw [List.take_of_length_le (by rw [zh];exact Nat.le_refl _)] at QS
      obtain ⟨pa,pc,rfl,Rn⟩:=QS.form;have OW:(zM5 (zg K)).length=8:=by rw [zAC,zh]
      rw [OW];have Db:=Bx.mk Rn;clear Rn QS QQ OW;go_wp2_with fail;refine (Nw.o pa pc _ Db.o).mono ?_;rintro _ w9 ⟨rfl,K7⟩;have AB:=Bx.mk (tr HI.o.2.2 K7);clear K7;go_wp2_with fail;go_ret;exact ⟨rfl,AB.o⟩
theorem zMC (f:Pt→Int) (hf : ∀ p,0≤f p∧f p≤255) (px py pz c:Int) (hc:0≤c∧c≤255) : ∀ (n:Nat),n≤12 → ∀ (ax ay az:Int),Tr.Al n ⟨ax,ay,az⟩→Tr.InC n ⟨ax,ay,az⟩ ⟨px,py,pz⟩→(0≤ax∧ax+2 ^ (n+2)≤16384)→(0≤ay∧ay+2 ^ (n+2)≤16384)→(0≤az∧az+2 ^ (n+2)≤16384) → ∀ (w:World),
 Calls Tryz.prog 169 #[.string (strOfNums (Tr.enc (Tr.can f n ⟨ax,ay,az⟩))),.agg #[ax,ay,az],((n:Int)+2:Int),.agg #[px,py,pz],c] w fun e w'=>e = .returned (.string (strOfNums (Tr.enc (Tr.can (Tr.upd f ⟨px,py,pz⟩ c) n ⟨ax,ay,az⟩))))∧Below w.heap.size w w':=by
 intro n
 induction n with
 | zero =>
   intro _ ax ay az Jb hin hx hy hz w;exact zME f hf ax ay az px py pz c Jb hin hx hy hz hc w
 | succ n ih =>
   intro hn ax ay az Jb hin hx hy hz w;have hp:=zt (show n+2≤14 by omega)
   have Qr:=Tr.pow_succ2 n;have h3:(((n+1:Nat):Int)+2)=(n:Int)+3:=by omega
   rw [h3];refine zMD n (by omega) f hf ax ay az px py pz c Jb hin (by omega) (by omega) (by omega) hc ⟨fun k hk he W=>?_⟩ w
   have hb:=zCg hk (show (0:Int)≤2 ^ (n+2) by omega)
   have Lg:=zDR ax ay az n k;have h1:=Tr.al_cor Jb k;have h2:Tr.InC n (Tr.cor ⟨ax,ay,az⟩ n k) ⟨px,py,pz⟩:=by rw [he];exact Tr.inC_step Jb hin
   rw [Lg] at h1 h2 ⊢;exact ih (by omega) _ _ _ h1 h2 (by omega) (by omega) (by omega) W
theorem zDq (L:Nat) (hL:L≤14) (w:World) :
 Calls Tryz.prog 35 #[.agg #[(0:Int),(0:Int),(0:Int)],(L:Int)] w fun e w'=>e = .returned (.agg #[(0:Int),(0:Int),(0:Int),(2 ^ L:Int),(2 ^ L:Int),(2 ^ L:Int)])∧Below w.heap.size w w':=by
 have h:=zDp 0 0 0 L hL (by omega) (by omega) (by omega) w
 simpa only [Int.zero_add] using h
theorem zAe (n:Nat) (hn:n≤12) (f:Pt→Int) (hf : ∀ p,0≤f p∧f p≤255) (px py pz c:Int) (QE:inB ⟨px,py,pz⟩ (zN (2 ^ (n+2)))=true∧0≤c∧c≤255) (w:World) :
 Calls Tryz.prog 125 #[.string (strOfNums (Tr.enc (trF n f))),((n:Int)+2:Int),.agg #[px,py,pz],c] w fun e w'=>e = .returned (.tuple #[.string (strOfNums (Tr.enc (trF n (Tr.upd f ⟨px,py,pz⟩ c)))),(0:Int)])∧Below w.heap.size w w':=by
 have hp:=zt (show n+2≤14 by omega)
 have Lv:=fun W=>zDq (n+2) (by omega) W
 have RG:=fun W=>zK8 px py pz 0 0 0 (2 ^ (n+2)) (2 ^ (n+2)) (2 ^ (n+2)) W;rw [show ((n+2:Nat):Int)=(n:Int)+2 by omega] at Lv
 have Ri:=Bx.mk fun W=>zMC f hf px py pz c QE.2 n hn 0 0 0 (zA3 n) (zGV QE.1) (by omega) (by omega) (by omega) W
 rw [show inB ⟨px,py,pz⟩ ⟨⟨0,0,0⟩,⟨2 ^ (n+2),2 ^ (n+2),2 ^ (n+2)⟩⟩=true from QE.1] at RG;have Lv:=Bx.mk Lv;have RG:=Bx.mk RG;have t1:decide (c<0)=false:=by simp;omega
 have t2:decide (255<c)=false:=by simp;omega
 clear QE hp;unfold trF;generalize strOfNums (Tr.enc (Tr.can f n ⟨0,0,0⟩))=S at *;generalize strOfNums (Tr.enc (Tr.can (Tr.upd f ⟨px,py,pz⟩ c) n ⟨0,0,0⟩))=S2 at *;generalize (2:Int) ^ (n+2)=m at *;go_enter Tryz.func125,Tryz.ntmps125;go_wp2_with fail;generalize hW:w.alloc _=W;have hB:=bl1 hW;have kp:Bk W (w.heap.size) #[px,py,pz] 23:=bk0 hW;clear hW;obtain ⟨cp0,cp1,cp2⟩:=kp.r3;have q0:=Bx.mk fun dk osk=>rq (Lv.o (grow (redrawn W dk) osk));have q1:=Bx.mk fun dk osk=>rq (RG.o (grow (redrawn W dk) osk));refine wg ?_
 repeat (first | go_big_quiet_step (with_reducible first | exact q0.o _ _ | exact q1.o _ _) | quiet_step (with_reducible first | exact q0.o _ _ | exact q1.o _ _))
 refine wq ?_;rintro _ ⟨⟨dq,osq⟩,rfl⟩;have Jq:=bq W dq osq;replace hB:=tr hB Jq;replace kp:=kp.la Jq;clear q0 q1 cp0 cp1 cp2 Jq Lv RG;generalize grow (redrawn W dq) osq=w1 at *;obtain ⟨cp0,cp1,cp2⟩:=kp.c3;go_wp2_with fail;refine (Ri.o _).mono ?_;rintro _ w2 ⟨rfl,Js⟩;replace hB:=tr hB Js;clear Js cp0 cp1 cp2;go_wp2_with fail
 go_ret2
 exact ⟨rfl,hB⟩
theorem zK3 (a b c d e f a2 b2 c2 d2 e2 f2:Int) (n:Nat) (hb:Option Addr) (Lm:Nat) (ys:List Int) (QE:okB ⟨⟨a,b,c⟩,⟨d,e,f⟩⟩=true) (he:zS ⟨⟨a,b,c⟩,⟨d,e,f⟩⟩=false) (hV:zAE ⟨⟨a,b,c⟩,⟨d,e,f⟩⟩=n) (OY:n≤5000) (HX:GoodG ⟨⟨a2,b2,c2⟩,⟨d2,e2,f2⟩⟩ ys Lm) (w:World) (Rv:Sl w .i64 hb ys) :
 Calls Tryz.prog 28 #[.agg #[a2,b2,c2,d2,e2,f2,.slice hb ys.length Lm],.agg #[a,b,c,d,e,f]] w fun e' w' => ∃ g cap,e' = .returned (.tuple #[.agg #[a,b,c,d,e,f,.slice (some ⟨g,0,none⟩) n cap],(0:Int)])∧Sl w' .i64 (some ⟨g,0,none⟩) (cellsOf ⟨⟨a,b,c⟩,⟨d,e,f⟩⟩ (zE ⟨⟨a2,b2,c2⟩,⟨d2,e2,f2⟩⟩ ys))∧Below w.heap.size w w':=by
 have Pm:=Bx.mk fun W=>zLF a b c d e f QE he n hV OY W;have Qn:0<n:=by have:=zBW he;omega
 have Qe:=Bx.mk fun (pb po cap:Nat) W (h:Sl W .i64 (some ⟨pb,po,none⟩) (List.replicate n 0)) (h':Sl W .i64 hb ys)=>zLH a b c d e f a2 b2 c2 d2 e2 f2 pb po n cap hb Lm ys (zJG QE) hV Qn OY HX W h h';have Dc:=Bx.mk Rv;clear QE he hV HX Rv;generalize cellsOf ⟨⟨a,b,c⟩,⟨d,e,f⟩⟩ (zE ⟨⟨a2,b2,c2⟩,⟨d2,e2,f2⟩⟩ ys)=zs at *;go_enter Tryz.func28,Tryz.ntmps28;go_wp2_with fail;generalize hW:((w.alloc _).alloc _).alloc _=W;have JE:=sz3 hW;have hB:=bl3 hW;have kg:Bk W (w.heap.size) #[a2,b2,c2,d2,e2,f2,.slice hb ys.length Lm] 28:=bk2 hW;have kc:Bk W (w.heap.size+1) #[a,b,c,d,e,f] 25:=bk1 hW;have kr:Bk W (w.heap.size+1+1) #[(0:Int),(0:Int),(0:Int),(0:Int),(0:Int),(0:Int),.slice none 0 0] 28:=bk0 hW;clear hW;obtain ⟨cc0,cc1,cc2,cc3,cc4,cc5⟩:=kc.c6;go_wp2_with fail;refine (Pm.o _).mono ?_;rintro _ w1 ⟨g1,cap,rfl,QQ,Jr⟩;have Hz:=Bx.mk QQ.sl;replace hB:=tr hB Jr;replace kg:=kg.la Jr;replace kc:=kc.la Jr;replace kr:=kr.la Jr;replace JE:=nlt JE Jr.size;clear Jr;clear cc0 cc1 cc2 cc3 cc4 cc5;clear QQ;have F4 : ∀ o,(w1.alloc o).cell? ⟨w.heap.size,0,none⟩=some (.int .i64 a2):=fun o=>Bk.cell (zD kg) 0 rfl;have F5 : ∀ o,(w1.alloc o).cell? ⟨w.heap.size,1,none⟩=some (.int .i64 b2):=fun o=>Bk.cell (zD kg) 1 rfl;have F6 : ∀ o,(w1.alloc o).cell? ⟨w.heap.size,2,none⟩=some (.int .i64 c2):=fun o=>Bk.cell (zD kg) 2 rfl;have F7 : ∀ o,(w1.alloc o).cell? ⟨w.heap.size,3,none⟩=some (.int .i64 d2):=fun o=>Bk.cell (zD kg) 3 rfl;have F8 : ∀ o,(w1.alloc o).cell? ⟨w.heap.size,4,none⟩=some (.int .i64 e2):=fun o=>Bk.cell (zD kg) 4 rfl;have F9 : ∀ o,(w1.alloc o).cell? ⟨w.heap.size,5,none⟩=some (.int .i64 f2):=fun o=>Bk.cell (zD kg) 5 rfl;have FA : ∀ o,(w1.alloc o).cell? ⟨w.heap.size,6,none⟩=some (.slice hb ys.length Lm):=fun o=>Bk.cell (zD kg) 6 rfl;go_wp2_with fail;generalize hW3:w1.alloc _=V3;have Jv:=bl1 hW3;have Do:=Bx.mk (Hz.o.below Jv);replace hB:=tr hB Jv;replace kg:=kg.la Jv;replace kc:=kc.la Jv;replace kr:=kr.la Jv;replace JE:=nlt JE Jv.size;clear Jv;clear hW3 F4 F5 F6 F7 F8 F9 FA Hz;refine (Qe.o _ _ _ _ Do.o (Dc.o.below hB)).mono ?_;rintro _ w4 ⟨g2,cap2,rfl,QQ,Jz⟩;have N4:=QQ.lt g2 rfl;have Hz4:=Bx.mk QQ.sl;have hSz4:=JE;replace hB:=tr hB Jz;replace kg:=kg.la Jz;replace kc:=kc.la Jz;replace kr:=kr.la Jz;replace JE:=nlt JE Jz.size;clear Jz;obtain ⟨Fj,Fk,Fl,Fm,Fn,Fo,Fp⟩:=kr.c7;obtain ⟨GU,GV,GW,GX,GY,GZ,Ga⟩:=kr.f7;clear QQ Do;go_wp2_with fail;have U3:=kr.put7 (.int .i64 a) (.int .i64 b) (.int .i64 c) (.int .i64 d) (.int .i64 e) (.int .i64 f) (.slice (some ⟨g2,0,none⟩) n cap2);have I2:=Bx.mk (zBn hB (show w.heap.size≤w.heap.size+1+1 by omega) (.int .i64 a) (.int .i64 b) (.int .i64 c) (.int .i64 d) (.int .i64 e) (.int .i64 f) (.slice (some ⟨g2,0,none⟩) n cap2))
 have J4:=Bx.mk (zMO Hz4.o (show g2 ≠ w.heap.size+1+1 by omega) (.int .i64 a) (.int .i64 b) (.int .i64 c) (.int .i64 d) (.int .i64 e) (.int .i64 f) (.slice (some ⟨g2,0,none⟩) n cap2))
 obtain ⟨z0,z1,z2,z3,z4,z5,z6⟩:=U3.c7;exact bodyPost_ret (v:=.tuple #[.agg #[a,b,c,d,e,f,.slice (some ⟨g2,0,none⟩) n cap2],(0:Int)]) (by simp [results,Tryz.results28,go_sem,z0,z1,z2,z3,z4,z5,z6]) rfl ⟨g2,cap2,rfl,J4.o,I2.o⟩
end
end Go.Proofs.YtfcbajmjaifjlaaGreat