/- Pnt2, Pnt3, Eq: joined by program, for one claim. -/
import Derived.Test.YtgnfgblkpnfcnaaGreatDoorM5
import Derived.Laws.StructEq
set_option maxHeartbeats 400000
set_option linter.unusedVariables false
set_option linter.unusedSimpArgs false
namespace Go.Proofs.YtgnfgblkpnfcnaaGreatDoor
section
open Go.RowKit Go.Sort
theorem zMC (a b c d e f:Int) (hS:Small ⟨⟨a,b,c⟩,⟨d,e,f⟩⟩ 1048575) (w:World) :
 Calls Tryz.prog 153 #[.agg #[a,b,c,d,e,f]] w fun e' w'=>e' = .returned (.agg #[.int .i64 (zv ⟨⟨a,b,c⟩,⟨d,e,f⟩⟩).x,.int .i64 (zv ⟨⟨a,b,c⟩,⟨d,e,f⟩⟩).y,.int .i64 (zv ⟨⟨a,b,c⟩,⟨d,e,f⟩⟩).z])∧Below w.heap.size w w':=by
 obtain ⟨s1,s2,s3,s4,s5,s6⟩:=hS;simp only [] at s1 s2 s3 s4 s5 s6;cases he:zN ⟨⟨a,b,c⟩,⟨d,e,f⟩⟩ with
 | true =>
   have hz:zv ⟨⟨a,b,c⟩,⟨d,e,f⟩⟩=Pt.zero:=by unfold zv;rw [if_pos he]
   have Hz:=Bx.mk hz;have He:=Bx.mk he;clear hz he;go_enter Tryz.func153,Tryz.ntmps153;go_wp2_with fail;generalize hW:World.alloc (World.alloc w _) _=W;have hSz:=sz2 hW;have hB:=bl2 hW;have kb:Bk W (w.heap.size) #[a,b,c,d,e,f] 25:=bk1 hW;have kr:Bk W (w.heap.size+1) #[(0:Int),(0:Int),(0:Int)] 23:=bk0 hW;clear hW;refine (zP _ _ _ _ _ _ _).mono ?_;rintro e' w1 ⟨rfl,hb⟩;rw [He.out];replace hB:=hB.trans (hb.mono hB.size);replace kb:=kb.later hb;replace kr:=kr.later hb;replace hSz:=Nat.le_trans hSz hb.size;clear hb;obtain ⟨cb0,cb1,cb2,cb3,cb4,cb5⟩:=kb.c6;obtain ⟨cr0,cr1,cr2⟩:=kr.c3;obtain ⟨fr0,fr1,fr2⟩:=kr.f3;go_wp2_with fail;replace kr:=kr.put3 (.int .i64 0) (.int .i64 0) (.int .i64 0);exact bodyPost_ret (v:=.agg #[(0:Int),(0:Int),(0:Int)]) (results_cell_row rfl _ _ _ 23 #[(0:Int),(0:Int),(0:Int)] (0,0) _ rfl kr Tryz.underlying23 rfl (by kernel_rfl)) rfl ⟨by rw [Hz.out];rfl,zBh hB (by omega) _ _ _⟩
 | false =>
   have hz:zv ⟨⟨a,b,c⟩,⟨d,e,f⟩⟩=⟨d - a,e - b,f - c⟩:=by unfold zv;rw [if_neg (by simp [he])];rfl
   have Hz:=Bx.mk hz;have He:=Bx.mk he;have hemp:=zO.1 he;simp only [] at hemp;clear hz he;have hsub:=Bx.mk fun W=>zM0 d e f a b c (by omega) (by omega) (by omega) W
   rw [IntWalk.wrap64_in (d - a) (by omega),IntWalk.wrap64_in (e - b) (by omega),IntWalk.wrap64_in (f - c) (by omega)] at hsub
   clear hemp s1 s2 s3 s4 s5 s6;go_enter Tryz.func153,Tryz.ntmps153;go_wp2_with fail;generalize hW:World.alloc (World.alloc w _) _=W;have hSz:=sz2 hW;have hB:=bl2 hW;have kb:Bk W (w.heap.size) #[a,b,c,d,e,f] 25:=bk1 hW;have kr:Bk W (w.heap.size+1) #[(0:Int),(0:Int),(0:Int)] 23:=bk0 hW;clear hW;refine (zP _ _ _ _ _ _ _).mono ?_;rintro e' w1 ⟨rfl,hb⟩;rw [He.out];replace hB:=hB.trans (hb.mono hB.size);replace kb:=kb.later hb;replace kr:=kr.later hb;replace hSz:=Nat.le_trans hSz hb.size;clear hb;obtain ⟨cb0,cb1,cb2,cb3,cb4,cb5⟩:=kb.c6;obtain ⟨cr0,cr1,cr2⟩:=kr.c3;go_wp2_with fail;refine (hsub.out _).mono ?_;rintro e' w2 ⟨rfl,hb⟩;clear cb0 cb1 cb2 cb3 cb4 cb5 cr0 cr1 cr2;replace hB:=hB.trans (hb.mono hB.size);replace kb:=kb.later hb;replace kr:=kr.later hb;replace hSz:=Nat.le_trans hSz hb.size;clear hb;obtain ⟨cr0,cr1,cr2⟩:=kr.c3;obtain ⟨fr0,fr1,fr2⟩:=kr.f3;go_wp2_with fail;replace kr:=kr.put3 (.int .i64 (d - a)) (.int .i64 (e - b)) (.int .i64 (f - c));exact bodyPost_ret (v:=.agg #[.int .i64 (d - a),.int .i64 (e - b),.int .i64 (f - c)]) (results_cell_row rfl _ _ _ 23 #[.int .i64 (d - a),.int .i64 (e - b),.int .i64 (f - c)] (0,0) _ rfl kr Tryz.underlying23 rfl (by kernel_rfl)) rfl ⟨by rw [Hz.out],zBh hB (by omega) _ _ _⟩
theorem zN0 (a b c d e f:Int) (hS:Small ⟨⟨a,b,c⟩,⟨d,e,f⟩⟩ 1048575) (w:World) :
 Calls Tryz.prog 124 #[.agg #[a,b,c,d,e,f]] w fun e' w'=>e' = .returned (.int .i64 (zAC ⟨⟨a,b,c⟩,⟨d,e,f⟩⟩))∧Below w.heap.size w w':=by
 have hsz:=Bx.mk fun W=>zMC a b c d e f hS W;have hv:=Bx.mk (show zAC ⟨⟨a,b,c⟩,⟨d,e,f⟩⟩=(zv ⟨⟨a,b,c⟩,⟨d,e,f⟩⟩).x * (zv ⟨⟨a,b,c⟩,⟨d,e,f⟩⟩).y * (zv ⟨⟨a,b,c⟩,⟨d,e,f⟩⟩).z from rfl);obtain ⟨⟨p1,p2⟩,p3,p4⟩:=zJs ⟨⟨a,b,c⟩,⟨d,e,f⟩⟩ (by decide) hS
 rw [show zAC ⟨⟨a,b,c⟩,⟨d,e,f⟩⟩=(zv ⟨⟨a,b,c⟩,⟨d,e,f⟩⟩).x * (zv ⟨⟨a,b,c⟩,⟨d,e,f⟩⟩).y * (zv ⟨⟨a,b,c⟩,⟨d,e,f⟩⟩).z from rfl] at p3 p4;clear hS;generalize (zv ⟨⟨a,b,c⟩,⟨d,e,f⟩⟩)=s at *;obtain ⟨sx,sy,sz⟩:=s;simp only [] at *;have m1:=IntWalk.i64_in (sx * sy) (by omega)
 have m2:=IntWalk.i64_in (sx * sy * sz) (by omega)
 have m3:=IntWalk.wrap64_in (sx * sy) (by omega)
 have m4:=IntWalk.wrap64_in (sx * sy * sz) (by omega)
 clear p1 p2 p3 p4;go_enter Tryz.func124,Tryz.ntmps124;go_wp2_with fail;generalize hW:World.alloc w _=W;have hSz:=sz1 hW;have hB:=bl1 hW;have kb:Bk W (w.heap.size) #[a,b,c,d,e,f] 25:=bk0 hW;clear hW;refine (hsz.out _).mono ?_;rintro e' w1 ⟨rfl,hb⟩;replace hB:=hB.trans (hb.mono hB.size);replace kb:=kb.later hb;replace hSz:=Nat.le_trans hSz hb.size;clear hb;go_wp2_with fail;go_ret;exact ⟨zt (by rw [hv.out]),hB.alloc hB.size _⟩
theorem zFT (a b c d e f px py pz:Int) (hS:Small ⟨⟨a,b,c⟩,⟨d,e,f⟩⟩ 1048575) (w:World) :
 Calls Tryz.prog 163 #[.agg #[a,b,c,d,e,f],.agg #[px,py,pz]] w fun e' w'=>e' = .returned (.int .i64 (zY ⟨⟨a,b,c⟩,⟨d,e,f⟩⟩ ⟨px,py,pz⟩))∧Below w.heap.size w w':=by
 cases hin:inB ⟨px,py,pz⟩ ⟨⟨a,b,c⟩,⟨d,e,f⟩⟩ with
 | false =>
   have hv:=Bx.mk (show zY ⟨⟨a,b,c⟩,⟨d,e,f⟩⟩ ⟨px,py,pz⟩ = -1 by unfold zY;rw [if_neg (by simp [hin])])
   have Hin:=Bx.mk hin;clear hin hS;go_enter Tryz.func163,Tryz.ntmps163;go_wp2_with fail;generalize hW:World.alloc (World.alloc w _) _=W;have hSz:=sz2 hW;have hB:=bl2 hW;have kb:Bk W (w.heap.size) #[a,b,c,d,e,f] 25:=bk1 hW;have kp:Bk W (w.heap.size+1) #[px,py,pz] 23:=bk0 hW;clear hW;refine (zFM _ _ _ _ _ _ _ _ _ _).mono ?_;rintro e' w1 ⟨rfl,hb⟩;rw [Hin.out];go_wp2_with fail;go_ret;exact ⟨zt hv.out.symm,hB.trans (hb.mono hB.size)⟩
 | true =>
   have hemp:=zFQ hin;have hin':=zX.1 hin;have hfull:=zw hemp;have hv:=Bx.mk (show zY ⟨⟨a,b,c⟩,⟨d,e,f⟩⟩ ⟨px,py,pz⟩=((pz - c) * (zv ⟨⟨a,b,c⟩,⟨d,e,f⟩⟩).y+(py - b)) * (zv ⟨⟨a,b,c⟩,⟨d,e,f⟩⟩).x+(px - a) by unfold zY;rw [if_pos hin])
   have hbd:=zZ hin;rw [hv.out] at hbd;have hvb:=(zJs ⟨⟨a,b,c⟩,⟨d,e,f⟩⟩ (by decide) hS).2.2
   have hsz:=Bx.mk fun W=>zMC a b c d e f hS W;have Hin:=Bx.mk hin;obtain ⟨s1,s2,s3,s4,s5,s6⟩:=hS;simp only [] at s1 s2 s3 s4 s5 s6 hin';have hsub:=Bx.mk fun W=>zM0 px py pz a b c (by omega) (by omega) (by omega) W
   rw [IntWalk.wrap64_in (px - a) (by omega),IntWalk.wrap64_in (py - b) (by omega),IntWalk.wrap64_in (pz - c) (by omega)] at hsub
   have k1:=Int.mul_nonneg (show 0≤pz - c by omega) (show 0≤(zv ⟨⟨a,b,c⟩,⟨d,e,f⟩⟩).y by rw [hfull];simp only [Pt.sub];omega)
   have k2:0≤(zv ⟨⟨a,b,c⟩,⟨d,e,f⟩⟩).x:=by rw [hfull];simp only [Pt.sub];omega
   have k3:1≤(zv ⟨⟨a,b,c⟩,⟨d,e,f⟩⟩).x:=by rw [hfull];simp only [Pt.sub];omega
   have k4:0≤px - a∧0≤py - b:=by omega
   generalize zAC ⟨⟨a,b,c⟩,⟨d,e,f⟩⟩=V at *;generalize zv ⟨⟨a,b,c⟩,⟨d,e,f⟩⟩=s at *;obtain ⟨sx,sy,sz⟩:=s;simp only [] at hsz hv hbd k1 k2 k3;generalize px - a=dx at *;generalize py - b=dy at *;generalize pz - c=dz at *
   have k5:(dz * sy+dy)≤(dz * sy+dy) * sx:=by
    have:=Int.mul_le_mul_of_nonneg_left k3 (show 0≤dz * sy+dy by omega)
    rwa [Int.mul_one] at this
   have m1:=IntWalk.i64_in (dz * sy) (by omega)
   have m3:=IntWalk.i64_in ((dz * sy+dy) * sx) (by omega)
   have w1:=IntWalk.wrap64_in (dz * sy) (by omega)
   have w3:=IntWalk.wrap64_in ((dz * sy+dy) * sx) (by omega)
   have w2:=IntWalk.wrap64_in (dz * sy+dy) (by omega)
   have w4:=IntWalk.wrap64_in ((dz * sy+dy) * sx+dx) (by omega)
   have m2:=IntWalk.i64_in (dz * sy+dy) (by omega)
   have m4:=IntWalk.i64_in ((dz * sy+dy) * sx+dx) (by omega)
   clear s1 s2 s3 s4 s5 s6 hin' hin hemp hfull hbd hvb k1 k2 k3 k4 k5;go_enter Tryz.func163,Tryz.ntmps163;go_wp2_with fail;generalize hW:World.alloc (World.alloc w _) _=W;have hSz:=sz2 hW;have hB:=bl2 hW;have kb:Bk W (w.heap.size) #[a,b,c,d,e,f] 25:=bk1 hW;have kp:Bk W (w.heap.size+1) #[px,py,pz] 23:=bk0 hW;clear hW;refine (zFM _ _ _ _ _ _ _ _ _ _).mono ?_;rintro e' W2 ⟨rfl,hb⟩;rw [Hin.out];replace hB:=hB.trans (hb.mono hB.size);replace kb:=kb.later hb;replace kp:=kp.later hb;replace hSz:=Nat.le_trans hSz hb.size;clear hb;go_wp2_with fail;obtain ⟨cb0,cb1,cb2,cb3,cb4,cb5⟩:=kb.r6;obtain ⟨cp0,cp1,cp2⟩:=kp.r3;have q0:=Bx.mk fun dk osk=>(hsz.out (grow (redrawn W2 dk) osk));have q1:=Bx.mk fun dk osk=>(hsub.out (grow (redrawn W2 dk) osk));refine zAK 6 2 (fun j=>[5,6].getD j 0) (fun j=>[12,16].getD j 0) (fun j=>[23,23].getD j 0) (fun _=>#[.int .i64 0,.int .i64 0,.int .i64 0]) (fun j=>[#[.int .i64 sx,.int .i64 sy,.int .i64 sz],#[.int .i64 dx,.int .i64 dy,.int .i64 dz]].getD j #[]) (by kernel_rfl) (by kernel_rfl) ⟨fun j hj=>?_,fun j hj=>?_⟩ 31 (by kernel_rfl) (by rfl) ?_
   · match j,hj with
     | 0,_=>exact ⟨_,rfl,rfl,rfl,zBE _ rfl⟩
     | 1,_=>exact ⟨_,rfl,rfl,rfl,zBE _ rfl⟩
     | j+2,hj=>omega
   · match j,hj with
     | 0,_=>exact ⟨_,rfl,rfl,rfl,fun ρ w g h1 h2 hb=>zMh _ 5 12 rfl _ _ _ _ _ _ ρ w g h1 h2 hb⟩
     | 1,_=>exact ⟨_,rfl,rfl,rfl,fun ρ w g h1 h2 hb=>zMh _ 6 16 rfl _ _ _ _ _ _ ρ w g h1 h2 hb⟩
     | j+2,hj=>omega
   simp only [List.take_succ_cons,List.take_zero]
   repeat (refine zAE (fun K hK=>?_);go_simp;first | (refine hK _ ?_;clear hK K) | (apply Exists.intro;refine ⟨fun _=>?_,hK _ ?_⟩;(first | ((with_reducible refine (q0.out _ _).mono ?_);exact fun _ _ h=>by simpa using h) | ((with_reducible refine (q1.out _ _).mono ?_);exact fun _ _ h=>by simpa using h));clear hK K))
   refine zOJ ⟨fun j hj=>match j,hj with | 0,_=>rfl | 1,_=>rfl | j+2,hj=>absurd hj (by omega),fun g W1 hb hg hne=>?_⟩
   obtain ⟨hs,ks⟩:=hg 0 (by omega)
   obtain ⟨hd,kd⟩:=hg 1 (by omega)
   have nsd:=hne 0 1 (by omega) (by omega) (by omega)
   clear hg hne;clear cb0 cb1 cb2 cb3 cb4 cb5;clear cp0 cp1 cp2;clear q0;clear q1;replace hB:=hB.trans (hb.mono hB.size);replace kb:=kb.later hb;replace kp:=kp.later hb;replace hSz:=Nat.le_trans hSz hb.size;clear hb;simp only [zKA,List.range_succ,List.range_zero,List.nil_append,List.cons_append,List.map_cons,List.map_nil,List.foldl_cons,List.foldl_nil,List.getD_cons_zero,List.getD_cons_succ];generalize g 0=gs at *;generalize g 1=gd at *;replace ks:Bk W1 gs #[sx,sy,sz] 23:=ks;replace kd:Bk W1 gd #[dx,dy,dz] 23:=kd;obtain ⟨cs0,cs1⟩:=ks.c2;obtain ⟨cd0,cd1,cd2⟩:=kd.c3;go_wp2_with fail;go_ret;exact ⟨zt (by rw [hv.out]),hB⟩
theorem zGR (px py pz:Int) (w:World) :
 Calls Tryz.prog 154 #[.agg #[px,py,pz]] w fun e w'=>e = .returned (.agg #[px,py,pz])∧Below w.heap.size w w':=by
 go_enter Tryz.func154,Tryz.ntmps154;go_wp2;generalize hW:World.alloc (World.alloc w _) _=W;have hSz:=sz2 hW;have hB:=bl2 hW;have kp:Bk W (w.heap.size) #[px,py,pz] 23:=bk1 hW;have kr:Bk W (w.heap.size+1) #[px,py,pz] 93:=bk0 hW;clear hW;exact bodyPost_ret (v:=.agg #[px,py,pz]) (results_cell_row rfl _ _ _ 93 #[px,py,pz] (0,0) _ rfl kr Tryz.underlying93 rfl (by kernel_rfl)) rfl ⟨rfl,hB⟩
theorem zEo (x y:Int) (w:World) :
 Calls Tryz.prog 129 #[x,y] w fun e w'=>e = .returned (.int .i64 (max x y))∧w=w':=by
 go_enter Tryz.func129,Tryz.ntmps129;go_wp2
 all_goals
  go_ret;exact ⟨zt (by omega),rfl⟩
theorem zGP (x y:Int) (w:World) :
 Calls Tryz.prog 130 #[x,y] w fun e w'=>e = .returned (.int .i64 (min x y))∧w=w':=by
 go_enter Tryz.func130,Tryz.ntmps130;go_wp2
 all_goals
  go_ret;exact ⟨zt (by omega),rfl⟩
theorem each_1 (p1 p2 p3:Addr) (v0 v1 v2:Int) (w:World)
 (hf : ∀ (k v:Int),(k=0∧v=v0)∨(k=1∧v=v1)∨(k=2∧v=v2) → ∀ W,Below w.heap.size w W→Calls Tryz.prog 156 #[k,.pointer (some p1),.pointer (some p2),.pointer (some p3)] W fun e w'=>e = .returned (.int .i64 v)∧Below W.heap.size W w') :
 Calls Tryz.prog 155 #[.func (.func 156) #[] #[.pointer (some p1),.pointer (some p2),.pointer (some p3)]] w fun e w'=>e = .returned (.agg #[v0,v1,v2])∧Below w.heap.size w w':=by
 have f0:=Bx.mk fun W=>hf 0 v0 (by omega) W
 have f1:=Bx.mk fun W=>hf 1 v1 (by omega) W
 have f2:=Bx.mk fun W=>hf 2 v2 (by omega) W
 clear hf;go_enter Tryz.func155,Tryz.ntmps155;go_wp2_with fail;generalize hW:World.alloc (World.alloc w _) _=W;have hSz:=sz2 hW;have hB:=bl2 hW;have kr:Bk W (w.heap.size) #[(0:Int),(0:Int),(0:Int)] 23:=bk1 hW;have kc:Bk W (w.heap.size+1) #[(0:Int),(0:Int),(0:Int)] 93:=bk0 hW;clear hW
 go_loopw [5] (fun i wr => ∃ k:Nat,k≤3∧i = .int .i64 k∧Bk wr (w.heap.size) #[(0:Int),(0:Int),(0:Int)] 23∧Bk wr (w.heap.size+1) #[.int .i64 (if 0<k then v0 else 0),.int .i64 (if 1<k then v1 else 0),.int .i64 (if 2<k then v2 else 0)] 93∧Below w.heap.size w wr∧w.heap.size+1<wr.heap.size) (fun i _=>3 - (intOf i).toNat)
 case atStart=>exact ⟨0,by omega,rfl,kr,kc,hB,by omega⟩
 case round =>
  clear kr kc hB hSz;obtain ⟨k,hk,rfl,kr,kc,hB,hSz⟩:=hrel;by_cases hlt:k<3
  · have hcall:Bx (Calls Tryz.prog 156 #[(k:Int),.pointer (some p1),.pointer (some p2),.pointer (some p3)] wr fun e w'=>e = .returned (.int .i64 (if k=0 then v0 else if k=1 then v1 else v2))∧Below wr.heap.size wr w'):=⟨by
     obtain rfl | rfl | rfl:k=0∨k=1∨k=2:=by omega
     · exact f0.out wr hB
     · exact f1.out wr hB
     · exact f2.out wr hB⟩
    go_wp2_with fail;refine hcall.out.mono ?_;rintro e w1 ⟨rfl,hb⟩;replace hB:=hB.trans (hb.mono hB.size);replace kr:=kr.later hb;replace kc:=kc.later hb;replace hSz:=Nat.lt_of_lt_of_le hSz hb.size;clear hb hcall f0 f1 f2
    have hcc : ∃ v,w1.cell? ⟨w.heap.size+1,k,none⟩=some v:=by
     obtain rfl | rfl | rfl:k=0∨k=1∨k=2:=by omega
     · exact ⟨_,kc.cell 0 rfl⟩
     · exact ⟨_,kc.cell 1 rfl⟩
     · exact ⟨_,kc.cell 2 rfl⟩
    obtain ⟨vc,hcc⟩:=hcc;have hff:=kc.frozen k;have kc':=kc.set k (.int .i64 (if k=0 then v0 else if k=1 then v1 else v2));have kr':=kr.other ⟨w.heap.size+1,k,none⟩ (.int .i64 (if k=0 then v0 else if k=1 then v1 else v2)) (by simp)
    have Kc:Bx (Bk (w1.setCell ⟨w.heap.size+1,k,none⟩ (.int .i64 (if k=0 then v0 else if k=1 then v1 else v2))) (w.heap.size+1) #[.int .i64 (if 0<k+1 then v0 else 0),.int .i64 (if 1<k+1 then v1 else 0),.int .i64 (if 2<k+1 then v2 else 0)] 93):=⟨by
     obtain rfl | rfl | rfl:k=0∨k=1∨k=2:=by omega
     all_goals simpa using kc'⟩
    have Kr:=Bx.mk kr';clear kc kr kc' kr';generalize (if k=0 then v0 else if k=1 then v1 else v2)=vv at *;go_wp2_with fail
    go_roundw
    case rel=>exact ⟨k+1,by omega,by go_num,Kr.out,Kc.out,hB.setCell (by simp) _,by rw [zMD];omega⟩
    case measure=>simp [intOf];omega
  · obtain rfl:k=3:=by omega
    obtain ⟨cc0,cc1,cc2⟩:=kc.c3;obtain ⟨cr0,cr1,cr2⟩:=kr.c3;obtain ⟨fr0,fr1,fr2⟩:=kr.f3;go_wp2_with fail;replace kr:=kr.put3 (.int .i64 v0) (.int .i64 v1) (.int .i64 v2);exact bodyPost_ret (v:=.agg #[v0,v1,v2]) (results_cell_row rfl _ _ _ 23 #[v0,v1,v2] (0,0) _ rfl kr Tryz.underlying23 rfl (by kernel_rfl)) rfl ⟨rfl,zBh hB (by omega) _ _ _⟩
theorem each_2 (p1 p2 p3:Addr) (v0 v1 v2:Int) (w:World)
 (hf : ∀ (k v:Int),(k=0∧v=v0)∨(k=1∧v=v1)∨(k=2∧v=v2) → ∀ W,Below w.heap.size w W→Calls Tryz.prog 157 #[k,.pointer (some p1),.pointer (some p2),.pointer (some p3)] W fun e w'=>e = .returned (.int .i64 v)∧Below W.heap.size W w') :
 Calls Tryz.prog 155 #[.func (.func 157) #[] #[.pointer (some p1),.pointer (some p2),.pointer (some p3)]] w fun e w'=>e = .returned (.agg #[v0,v1,v2])∧Below w.heap.size w w':=by
 have f0:=Bx.mk fun W=>hf 0 v0 (by omega) W
 have f1:=Bx.mk fun W=>hf 1 v1 (by omega) W
 have f2:=Bx.mk fun W=>hf 2 v2 (by omega) W
 clear hf;go_enter Tryz.func155,Tryz.ntmps155;go_wp2_with fail;generalize hW:World.alloc (World.alloc w _) _=W;have hSz:=sz2 hW;have hB:=bl2 hW;have kr:Bk W (w.heap.size) #[(0:Int),(0:Int),(0:Int)] 23:=bk1 hW;have kc:Bk W (w.heap.size+1) #[(0:Int),(0:Int),(0:Int)] 93:=bk0 hW;clear hW
 go_loopw [5] (fun i wr => ∃ k:Nat,k≤3∧i = .int .i64 k∧Bk wr (w.heap.size) #[(0:Int),(0:Int),(0:Int)] 23∧Bk wr (w.heap.size+1) #[.int .i64 (if 0<k then v0 else 0),.int .i64 (if 1<k then v1 else 0),.int .i64 (if 2<k then v2 else 0)] 93∧Below w.heap.size w wr∧w.heap.size+1<wr.heap.size) (fun i _=>3 - (intOf i).toNat)
 case atStart=>exact ⟨0,by omega,rfl,kr,kc,hB,by omega⟩
 case round =>
  clear kr kc hB hSz;obtain ⟨k,hk,rfl,kr,kc,hB,hSz⟩:=hrel;by_cases hlt:k<3
  · have hcall:Bx (Calls Tryz.prog 157 #[(k:Int),.pointer (some p1),.pointer (some p2),.pointer (some p3)] wr fun e w'=>e = .returned (.int .i64 (if k=0 then v0 else if k=1 then v1 else v2))∧Below wr.heap.size wr w'):=⟨by
     obtain rfl | rfl | rfl:k=0∨k=1∨k=2:=by omega
     · exact f0.out wr hB
     · exact f1.out wr hB
     · exact f2.out wr hB⟩
    go_wp2_with fail;refine hcall.out.mono ?_;rintro e w1 ⟨rfl,hb⟩;replace hB:=hB.trans (hb.mono hB.size);replace kr:=kr.later hb;replace kc:=kc.later hb;replace hSz:=Nat.lt_of_lt_of_le hSz hb.size;clear hb hcall f0 f1 f2
    have hcc : ∃ v,w1.cell? ⟨w.heap.size+1,k,none⟩=some v:=by
     obtain rfl | rfl | rfl:k=0∨k=1∨k=2:=by omega
     · exact ⟨_,kc.cell 0 rfl⟩
     · exact ⟨_,kc.cell 1 rfl⟩
     · exact ⟨_,kc.cell 2 rfl⟩
    obtain ⟨vc,hcc⟩:=hcc;have hff:=kc.frozen k;have kc':=kc.set k (.int .i64 (if k=0 then v0 else if k=1 then v1 else v2));have kr':=kr.other ⟨w.heap.size+1,k,none⟩ (.int .i64 (if k=0 then v0 else if k=1 then v1 else v2)) (by simp)
    have Kc:Bx (Bk (w1.setCell ⟨w.heap.size+1,k,none⟩ (.int .i64 (if k=0 then v0 else if k=1 then v1 else v2))) (w.heap.size+1) #[.int .i64 (if 0<k+1 then v0 else 0),.int .i64 (if 1<k+1 then v1 else 0),.int .i64 (if 2<k+1 then v2 else 0)] 93):=⟨by
     obtain rfl | rfl | rfl:k=0∨k=1∨k=2:=by omega
     all_goals simpa using kc'⟩
    have Kr:=Bx.mk kr';clear kc kr kc' kr';generalize (if k=0 then v0 else if k=1 then v1 else v2)=vv at *;go_wp2_with fail
    go_roundw
    case rel=>exact ⟨k+1,by omega,by go_num,Kr.out,Kc.out,hB.setCell (by simp) _,by rw [zMD];omega⟩
    case measure=>simp [intOf];omega
  · obtain rfl:k=3:=by omega
    obtain ⟨cc0,cc1,cc2⟩:=kc.c3;obtain ⟨cr0,cr1,cr2⟩:=kr.c3;obtain ⟨fr0,fr1,fr2⟩:=kr.f3;go_wp2_with fail;replace kr:=kr.put3 (.int .i64 v0) (.int .i64 v1) (.int .i64 v2);exact bodyPost_ret (v:=.agg #[v0,v1,v2]) (results_cell_row rfl _ _ _ 23 #[v0,v1,v2] (0,0) _ rfl kr Tryz.underlying23 rfl (by kernel_rfl)) rfl ⟨rfl,zBh hB (by omega) _ _ _⟩
theorem clo_1 (ga gb gc:Nat) (a0 a1 a2 b0 b1 b2:Int) (k v:Int) (hk:(k=0∧v=max a0 b0)∨(k=1∧v=max a1 b1)∨(k=2∧v=max a2 b2)) (w:World)
 (hf:w.cell? ⟨ga,0,none⟩=some (.func (.func 129) #[] #[])) (ha:Bk w gb #[a0,a1,a2] 93) (hb:Bk w gc #[b0,b1,b2] 93) :
 Calls Tryz.prog 156 #[k,.pointer (some ⟨ga,0,none⟩),.pointer (some ⟨gb,0,none⟩),.pointer (some ⟨gc,0,none⟩)] w fun e w'=>e = .returned (.int .i64 v)∧Below w.heap.size w w':=by
 obtain ⟨i,x,y,hi,hi3,hv,hx,hy⟩ : ∃ (i:Nat) (x y:Int),k=(i:Int)∧i<3∧v=max x y∧w.cell? ⟨gb,i,none⟩=some (.int .i64 x)∧w.cell? ⟨gc,i,none⟩=some (.int .i64 y):=by
  rcases hk with ⟨rfl,rfl⟩ | ⟨rfl,rfl⟩ | ⟨rfl,rfl⟩
  · exact ⟨0,_,_,rfl,by omega,rfl,ha.cell 0 rfl,hb.cell 0 rfl⟩
  · exact ⟨1,_,_,rfl,by omega,rfl,ha.cell 1 rfl,hb.cell 1 rfl⟩
  · exact ⟨2,_,_,rfl,by omega,rfl,ha.cell 2 rfl,hb.cell 2 rfl⟩
 subst hi;clear hk ha hb;have Hv:=Bx.mk hv;clear hv;have b1:(0:Int)≤(i:Int):=by omega
 have b2:(i:Int)<3:=by omega
 have cf : ∀ dk osk,(grow (redrawn w dk) osk).cell? ⟨ga,0,none⟩=some (.func (.func 129) #[] #[]):=cell_regrown hf;have cx : ∀ dk osk,(grow (redrawn w dk) osk).cell? ⟨gb,i,none⟩=some (.int .i64 x):=cell_regrown hx;have cy : ∀ dk osk,(grow (redrawn w dk) osk).cell? ⟨gc,i,none⟩=some (.int .i64 y):=cell_regrown hy;have q0:=Bx.mk fun dk osk=>Calls.regrown_of ((zEo x y (grow (redrawn w dk) osk)).mono fun _ _ ⟨h1,h2⟩=>⟨h1,by subst h2;exact Below.refl _ _⟩)
 clear hf hx hy;go_enter Tryz.func156,Tryz.ntmps156;go_wp2_with fail;refine wp_region_quiet_below (by kernel_rfl) (by kernel_rfl) ?_
 repeat (first | go_big_quiet_step ((with_reducible exact q0.out _ _)) | quiet_step (with_reducible exact q0.out _ _))
 refine wpQuiet_nil ?_;rintro _ ⟨⟨dq,osq⟩,rfl⟩;have hb:=below_regrown w dq osq;clear cf cx cy q0;generalize grow (redrawn w dq) osq=W1 at *;go_wp2_with fail;go_ret;exact ⟨zt Hv.out.symm,hb⟩
theorem clo_2 (ga gb gc:Nat) (a0 a1 a2 b0 b1 b2:Int) (k v:Int) (hk:(k=0∧v=min a0 b0)∨(k=1∧v=min a1 b1)∨(k=2∧v=min a2 b2)) (w:World)
 (hf:w.cell? ⟨ga,0,none⟩=some (.func (.func 130) #[] #[])) (ha:Bk w gb #[a0,a1,a2] 93) (hb:Bk w gc #[b0,b1,b2] 93) :
 Calls Tryz.prog 157 #[k,.pointer (some ⟨ga,0,none⟩),.pointer (some ⟨gb,0,none⟩),.pointer (some ⟨gc,0,none⟩)] w fun e w'=>e = .returned (.int .i64 v)∧Below w.heap.size w w':=by
 obtain ⟨i,x,y,hi,hi3,hv,hx,hy⟩ : ∃ (i:Nat) (x y:Int),k=(i:Int)∧i<3∧v=min x y∧w.cell? ⟨gb,i,none⟩=some (.int .i64 x)∧w.cell? ⟨gc,i,none⟩=some (.int .i64 y):=by
  rcases hk with ⟨rfl,rfl⟩ | ⟨rfl,rfl⟩ | ⟨rfl,rfl⟩
  · exact ⟨0,_,_,rfl,by omega,rfl,ha.cell 0 rfl,hb.cell 0 rfl⟩
  · exact ⟨1,_,_,rfl,by omega,rfl,ha.cell 1 rfl,hb.cell 1 rfl⟩
  · exact ⟨2,_,_,rfl,by omega,rfl,ha.cell 2 rfl,hb.cell 2 rfl⟩
 subst hi;clear hk ha hb;have Hv:=Bx.mk hv;clear hv;have b1:(0:Int)≤(i:Int):=by omega
 have b2:(i:Int)<3:=by omega
 have cf : ∀ dk osk,(grow (redrawn w dk) osk).cell? ⟨ga,0,none⟩=some (.func (.func 130) #[] #[]):=cell_regrown hf;have cx : ∀ dk osk,(grow (redrawn w dk) osk).cell? ⟨gb,i,none⟩=some (.int .i64 x):=cell_regrown hx;have cy : ∀ dk osk,(grow (redrawn w dk) osk).cell? ⟨gc,i,none⟩=some (.int .i64 y):=cell_regrown hy;have q0:=Bx.mk fun dk osk=>Calls.regrown_of ((zGP x y (grow (redrawn w dk) osk)).mono fun _ _ ⟨h1,h2⟩=>⟨h1,by subst h2;exact Below.refl _ _⟩)
 clear hf hx hy;go_enter Tryz.func157,Tryz.ntmps157;go_wp2_with fail;refine wp_region_quiet_below (by kernel_rfl) (by kernel_rfl) ?_
 repeat (first | go_big_quiet_step ((with_reducible exact q0.out _ _)) | quiet_step (with_reducible exact q0.out _ _))
 refine wpQuiet_nil ?_;rintro _ ⟨⟨dq,osq⟩,rfl⟩;have hb:=below_regrown w dq osq;clear cf cx cy q0;generalize grow (redrawn w dq) osq=W1 at *;go_wp2_with fail;go_ret;exact ⟨zt Hv.out.symm,hb⟩
end
section
open Go.RowKit
theorem zD4 (a0 a1 a2 a3 a4 a5 b0 b1 b2 b3 b4 b5:Int) (w:World):(binOp .eql 25 (.agg #[a0,a1,a2,a3,a4,a5]) (.agg #[b0,b1,b2,b3,b4,b5])).run Tryz.prog w = .ok (.bool (decide ((⟨⟨a0,a1,a2⟩,⟨a3,a4,a5⟩⟩:Box)=⟨⟨b0,b1,b2⟩,⟨b3,b4,b5⟩⟩))) w:=by
 have h1 : Tryz.prog.stoodInHeld 25=false:=by kernel_rfl
 have h2 : Tryz.prog.stoodInHeld 23=false:=by kernel_rfl
 rw [run_eql_struct,run_equalIn_agg _ _ _ _ _ (by kernel_rfl) h1]
 go_simp;by_cases h3:a0=b0
 rotate_left
 · simp [h3]
 by_cases h4:a1=b1
 rotate_left
 · simp [h4]
 by_cases h5:a2=b2
 rotate_left
 · simp [h5]
 by_cases h6:a3=b3
 rotate_left
 · simp [h6]
 by_cases h7:a4=b4
 rotate_left
 · simp [h7]
 by_cases h8:a5=b5
 rotate_left
 · simp [h8]
 simp [h3,h4,h5,h6,h7,h8]
theorem zIC (a0 a1 a2 a3 a4 a5 b0 b1 b2 b3 b4 b5:Int) (w:World):(binOp .neq 25 (.agg #[a0,a1,a2,a3,a4,a5]) (.agg #[b0,b1,b2,b3,b4,b5])).run Tryz.prog w = .ok (.bool (!decide ((⟨⟨a0,a1,a2⟩,⟨a3,a4,a5⟩⟩:Box)=⟨⟨b0,b1,b2⟩,⟨b3,b4,b5⟩⟩))) w:=by
 have h1 : Tryz.prog.stoodInHeld 25=false:=by kernel_rfl
 have h2 : Tryz.prog.stoodInHeld 23=false:=by kernel_rfl
 rw [run_neq_struct,run_equalIn_agg _ _ _ _ _ (by kernel_rfl) h1]
 go_simp;by_cases h3:a0=b0
 rotate_left
 · simp [h3]
 by_cases h4:a1=b1
 rotate_left
 · simp [h4]
 by_cases h5:a2=b2
 rotate_left
 · simp [h5]
 by_cases h6:a3=b3
 rotate_left
 · simp [h6]
 by_cases h7:a4=b4
 rotate_left
 · simp [h7]
 by_cases h8:a5=b5
 rotate_left
 · simp [h8]
 simp [h3,h4,h5,h6,h7,h8]
end
end Go.Proofs.YtgnfgblkpnfcnaaGreatDoor
