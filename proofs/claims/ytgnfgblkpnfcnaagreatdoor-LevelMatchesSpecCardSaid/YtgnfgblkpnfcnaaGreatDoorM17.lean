/- Ref2, Rg4: joined by program, for one claim. -/
import Derived.Test.YtgnfgblkpnfcnaaGreatDoorM16
set_option maxHeartbeats 400000
set_option linter.unusedVariables false
set_option linter.unusedSimpArgs false
namespace Go.Proofs.YtgnfgblkpnfcnaaGreatDoor
section
open Go.RowKit Go.Sort Go.Maps
open Oct
theorem zK1 (a b c d e f:Int) (hS:Small ⟨⟨a,b,c⟩,⟨d,e,f⟩⟩ 1048575) (w:World) :
 Calls Tryz.prog 113 #[.agg #[a,b,c,d,e,f]] w fun e' w'=>e' = .returned (.agg #[.int .i64 (zv ⟨⟨a,b,c⟩,⟨d,e,f⟩⟩).x,.int .i64 (zv ⟨⟨a,b,c⟩,⟨d,e,f⟩⟩).y,.int .i64 (zv ⟨⟨a,b,c⟩,⟨d,e,f⟩⟩).z])∧Below w.heap.size w w':=by
 cases he:zN ⟨⟨a,b,c⟩,⟨d,e,f⟩⟩ with
 | true =>
   have hz:zv ⟨⟨a,b,c⟩,⟨d,e,f⟩⟩=Pt.zero:=by unfold zv;rw [if_pos he]
   rw [hz];exact zK0 a b c d e f he w
 | false =>
   rw [zw he];exact zKz a b c d e f hS he w
theorem zK5 (a b c d e f:Int) (hS:Small ⟨⟨a,b,c⟩,⟨d,e,f⟩⟩ 1048575) (w:World) :
 Calls Tryz.prog 77 #[.agg #[a,b,c,d,e,f]] w fun e' w'=>e' = .returned (.int .i64 (zAC ⟨⟨a,b,c⟩,⟨d,e,f⟩⟩))∧Below w.heap.size w w':=by
 have hsz:=Bx.mk fun W=>zK1 a b c d e f hS W;have hv:=Bx.mk (show zAC ⟨⟨a,b,c⟩,⟨d,e,f⟩⟩=(zv ⟨⟨a,b,c⟩,⟨d,e,f⟩⟩).x * (zv ⟨⟨a,b,c⟩,⟨d,e,f⟩⟩).y * (zv ⟨⟨a,b,c⟩,⟨d,e,f⟩⟩).z from rfl);obtain ⟨⟨p1,p2⟩,p3,p4⟩:=zJs ⟨⟨a,b,c⟩,⟨d,e,f⟩⟩ (by decide) hS
 rw [show zAC ⟨⟨a,b,c⟩,⟨d,e,f⟩⟩=(zv ⟨⟨a,b,c⟩,⟨d,e,f⟩⟩).x * (zv ⟨⟨a,b,c⟩,⟨d,e,f⟩⟩).y * (zv ⟨⟨a,b,c⟩,⟨d,e,f⟩⟩).z from rfl] at p3 p4;clear hS;generalize (zv ⟨⟨a,b,c⟩,⟨d,e,f⟩⟩)=s at *;obtain ⟨sx,sy,sz⟩:=s;simp only [] at *;have m1:=IntWalk.i64_in (sx * sy) (by omega)
 have m2:=IntWalk.i64_in (sx * sy * sz) (by omega)
 have m3:=IntWalk.wrap64_in (sx * sy) (by omega)
 have m4:=IntWalk.wrap64_in (sx * sy * sz) (by omega)
 clear p1 p2 p3 p4;go_enter Tryz.func77,Tryz.ntmps77;go_wp2_with fail;generalize hW:World.alloc w _=W;have hSz:=sz1 hW;have hB:=bl1 hW;have kb:Bk W (w.heap.size) #[a,b,c,d,e,f] 25:=bk0 hW;clear hW;refine (hsz.out _).mono ?_;rintro e' w1 ⟨rfl,hb⟩;replace hB:=hB.trans (hb.mono hB.size);replace kb:=kb.later hb;replace hSz:=Nat.le_trans hSz hb.size;clear hb;go_wp2_with fail;go_ret;exact ⟨zt (by rw [hv.out]),hB.alloc hB.size _⟩
theorem zKa (a b c d e f i:Int) (hS:Small ⟨⟨a,b,c⟩,⟨d,e,f⟩⟩ 1048575) (hi:0≤i∧i<zAC ⟨⟨a,b,c⟩,⟨d,e,f⟩⟩) (w:World) :
 Calls Tryz.prog 99 #[.agg #[a,b,c,d,e,f],i] w fun e' w'=>e' = .returned (.tuple #[.agg #[.int .i64 (atB ⟨⟨a,b,c⟩,⟨d,e,f⟩⟩ i).x,.int .i64 (atB ⟨⟨a,b,c⟩,⟨d,e,f⟩⟩ i).y,.int .i64 (atB ⟨⟨a,b,c⟩,⟨d,e,f⟩⟩ i).z],.bool true])∧Below w.heap.size w w':=by
 have hv:=Bx.mk fun W=>zK5 a b c d e f hS W;have hsz:=Bx.mk fun W=>zK1 a b c d e f hS W;have hvb:=(zJs ⟨⟨a,b,c⟩,⟨d,e,f⟩⟩ (by decide) hS).2.2
 have hin:=zX.1 (zBQ hi.1 hi.2).1;have hat:=Bx.mk (show (atB ⟨⟨a,b,c⟩,⟨d,e,f⟩⟩ i)=⟨a+i % (zv ⟨⟨a,b,c⟩,⟨d,e,f⟩⟩).x,b+i / (zv ⟨⟨a,b,c⟩,⟨d,e,f⟩⟩).x % (zv ⟨⟨a,b,c⟩,⟨d,e,f⟩⟩).y,c+i / (zv ⟨⟨a,b,c⟩,⟨d,e,f⟩⟩).x / (zv ⟨⟨a,b,c⟩,⟨d,e,f⟩⟩).y⟩ by unfold atB;rw [if_pos hi])
 rw [hat.out] at hin;obtain ⟨s1,s2,s3,s4,s5,s6⟩:=hS;have hvd:zAC ⟨⟨a,b,c⟩,⟨d,e,f⟩⟩=(zv ⟨⟨a,b,c⟩,⟨d,e,f⟩⟩).x * (zv ⟨⟨a,b,c⟩,⟨d,e,f⟩⟩).y * (zv ⟨⟨a,b,c⟩,⟨d,e,f⟩⟩).z:=rfl;obtain ⟨h0,h1⟩:=hi;have hbd:=zL9 ⟨⟨a,b,c⟩,⟨d,e,f⟩⟩ (m:=1048575) (by decide) ⟨s1,s2,s3,s4,s5,s6⟩
 simp only [] at s1 s2 s3 s4 s5 s6 hin;generalize zAC ⟨⟨a,b,c⟩,⟨d,e,f⟩⟩=v at *;generalize (zv ⟨⟨a,b,c⟩,⟨d,e,f⟩⟩)=s at *;obtain ⟨sx,sy,sz⟩:=s;simp only [] at hsz hat hin hvd hbd
 have x0:0<sx:=by
  rcases Int.lt_or_le 0 sx with h | h
  · exact h
  · obtain rfl:sx=0:=by omega
    simp at hvd;omega
 have y0:0<sy:=by
  rcases Int.lt_or_le 0 sy with h | h
  · exact h
  · obtain rfl:sy=0:=by omega
    simp at hvd;omega
 have q0:0≤i / sx:=Int.ediv_nonneg h0 (by omega)
 have q1:i / sx≤i:=Int.ediv_le_self _ h0;have q2:0≤i / sx / sy:=Int.ediv_nonneg q0 (by omega)
 have q3:i / sx / sy≤i / sx:=Int.ediv_le_self _ q0;have m1:=Int.emod_nonneg i (show sx ≠ 0 by omega)
 have m2:=Int.emod_lt_of_pos i x0;have m3:=Int.emod_nonneg (i / sx) (show sy ≠ 0 by omega)
 have m4:=Int.emod_lt_of_pos (i / sx) y0;have t1:i.tdiv sx=i / sx:=Int.tdiv_eq_ediv_of_nonneg h0;have t2:i.tmod sx=i % sx:=Int.tmod_eq_emod_of_nonneg h0;have t3:(i / sx).tdiv sy=i / sx / sy:=Int.tdiv_eq_ediv_of_nonneg q0;have t4:(i / sx).tmod sy=i / sx % sy:=Int.tmod_eq_emod_of_nonneg q0;generalize hq:i / sx=qi at *;generalize hr:i % sx=ri at *;generalize hj:qi % sy=rj at *;generalize hk:qi / sy=qk at *;have nx:(sx == 0)=false:=by simp;omega
 have ny:(sy == 0)=false:=by simp;omega
 have nx':sx ≠ 0:=by omega
 have ny':sy ≠ 0:=by omega
 have u1:=IntWalk.i64_in qi (by omega)
 have u2:=IntWalk.i64_in qk (by omega)
 have u3:=IntWalk.wrap64_in qi (by omega)
 have u4:=IntWalk.wrap64_in qk (by omega)
 have hadd:=Bx.mk fun W=>zKZ a b c ri rj qk (by omega) (by omega) (by omega) (by omega) (by omega) (by omega) W
 clear hvb hvd hbd q0 q1 q2 q3 m1 m2 m3 m4 hin s1 s2 s3 s4 s5 s6 x0 y0 hq hr hj hk;go_enter Tryz.func99,Tryz.ntmps99;go_wp2_with fail;generalize hW:World.alloc (World.alloc w _) _=W;have hSz:=sz2 hW;have hB:=bl2 hW;have kb:Bk W (w.heap.size) #[a,b,c,d,e,f] 25:=bk1 hW;have kr:Bk W (w.heap.size+1) #[(0:Int),(0:Int),(0:Int)] 23:=bk0 hW;clear hW;refine (hv.out _).mono ?_;rintro e' w1 ⟨rfl,hb⟩;replace hB:=hB.trans (hb.mono hB.size);replace kb:=kb.later hb;replace kr:=kr.later hb;replace hSz:=Nat.le_trans hSz hb.size;clear hb;obtain ⟨cb0,cb1,cb2,cb3,cb4,cb5⟩:=kb.c6;go_wp2_with fail;refine (hsz.out _).mono ?_;rintro e' w2 ⟨rfl,hb⟩;clear cb0 cb1 cb2 cb3 cb4 cb5;replace hB:=hB.trans (hb.mono hB.size);replace kb:=kb.later hb;replace kr:=kr.later hb;replace hSz:=Nat.le_trans hSz hb.size;clear hb;go_wp2_with fail;generalize hW1:World.alloc w2 _=W2;have ks:Bk W2 w2.heap.size #[sx,sy,sz] 23:=bk0 hW1 rfl;have hb:=bl1 hW1;clear hW1;replace hB:=hB.trans (hb.mono hB.size);replace kb:=kb.later hb;replace kr:=kr.later hb;replace hSz:=Nat.le_trans hSz hb.size;clear hb;obtain ⟨cb0,cb1,cb2,cb3,cb4,cb5⟩:=kb.r6;obtain ⟨cs0,cs1,cs2⟩:=ks.r3;have q0:=Bx.mk fun dk osk=>Calls.regrown_of (hadd.out (grow (redrawn W2 dk) osk));refine zAL 22 (by kernel_rfl) (by kernel_rfl) ?_
 simp only [List.take_succ_cons,List.take_zero,List.drop_succ_cons,List.drop_zero]
 repeat (first | go_big_quiet_step ((first | with_reducible exact q0.out _ _)) | quiet_step (first | with_reducible exact q0.out _ _))
 refine wpQuiet_nil ?_;rintro _ ⟨⟨dq,osq⟩,rfl⟩;have hb:=below_regrown W2 dq osq;replace hB:=hB.trans (hb.mono hB.size);clear cb0 cb1 cb2 cb3 cb4 cb5;clear cs0 cs1 cs2;clear q0;replace kb:=kb.later hb;replace kr:=kr.later hb;replace ks:=ks.later hb;replace hSz:=Nat.le_trans hSz hb.size;clear hb;generalize grow (redrawn W2 dq) osq=W3 at *;obtain ⟨fr0,fr1,fr2⟩:=kr.f3;obtain ⟨cr0,cr1,cr2⟩:=kr.c3;go_wp2_with fail;replace kr:=kr.put3 (.int .i64 (a+ri)) (.int .i64 (b+rj)) (.int .i64 (c+qk));obtain ⟨z0,z1,z2⟩:=kr.c3;exact bodyPost_ret (v:=.tuple #[.agg #[.int .i64 (a+ri),.int .i64 (b+rj),.int .i64 (c+qk)],.bool true]) (by simp [results,Tryz.results99,go_sem,z0,z1,z2]) rfl ⟨by rw [hat.out],zBh hB (by omega) _ _ _⟩
theorem zKl (a b c d e f px py pz:Int) (hS:Small ⟨⟨a,b,c⟩,⟨d,e,f⟩⟩ 1048575) (w:World) :
 Calls Tryz.prog 60 #[.agg #[a,b,c,d,e,f],.agg #[px,py,pz]] w fun e' w'=>e' = .returned (.int .i64 (zY ⟨⟨a,b,c⟩,⟨d,e,f⟩⟩ ⟨px,py,pz⟩))∧Below w.heap.size w w':=by
 cases hin:inB ⟨px,py,pz⟩ ⟨⟨a,b,c⟩,⟨d,e,f⟩⟩ with
 | false =>
   have hv:=Bx.mk (show zY ⟨⟨a,b,c⟩,⟨d,e,f⟩⟩ ⟨px,py,pz⟩ = -1 by unfold zY;rw [if_neg (by simp [hin])])
   have Hin:=Bx.mk (fun W=>zKk px py pz a b c d e f W);rw [hin] at Hin;clear hin hS;go_enter Tryz.func60,Tryz.ntmps60;go_wp2_with fail;generalize hW:World.alloc (World.alloc w _) _=W;have hSz:=sz2 hW;have hB:=bl2 hW;have kb:Bk W (w.heap.size) #[a,b,c,d,e,f] 25:=bk1 hW;have kp:Bk W (w.heap.size+1) #[px,py,pz] 23:=bk0 hW;clear hW;refine (Hin.out _).mono ?_;rintro e' w1 ⟨rfl,hb⟩;go_wp2_with fail;go_ret;exact ⟨zt hv.out.symm,hB.trans (hb.mono hB.size)⟩
 | true =>
   have hemp:=zFQ hin;have hin':=zX.1 hin;have hfull:=zw hemp;have hv:=Bx.mk (show zY ⟨⟨a,b,c⟩,⟨d,e,f⟩⟩ ⟨px,py,pz⟩=((pz - c) * (zv ⟨⟨a,b,c⟩,⟨d,e,f⟩⟩).y+(py - b)) * (zv ⟨⟨a,b,c⟩,⟨d,e,f⟩⟩).x+(px - a) by unfold zY;rw [if_pos hin])
   have hbd:=zZ hin;rw [hv.out] at hbd;have hvb:=(zJs ⟨⟨a,b,c⟩,⟨d,e,f⟩⟩ (by decide) hS).2.2
   have hsz:=Bx.mk fun W=>zK1 a b c d e f hS W;have Hin:=Bx.mk (fun W=>zKk px py pz a b c d e f W);rw [hin] at Hin;obtain ⟨s1,s2,s3,s4,s5,s6⟩:=hS;simp only [] at s1 s2 s3 s4 s5 s6 hin';have hsub:=Bx.mk fun W=>zK3 px py pz a b c (by omega) (by omega) (by omega) (by omega) (by omega) (by omega) W
   have k1:=Int.mul_nonneg (show 0≤pz - c by omega) (show 0≤(zv ⟨⟨a,b,c⟩,⟨d,e,f⟩⟩).y by rw [hfull];simp only [Pt.sub];omega)
   have k2:0≤(zv ⟨⟨a,b,c⟩,⟨d,e,f⟩⟩).x:=by rw [hfull];simp only [Pt.sub];omega
   have k3:1≤(zv ⟨⟨a,b,c⟩,⟨d,e,f⟩⟩).x:=by rw [hfull];simp only [Pt.sub];omega
   have k4:0≤px - a∧0≤py - b:=by omega
   generalize zAC ⟨⟨a,b,c⟩,⟨d,e,f⟩⟩=V at *;generalize zv ⟨⟨a,b,c⟩,⟨d,e,f⟩⟩=s at *;obtain ⟨sx,sy,sz⟩:=s;simp only [] at hsz hv hbd k1 k2 k3;generalize px - a=dx at *;generalize py - b=dy at *;generalize pz - c=dz at *
   have k5:(dz * sy+dy)≤(dz * sy+dy) * sx:=by
    have:=Int.mul_le_mul_of_nonneg_left k3 (show 0≤dz * sy+dy by omega)
    rwa [Int.mul_one] at this
   have k6:sy * dz=dz * sy:=Int.mul_comm _ _;have k7:sx * (dy+sy * dz)=(dz * sy+dy) * sx:=by rw [k6,Int.mul_comm,Int.add_comm dy]
   have hv2:dx+sx * (dy+sy * dz)=(dz * sy+dy) * sx+dx:=by rw [k7];omega
   have m1:=IntWalk.i64_in (sy * dz) (by rw [k6];omega)
   have m2:=IntWalk.i64_in (dy+sy * dz) (by rw [k6];omega)
   have m3:=IntWalk.i64_in (sx * (dy+sy * dz)) (by rw [k7];omega)
   have m4:=IntWalk.i64_in (dx+sx * (dy+sy * dz)) (by rw [k7];omega)
   have w1:=IntWalk.wrap64_in (sy * dz) (by rw [k6];omega)
   have w2:=IntWalk.wrap64_in (dy+sy * dz) (by rw [k6];omega)
   have w3:=IntWalk.wrap64_in (sx * (dy+sy * dz)) (by rw [k7];omega)
   have w4:=IntWalk.wrap64_in (dx+sx * (dy+sy * dz)) (by rw [k7];omega)
   rw [←hv2] at hv;clear k6 k7 hv2;clear s1 s2 s3 s4 s5 s6 hin' hin hemp hfull hbd hvb k1 k2 k3 k4 k5;go_enter Tryz.func60,Tryz.ntmps60;go_wp2_with fail;generalize hW:World.alloc (World.alloc w _) _=W;have hSz:=sz2 hW;have hB:=bl2 hW;have kb:Bk W (w.heap.size) #[a,b,c,d,e,f] 25:=bk1 hW;have kp:Bk W (w.heap.size+1) #[px,py,pz] 23:=bk0 hW;clear hW;refine (Hin.out _).mono ?_;rintro e' w5 ⟨rfl,hb⟩;replace hB:=hB.trans (hb.mono hB.size);replace kb:=kb.later hb;replace kp:=kp.later hb;replace hSz:=Nat.le_trans hSz hb.size;clear hb;obtain ⟨cb0,cb1,cb2,cb3,cb4,cb5⟩:=kb.c6;go_wp2_with fail;refine (hsz.out _).mono ?_;rintro e' w6 ⟨rfl,hb⟩;clear cb0 cb1 cb2 cb3 cb4 cb5;replace hB:=hB.trans (hb.mono hB.size);replace kb:=kb.later hb;replace kp:=kp.later hb;replace hSz:=Nat.le_trans hSz hb.size;clear hb;have hgs:=hSz;have ab : ∀ o,Bk (w6.alloc o) w.heap.size #[a,b,c,d,e,f] 25:=fun o=>kb.alloc o;have ap : ∀ o,Bk (w6.alloc o) (w.heap.size+1) #[px,py,pz] 23:=fun o=>kp.alloc o;have ab0 : ∀ o,(w6.alloc o).cell? ⟨w.heap.size,0,none⟩=some (.int .i64 a):=fun o=>(ab o).cell 0 rfl;have ab1 : ∀ o,(w6.alloc o).cell? ⟨w.heap.size,1,none⟩=some (.int .i64 b):=fun o=>(ab o).cell 1 rfl;have ab2 : ∀ o,(w6.alloc o).cell? ⟨w.heap.size,2,none⟩=some (.int .i64 c):=fun o=>(ab o).cell 2 rfl;have ap0 : ∀ o,(w6.alloc o).cell? ⟨w.heap.size+1,0,none⟩=some (.int .i64 px):=fun o=>(ap o).cell 0 rfl;have ap1 : ∀ o,(w6.alloc o).cell? ⟨w.heap.size+1,1,none⟩=some (.int .i64 py):=fun o=>(ap o).cell 1 rfl;have ap2 : ∀ o,(w6.alloc o).cell? ⟨w.heap.size+1,2,none⟩=some (.int .i64 pz):=fun o=>(ap o).cell 2 rfl;clear ab ap;go_wp2_with fail;generalize hW:World.alloc w6 _=W7;have ks:Bk W7 w6.heap.size #[sx,sy,sz] 23:=bk0 hW rfl;have hb:Below w6.heap.size w6 W7:=by rw [←hW];exact zB _ _
   clear hW ab0 ab1 ab2 ap0 ap1 ap2;replace hB:=hB.trans (hb.mono hB.size);clear hb kb kp hSz hgs;refine (hsub.out _).mono ?_;rintro e' w8 ⟨rfl,hb⟩;replace hB:=hB.trans (hb.mono hB.size);replace ks:=ks.later hb;clear hb;have as0 : ∀ o,(w8.alloc o).cell? ⟨w6.heap.size,0,none⟩=some (.int .i64 sx):=fun o=>(ks.alloc o).cell 0 rfl;have as1 : ∀ o,(w8.alloc o).cell? ⟨w6.heap.size,1,none⟩=some (.int .i64 sy):=fun o=>(ks.alloc o).cell 1 rfl;have as2 : ∀ o,(w8.alloc o).cell? ⟨w6.heap.size,2,none⟩=some (.int .i64 sz):=fun o=>(ks.alloc o).cell 2 rfl;clear ks;go_wp2_with fail;go_ret;exact ⟨zt hv.out.symm,hB.alloc hB.size _⟩
theorem zKn (px py pz:Int) (w:World) :
 Calls Tryz.prog 139 #[.agg #[px,py,pz]] w fun e w'=>e = .returned (.agg #[px,py,pz])∧Below w.heap.size w w':=by
 go_enter Tryz.func139,Tryz.ntmps139;go_wp2_with fail;generalize hW:World.alloc (World.alloc w _) _=W;have hB:=bl2 hW;have kp:Bk W (w.heap.size) #[px,py,pz] 23:=bk1 hW;have kr:Bk W (w.heap.size+1) #[px,py,pz] 93:=bk0 hW;clear hW;exact bodyPost_ret (v:=.agg #[px,py,pz]) (results_cell_row rfl _ _ _ 93 #[px,py,pz] (0,0) _ rfl kr Tryz.underlying93 rfl (by kernel_rfl)) rfl ⟨rfl,hB⟩
theorem zKt (px py pz:Int) (w:World) :
 Calls Tryz.prog 140 #[.agg #[px,py,pz]] w fun e w'=>e = .returned (.agg #[px,py,pz])∧Below w.heap.size w w':=by
 go_enter Tryz.func140,Tryz.ntmps140;go_wp2_with fail;generalize hW:World.alloc (World.alloc w _) _=W;have hB:=bl2 hW;have kp:Bk W (w.heap.size) #[px,py,pz] 93:=bk1 hW;have kr:Bk W (w.heap.size+1) #[px,py,pz] 23:=bk0 hW;clear hW;exact bodyPost_ret (v:=.agg #[px,py,pz]) (results_cell_row rfl _ _ _ 23 #[px,py,pz] (0,0) _ rfl kr Tryz.underlying23 rfl (by kernel_rfl)) rfl ⟨rfl,hB⟩
theorem zKq (n:Int) (w:World):Calls Tryz.prog 122 #[n] w fun e w'=>e = .returned (.bool (okC n))∧w=w':=by
 by_cases h0 : -1048575≤n
 · by_cases h1:n≤1048575
   · have t0:decide (-1048575≤n)=true:=by simpa using h0
     have t1:decide (n≤1048575)=true:=by simpa using h1
     have hr:okC n=true:=by unfold okC;exact decide_eq_true ⟨h0,h1⟩
     rw [hr];clear hr;go_enter Tryz.func122,Tryz.ntmps122;go_wp2_with fail;go_ret;exact ⟨rfl,rfl⟩
   · have t0:decide (-1048575≤n)=true:=by simpa using h0
     have t1:decide (n≤1048575)=false:=by simpa using h1
     have hr:okC n=false:=by unfold okC;exact decide_eq_false fun h=>h1 h.2
     rw [hr];clear hr;go_enter Tryz.func122,Tryz.ntmps122;go_wp2_with fail;go_ret;exact ⟨rfl,rfl⟩
 · have t0:decide (-1048575≤n)=false:=by simpa using h0
   have hr:okC n=false:=by unfold okC;exact decide_eq_false fun h=>h0 h.1
   rw [hr];clear hr;go_enter Tryz.func122,Tryz.ntmps122;go_wp2_with fail;go_ret;exact ⟨rfl,rfl⟩
theorem zKo (n:Int) (w:World):Calls Tryz.prog 76 #[n] w fun e w'=>e = .returned (.bool (Pal.cell n))∧w=w':=by
 rw [Pal.cell_eq];by_cases h0:0≤n
 · by_cases h1:n<256
   · have t0:decide (0≤n)=true:=by simpa using h0
     have t1:decide (n<256)=true:=by simpa using h1
     have hr:decide (0≤n∧n≤255)=true:=decide_eq_true ⟨h0,by omega⟩
     rw [hr];clear hr;go_enter Tryz.func76,Tryz.ntmps76;go_wp2_with fail;go_ret;exact ⟨rfl,rfl⟩
   · have t0:decide (0≤n)=true:=by simpa using h0
     have t1:decide (n<256)=false:=by simpa using h1
     have hr:decide (0≤n∧n≤255)=false:=decide_eq_false fun h=>h1 (by omega)
     rw [hr];clear hr;go_enter Tryz.func76,Tryz.ntmps76;go_wp2_with fail;go_ret;exact ⟨rfl,rfl⟩
 · have t0:decide (0≤n)=false:=by simpa using h0
   have hr:decide (0≤n∧n≤255)=false:=decide_eq_false fun h=>h0 h.1;rw [hr];clear hr;go_enter Tryz.func76,Tryz.ntmps76;go_wp2_with fail;go_ret;exact ⟨rfl,rfl⟩
theorem zKy (px py pz:Int) (w:World):Calls Tryz.prog 75 #[.agg #[px,py,pz]] w fun e w'=>e = .returned (.bool (okP ⟨px,py,pz⟩))∧Below w.heap.size w w':=by
 have h0:=Bx.mk fun W=>zKq px W;have h1:=Bx.mk fun W=>zKq py W;have h2:=Bx.mk fun W=>zKq pz W;have hr:=Bx.mk (show okP ⟨px,py,pz⟩=(okC px && okC py && okC pz) from rfl);generalize okC px=x at *;generalize okC py=y at *;generalize okC pz=z at *;cases x with
 | false =>
   go_enter Tryz.func75,Tryz.ntmps75;go_wp2_with fail;refine (h0.out _).mono ?_;rintro _ _ ⟨rfl,rfl⟩;go_wp2_with fail;go_ret;exact ⟨by rw [hr.out];rfl,(Below.refl _ _).alloc (Nat.le_refl _) _⟩
 | true =>
   cases y with
   | false =>
     go_enter Tryz.func75,Tryz.ntmps75;go_wp2_with fail;refine (h0.out _).mono ?_;rintro _ _ ⟨rfl,rfl⟩;go_wp2_with fail;refine (h1.out _).mono ?_;rintro _ _ ⟨rfl,rfl⟩;go_wp2_with fail;go_ret;exact ⟨by rw [hr.out];rfl,(Below.refl _ _).alloc (Nat.le_refl _) _⟩
   | true =>
     go_enter Tryz.func75,Tryz.ntmps75;go_wp2_with fail;refine (h0.out _).mono ?_;rintro _ _ ⟨rfl,rfl⟩;go_wp2_with fail;refine (h1.out _).mono ?_;rintro _ _ ⟨rfl,rfl⟩;go_wp2_with fail;refine (h2.out _).mono ?_;rintro _ _ ⟨rfl,rfl⟩;go_wp2_with fail;go_ret;exact ⟨by rw [hr.out];rfl,(Below.refl _ _).alloc (Nat.le_refl _) _⟩
end
end Go.Proofs.YtgnfgblkpnfcnaaGreatDoor
