/- M18, M19, M20, M21: joined by program. -/
import Derived.Test.YtfcbajmjaifjlaaGreatM6
set_option maxHeartbeats 2000000
set_option maxRecDepth 100000
set_option linter.all false
namespace Go.Proofs.YtfcbajmjaifjlaaGreat
section
open Go.RowKit Go.Sort Go.Maps
open Oct
theorem zK8 (px py pz a b c d e f:Int) (w:World) :
 Calls Tryz.prog 36 #[.agg #[px,py,pz],.agg #[a,b,c,d,e,f]] w fun e' w'=>e' = .returned (.bool (inB ⟨px,py,pz⟩ ⟨⟨a,b,c⟩,⟨d,e,f⟩⟩))∧Below w.heap.size w w':=by
 go_enter Tryz.func36,Tryz.ntmps36;go_wp2_with fail
 all_goals
  go_ret;exact ⟨zx (by rw [Bool.eq_iff_iff];simp [inB];omega),bf.alloc (by simp) _⟩
theorem zK4 (a b c d e f:Int) (w:World) :
 Calls Tryz.prog 79 #[.agg #[a,b,c,d,e,f]] w fun e' w'=>e' = .returned (.bool (zS ⟨⟨a,b,c⟩,⟨d,e,f⟩⟩))∧Below w.heap.size w w':=by
 go_enter Tryz.func79,Tryz.ntmps79;go_wp2_with fail
 all_goals
  go_ret;exact ⟨zx (by rw [Bool.eq_iff_iff];simp [zS,inB];omega),bf⟩
theorem zLM (px py pz qx qy qz:Int) (h1 : -4000000000≤px∧px≤4000000000) (h2 : -4000000000≤py∧py≤4000000000) (h3 : -4000000000≤pz∧pz≤4000000000) (h4 : -4000000000≤qx∧qx≤4000000000) (h5 : -4000000000≤qy∧qy≤4000000000) (h6 : -4000000000≤qz∧qz≤4000000000) (w:World) :
 Calls Tryz.prog 105 #[.agg #[px,py,pz],.agg #[qx,qy,qz]] w fun e' w'=>e' = .returned (.agg #[(px - qx:Int),(py - qy:Int),(pz - qz:Int)])∧Below w.heap.size w w':=by
 obtain ⟨a1,a2⟩:=h1;obtain ⟨a3,a4⟩:=h2;obtain ⟨a5,a6⟩:=h3;obtain ⟨b1,b2⟩:=h4;obtain ⟨b3,b4⟩:=h5;obtain ⟨b5,b6⟩:=h6;go_enter Tryz.func105,Tryz.ntmps105;go_wp2_with fail;generalize hW:((w.alloc _).alloc _).alloc _=W;have hB:=bl3 hW;have kr:Bk W (w.heap.size+1+1) #[(px - qx:Int),(py - qy:Int),(pz - qz:Int)] 23:=bk0 hW;clear hW;exact bodyPost_ret (v:=.agg #[(px - qx:Int),(py - qy:Int),(pz - qz:Int)]) (results_cell_row rfl _ _ _ 23 #[(px - qx:Int),(py - qy:Int),(pz - qz:Int)] (0,0) _ rfl kr Tryz.underlying23 rfl (by kernel_rfl)) rfl ⟨rfl,hB⟩
theorem zKz (px py pz qx qy qz:Int) (h1 : -4000000000≤px∧px≤4000000000) (h2 : -4000000000≤py∧py≤4000000000) (h3 : -4000000000≤pz∧pz≤4000000000) (h4 : -4000000000≤qx∧qx≤4000000000) (h5 : -4000000000≤qy∧qy≤4000000000) (h6 : -4000000000≤qz∧qz≤4000000000) (w:World) :
 Calls Tryz.prog 141 #[.agg #[px,py,pz],.agg #[qx,qy,qz]] w fun e' w'=>e' = .returned (.agg #[(px+qx:Int),(py+qy:Int),(pz+qz:Int)])∧Below w.heap.size w w':=by
 obtain ⟨a1,a2⟩:=h1;obtain ⟨a3,a4⟩:=h2;obtain ⟨a5,a6⟩:=h3;obtain ⟨b1,b2⟩:=h4;obtain ⟨b3,b4⟩:=h5;obtain ⟨b5,b6⟩:=h6;go_enter Tryz.func141,Tryz.ntmps141;go_wp2_with fail;generalize hW:((w.alloc _).alloc _).alloc _=W;have hB:=bl3 hW;have kr:Bk W (w.heap.size+1+1) #[(px+qx:Int),(py+qy:Int),(pz+qz:Int)] 23:=bk0 hW;clear hW;exact bodyPost_ret (v:=.agg #[(px+qx:Int),(py+qy:Int),(pz+qz:Int)]) (results_cell_row rfl _ _ _ 23 #[(px+qx:Int),(py+qy:Int),(pz+qz:Int)] (0,0) _ rfl kr Tryz.underlying23 rfl (by kernel_rfl)) rfl ⟨rfl,hB⟩
theorem zLJ (a b c d e f:Int) (hS:Small ⟨⟨a,b,c⟩,⟨d,e,f⟩⟩ 1048575) (he:zS ⟨⟨a,b,c⟩,⟨d,e,f⟩⟩=false) (w:World) :
 Calls Tryz.prog 104 #[.agg #[a,b,c,d,e,f]] w fun e' w'=>e' = .returned (.agg #[(d - a:Int),(e - b:Int),(f - c:Int)])∧Below w.heap.size w w':=by
 obtain ⟨s1,s2,s3,s4,s5,s6⟩:=hS;simp only [] at s1 s2 s3 s4 s5 s6;have MV:=Bx.mk (fun W=>zK4 a b c d e f W);have MO:=zT.1 he;simp only [] at MO;have S8:=Bx.mk (fun W=>zLM d e f a b c (by omega) (by omega) (by omega) (by omega) (by omega) (by omega) W)
 rw [he] at MV;clear s1 s2 s3 s4 s5 s6 he MO;go_enter Tryz.func104,Tryz.ntmps104;go_wp2_with fail;generalize hW:(w.alloc _).alloc _=W;have JE:=sz2 hW;have hB:=bl2 hW;have kb:Bk W (w.heap.size) #[a,b,c,d,e,f] 25:=bk1 hW;have kr:Bk W (w.heap.size+1) #[(0:Int),(0:Int),(0:Int)] 23:=bk0 hW;clear hW;refine (MV.o _).mono ?_;rintro e1 w1 ⟨rfl,hb⟩;replace hB:=tr hB hb;replace kb:=kb.la hb;replace kr:=kr.la hb;replace JE:=nlt JE hb.size;clear hb;obtain ⟨Ev,cb1,cb2,cb3,Ew,Ex⟩:=kb.c6;go_wp2_with fail;refine (S8.o _).mono ?_;rintro e2 w2 ⟨rfl,hb⟩;clear Ev cb1 cb2 cb3 Ew Ex;replace hB:=tr hB hb;replace kb:=kb.la hb;replace kr:=kr.la hb;replace JE:=nlt JE hb.size;clear hb;obtain ⟨Fj,Fk,Fl⟩:=kr.c3;obtain ⟨GU,GV,GW⟩:=kr.f3;go_wp2_with fail;replace kr:=kr.put3 (.int .i64 (d - a)) (.int .i64 (e - b)) (.int .i64 (f - c));exact bodyPost_ret (v:=.agg #[(d - a:Int),(e - b:Int),(f - c:Int)]) (results_cell_row rfl _ _ _ 23 #[(d - a:Int),(e - b:Int),(f - c:Int)] (0,0) _ rfl kr Tryz.underlying23 rfl (by kernel_rfl)) rfl ⟨rfl,zBk hB (by omega) _ _ _⟩
theorem zLK (a b c d e f:Int) (he:zS ⟨⟨a,b,c⟩,⟨d,e,f⟩⟩=true) (w:World) :
 Calls Tryz.prog 104 #[.agg #[a,b,c,d,e,f]] w fun e' w'=>e' = .returned (.agg #[(0:Int),(0:Int),(0:Int)])∧Below w.heap.size w w':=by
 have MV:=Bx.mk (fun W=>zK4 a b c d e f W);rw [he] at MV;clear he;go_enter Tryz.func104,Tryz.ntmps104;go_wp2_with fail;generalize hW:(w.alloc _).alloc _=W;have JE:=sz2 hW;have hB:=bl2 hW;have kb:Bk W (w.heap.size) #[a,b,c,d,e,f] 25:=bk1 hW;have kr:Bk W (w.heap.size+1) #[(0:Int),(0:Int),(0:Int)] 23:=bk0 hW;clear hW;refine (MV.o _).mono ?_;rintro e1 w1 ⟨rfl,hb⟩;replace hB:=tr hB hb;replace kb:=kb.la hb;replace kr:=kr.la hb;replace JE:=nlt JE hb.size;clear hb;obtain ⟨Fj,Fk,Fl⟩:=kr.c3;obtain ⟨GU,GV,GW⟩:=kr.f3;go_wp2_with fail;replace kr:=kr.put3 (.int .i64 0) (.int .i64 0) (.int .i64 0);exact bodyPost_ret (v:=.agg #[(0:Int),(0:Int),(0:Int)]) (results_cell_row rfl _ _ _ 23 #[(0:Int),(0:Int),(0:Int)] (0,0) _ rfl kr Tryz.underlying23 rfl (by kernel_rfl)) rfl ⟨rfl,zBk hB (by omega) _ _ _⟩
theorem zLL (a b c d e f:Int) (hS:Small ⟨⟨a,b,c⟩,⟨d,e,f⟩⟩ 1048575) (w:World) :
 Calls Tryz.prog 104 #[.agg #[a,b,c,d,e,f]] w fun e' w'=>e' = .returned (.agg #[.int .i64 (zz ⟨⟨a,b,c⟩,⟨d,e,f⟩⟩).x,.int .i64 (zz ⟨⟨a,b,c⟩,⟨d,e,f⟩⟩).y,.int .i64 (zz ⟨⟨a,b,c⟩,⟨d,e,f⟩⟩).z])∧Below w.heap.size w w':=by
 cases he:zS ⟨⟨a,b,c⟩,⟨d,e,f⟩⟩ with
 | true =>
   have hz:zz ⟨⟨a,b,c⟩,⟨d,e,f⟩⟩=Pt.zero:=by unfold zz;rw [if_pos he]
   rw [hz];exact zLK a b c d e f he w
 | false =>
   rw [zAA he];exact zLJ a b c d e f hS he w
theorem zLO (a b c d e f:Int) (hS:Small ⟨⟨a,b,c⟩,⟨d,e,f⟩⟩ 1048575) (w:World) :
 Calls Tryz.prog 45 #[.agg #[a,b,c,d,e,f]] w fun e' w'=>e' = .returned (.int .i64 (zAE ⟨⟨a,b,c⟩,⟨d,e,f⟩⟩))∧Below w.heap.size w w':=by
 have S9:=Bx.mk fun W=>zLL a b c d e f hS W;have hv:=Bx.mk (show zAE ⟨⟨a,b,c⟩,⟨d,e,f⟩⟩=(zz ⟨⟨a,b,c⟩,⟨d,e,f⟩⟩).x * (zz ⟨⟨a,b,c⟩,⟨d,e,f⟩⟩).y * (zz ⟨⟨a,b,c⟩,⟨d,e,f⟩⟩).z from rfl);obtain ⟨⟨p1,p2⟩,p3,p4⟩:=zKT ⟨⟨a,b,c⟩,⟨d,e,f⟩⟩ (by decide) hS
 rw [show zAE ⟨⟨a,b,c⟩,⟨d,e,f⟩⟩=(zz ⟨⟨a,b,c⟩,⟨d,e,f⟩⟩).x * (zz ⟨⟨a,b,c⟩,⟨d,e,f⟩⟩).y * (zz ⟨⟨a,b,c⟩,⟨d,e,f⟩⟩).z from rfl] at p3 p4;clear hS;generalize (zz ⟨⟨a,b,c⟩,⟨d,e,f⟩⟩)=s at *;obtain ⟨sx,sy,sz⟩:=s;simp only [] at *;have m1:=wj (sx * sy) (by omega)
 have m2:=wj (sx * sy * sz) (by omega)
 have m3:=wi (sx * sy) (by omega)
 have m4:=wi (sx * sy * sz) (by omega)
 clear p1 p2 p3 p4;go_enter Tryz.func45,Tryz.ntmps45;go_wp2_with fail;generalize hW:w.alloc _=W;have JE:=sz1 hW;have hB:=bl1 hW;have kb:Bk W (w.heap.size) #[a,b,c,d,e,f] 25:=bk0 hW;clear hW;refine (S9.o _).mono ?_;rintro e' w1 ⟨rfl,hb⟩;replace hB:=tr hB hb;replace kb:=kb.la hb;replace JE:=nlt JE hb.size;clear hb;go_wp2_with fail;go_ret;exact ⟨zLa (by rw [hv.o]),hB.alloc hB.size _⟩
theorem zK0 (a b c d e f i:Int) (hS:Small ⟨⟨a,b,c⟩,⟨d,e,f⟩⟩ 1048575) (hi:0≤i∧i<zAE ⟨⟨a,b,c⟩,⟨d,e,f⟩⟩) (w:World) :
 Calls Tryz.prog 82 #[.agg #[a,b,c,d,e,f],i] w fun e' w'=>e' = .returned (.tuple #[.agg #[.int .i64 (atB ⟨⟨a,b,c⟩,⟨d,e,f⟩⟩ i).x,.int .i64 (atB ⟨⟨a,b,c⟩,⟨d,e,f⟩⟩ i).y,.int .i64 (atB ⟨⟨a,b,c⟩,⟨d,e,f⟩⟩ i).z],.bool true])∧Below w.heap.size w w':=by
 have hv:=Bx.mk fun W=>zLO a b c d e f hS W;have S9:=Bx.mk fun W=>zLL a b c d e f hS W;have Se:=(zKT ⟨⟨a,b,c⟩,⟨d,e,f⟩⟩ (by decide) hS).2.2
 have hin:=zb.1 (zBV hi.1 hi.2).1;have Jk:=Bx.mk (show (atB ⟨⟨a,b,c⟩,⟨d,e,f⟩⟩ i)=⟨a+i % (zz ⟨⟨a,b,c⟩,⟨d,e,f⟩⟩).x,b+i / (zz ⟨⟨a,b,c⟩,⟨d,e,f⟩⟩).x % (zz ⟨⟨a,b,c⟩,⟨d,e,f⟩⟩).y,c+i / (zz ⟨⟨a,b,c⟩,⟨d,e,f⟩⟩).x / (zz ⟨⟨a,b,c⟩,⟨d,e,f⟩⟩).y⟩ by unfold atB;rw [if_pos hi])
 rw [Jk.o] at hin;obtain ⟨s1,s2,s3,s4,s5,s6⟩:=hS;have Sf:zAE ⟨⟨a,b,c⟩,⟨d,e,f⟩⟩=(zz ⟨⟨a,b,c⟩,⟨d,e,f⟩⟩).x * (zz ⟨⟨a,b,c⟩,⟨d,e,f⟩⟩).y * (zz ⟨⟨a,b,c⟩,⟨d,e,f⟩⟩).z:=rfl;obtain ⟨h0,h1⟩:=hi;have KK:=zMK ⟨⟨a,b,c⟩,⟨d,e,f⟩⟩ (m:=1048575) (by decide) ⟨s1,s2,s3,s4,s5,s6⟩
 simp only [] at s1 s2 s3 s4 s5 s6 hin;generalize zAE ⟨⟨a,b,c⟩,⟨d,e,f⟩⟩=v at *;generalize (zz ⟨⟨a,b,c⟩,⟨d,e,f⟩⟩)=s at *;obtain ⟨sx,sy,sz⟩:=s;simp only [] at S9 Jk hin Sf KK
 have x0:0<sx:=by
  rcases Int.lt_or_le 0 sx with h | h
  · exact h
  · obtain rfl:sx=0:=by omega
    simp at Sf;omega
 have y0:0<sy:=by
  rcases Int.lt_or_le 0 sy with h | h
  · exact h
  · obtain rfl:sy=0:=by omega
    simp at Sf;omega
 have q0:0≤i / sx:=Int.ediv_nonneg h0 (by omega)
 have q1:i / sx≤i:=Int.ediv_le_self _ h0;have q2:0≤i / sx / sy:=Int.ediv_nonneg q0 (by omega)
 have q3:i / sx / sy≤i / sx:=Int.ediv_le_self _ q0;have m1:=Int.emod_nonneg i (show sx ≠ 0 by omega)
 have m2:=Int.emod_lt_of_pos i x0;have m3:=Int.emod_nonneg (i / sx) (show sy ≠ 0 by omega)
 have m4:=Int.emod_lt_of_pos (i / sx) y0;have t1:i.tdiv sx=i / sx:=Int.tdiv_eq_ediv_of_nonneg h0;have t2:i.tmod sx=i % sx:=Int.tmod_eq_emod_of_nonneg h0;have t3:(i / sx).tdiv sy=i / sx / sy:=Int.tdiv_eq_ediv_of_nonneg q0;have t4:(i / sx).tmod sy=i / sx % sy:=Int.tmod_eq_emod_of_nonneg q0;generalize hq:i / sx=qi at *;generalize hr:i % sx=ri at *;generalize hj:qi % sy=rj at *;generalize hk:qi / sy=qk at *;have nx:(sx == 0)=false:=by simp;omega
 have ny:(sy == 0)=false:=by simp;omega
 have nx':sx ≠ 0:=by omega
 have ny':sy ≠ 0:=by omega
 have u1:=wj qi (by omega)
 have u2:=wj qk (by omega)
 have u3:=wi qi (by omega)
 have u4:=wi qk (by omega)
 have JZ:=Bx.mk fun W=>zKz a b c ri rj qk (by omega) (by omega) (by omega) (by omega) (by omega) (by omega) W
 clear Se Sf KK q0 q1 q2 q3 m1 m2 m3 m4 hin s1 s2 s3 s4 s5 s6 x0 y0 hq hr hj hk;go_enter Tryz.func82,Tryz.ntmps82;go_wp2_with fail;generalize hW:(w.alloc _).alloc _=W;have JE:=sz2 hW;have hB:=bl2 hW;have kb:Bk W (w.heap.size) #[a,b,c,d,e,f] 25:=bk1 hW;have kr:Bk W (w.heap.size+1) #[(0:Int),(0:Int),(0:Int)] 23:=bk0 hW;clear hW;refine (hv.o _).mono ?_;rintro e' w1 ⟨rfl,hb⟩;replace hB:=tr hB hb;replace kb:=kb.la hb;replace kr:=kr.la hb;replace JE:=nlt JE hb.size;clear hb;obtain ⟨Ev,cb1,cb2,cb3,Ew,Ex⟩:=kb.c6;go_wp2_with fail;refine (S9.o _).mono ?_;rintro e' w2 ⟨rfl,hb⟩;clear Ev cb1 cb2 cb3 Ew Ex;replace hB:=tr hB hb;replace kb:=kb.la hb;replace kr:=kr.la hb;replace JE:=nlt JE hb.size;clear hb;go_wp2_with fail;generalize hW1:w2.alloc _=W2;have ks:Bk W2 w2.heap.size #[sx,sy,sz] 23:=bk0 hW1 rfl;have hb:=bl1 hW1;clear hW1;replace hB:=tr hB hb;replace kb:=kb.la hb;replace kr:=kr.la hb;replace JE:=nlt JE hb.size;clear hb;obtain ⟨Ev,cb1,cb2,cb3,Ew,Ex⟩:=kb.r6;obtain ⟨Ft,Fu,cs2⟩:=ks.r3;have q0:=Bx.mk fun dk osk=>rq (JZ.o (grow (redrawn W2 dk) osk));refine zAJ 22 (by kernel_rfl) (by kernel_rfl) ?_
 simp only [List.take_succ_cons,List.take_zero,List.drop_succ_cons,List.drop_zero]
 repeat (first | go_big_quiet_step (with_reducible exact q0.o _ _) | quiet_step (with_reducible exact q0.o _ _))
 refine wq ?_;rintro _ ⟨⟨dq,osq⟩,rfl⟩;have hb:=bq W2 dq osq;replace hB:=tr hB hb;clear Ev cb1 cb2 cb3 Ew Ex;clear Ft Fu cs2;clear q0;replace kb:=kb.la hb;replace kr:=kr.la hb;replace ks:=ks.la hb;replace JE:=nlt JE hb.size;clear hb;generalize grow (redrawn W2 dq) osq=W3 at *;obtain ⟨GU,GV,GW⟩:=kr.f3;obtain ⟨Fj,Fk,Fl⟩:=kr.c3;go_wp2_with fail;replace kr:=kr.put3 (.int .i64 (a+ri)) (.int .i64 (b+rj)) (.int .i64 (c+qk));obtain ⟨z0,z1,z2⟩:=kr.c3;exact bodyPost_ret (v:=.tuple #[.agg #[(a+ri:Int),(b+rj:Int),(c+qk:Int)],.bool true]) (by simp [results,Tryz.results82,go_sem,z0,z1,z2]) rfl ⟨by rw [Jk.o],zBk hB (by omega) _ _ _⟩
theorem zK9 (a b c d e f px py pz:Int) (hS:Small ⟨⟨a,b,c⟩,⟨d,e,f⟩⟩ 1048575) (w:World) :
 Calls Tryz.prog 42 #[.agg #[a,b,c,d,e,f],.agg #[px,py,pz]] w fun e' w'=>e' = .returned (.int .i64 (ze ⟨⟨a,b,c⟩,⟨d,e,f⟩⟩ ⟨px,py,pz⟩))∧Below w.heap.size w w':=by
 cases hin:inB ⟨px,py,pz⟩ ⟨⟨a,b,c⟩,⟨d,e,f⟩⟩ with
 | false =>
   have hv:=Bx.mk (show ze ⟨⟨a,b,c⟩,⟨d,e,f⟩⟩ ⟨px,py,pz⟩ = -1 by unfold ze;rw [if_neg (by simp [hin])])
   have Cv:=Bx.mk (fun W=>zK8 px py pz a b c d e f W);rw [hin] at Cv;clear hin hS;go_enter Tryz.func42,Tryz.ntmps42;go_wp2_with fail;generalize hW:(w.alloc _).alloc _=W;have JE:=sz2 hW;have hB:=bl2 hW;have kb:Bk W (w.heap.size) #[a,b,c,d,e,f] 25:=bk1 hW;have kp:Bk W (w.heap.size+1) #[px,py,pz] 23:=bk0 hW;clear hW;refine (Cv.o _).mono ?_;rintro e' w1 ⟨rfl,hb⟩;go_wp2_with fail;go_ret;exact ⟨zLa hv.o.symm,tr hB hb⟩
 | true =>
   have MW:=zc hin;have Ns:=zb.1 hin;have Mz:=zAA MW;have hv:=Bx.mk (show ze ⟨⟨a,b,c⟩,⟨d,e,f⟩⟩ ⟨px,py,pz⟩=((pz - c) * (zz ⟨⟨a,b,c⟩,⟨d,e,f⟩⟩).y+(py - b)) * (zz ⟨⟨a,b,c⟩,⟨d,e,f⟩⟩).x+(px - a) by unfold ze;rw [if_pos hin])
   have KK:=zf hin;rw [hv.o] at KK;have Se:=(zKT ⟨⟨a,b,c⟩,⟨d,e,f⟩⟩ (by decide) hS).2.2
   have S9:=Bx.mk fun W=>zLL a b c d e f hS W;have Cv:=Bx.mk (fun W=>zK8 px py pz a b c d e f W);rw [hin] at Cv;obtain ⟨s1,s2,s3,s4,s5,s6⟩:=hS;simp only [] at s1 s2 s3 s4 s5 s6 Ns;have S8:=Bx.mk fun W=>zLM px py pz a b c (by omega) (by omega) (by omega) (by omega) (by omega) (by omega) W
   have k1:=Int.mul_nonneg (show 0≤pz - c by omega) (show 0≤(zz ⟨⟨a,b,c⟩,⟨d,e,f⟩⟩).y by rw [Mz];simp only [Pt.sub];omega)
   have k2:0≤(zz ⟨⟨a,b,c⟩,⟨d,e,f⟩⟩).x:=by rw [Mz];simp only [Pt.sub];omega
   have k3:1≤(zz ⟨⟨a,b,c⟩,⟨d,e,f⟩⟩).x:=by rw [Mz];simp only [Pt.sub];omega
   have k4:0≤px - a∧0≤py - b:=by omega
   generalize zAE ⟨⟨a,b,c⟩,⟨d,e,f⟩⟩=V at *;generalize zz ⟨⟨a,b,c⟩,⟨d,e,f⟩⟩=s at *;obtain ⟨sx,sy,sz⟩:=s;simp only [] at S9 hv KK k1 k2 k3;generalize px - a=dx at *;generalize py - b=dy at *;generalize pz - c=dz at *
   have k5:(dz * sy+dy)≤(dz * sy+dy) * sx:=by
    have:=Int.mul_le_mul_of_nonneg_left k3 (show 0≤dz * sy+dy by omega)
    rwa [Int.mul_one] at this
   have k6:sy * dz=dz * sy:=Int.mul_comm _ _;have k7:sx * (dy+sy * dz)=(dz * sy+dy) * sx:=by rw [k6,Int.mul_comm,Int.add_comm dy]
   have SW:dx+sx * (dy+sy * dz)=(dz * sy+dy) * sx+dx:=by rw [k7];omega
   have m1:=wj (sy * dz) (by rw [k6];omega)
   have m2:=wj (dy+sy * dz) (by rw [k6];omega)
   have m3:=wj (sx * (dy+sy * dz)) (by rw [k7];omega)
   have m4:=wj (dx+sx * (dy+sy * dz)) (by rw [k7];omega)
   have w1:=wi (sy * dz) (by rw [k6];omega)
   have w2:=wi (dy+sy * dz) (by rw [k6];omega)
   have w3:=wi (sx * (dy+sy * dz)) (by rw [k7];omega)
   have w4:=wi (dx+sx * (dy+sy * dz)) (by rw [k7];omega)
   rw [←SW] at hv;clear k6 k7 SW;clear s1 s2 s3 s4 s5 s6 Ns hin MW Mz KK Se k1 k2 k3 k4 k5;go_enter Tryz.func42,Tryz.ntmps42;go_wp2_with fail;generalize hW:(w.alloc _).alloc _=W;have JE:=sz2 hW;have hB:=bl2 hW;have kb:Bk W (w.heap.size) #[a,b,c,d,e,f] 25:=bk1 hW;have kp:Bk W (w.heap.size+1) #[px,py,pz] 23:=bk0 hW;clear hW;refine (Cv.o _).mono ?_;rintro e' w5 ⟨rfl,hb⟩;replace hB:=tr hB hb;replace kb:=kb.la hb;replace kp:=kp.la hb;replace JE:=nlt JE hb.size;clear hb;obtain ⟨Ev,cb1,cb2,cb3,Ew,Ex⟩:=kb.c6;go_wp2_with fail;refine (S9.o _).mono ?_;rintro e' w6 ⟨rfl,hb⟩;clear Ev cb1 cb2 cb3 Ew Ex;replace hB:=tr hB hb;replace kb:=kb.la hb;replace kp:=kp.la hb;replace JE:=nlt JE hb.size;clear hb;have NT:=JE;have ab : ∀ o,Bk (w6.alloc o) w.heap.size #[a,b,c,d,e,f] 25:=fun o=>kb.alloc o;have ap : ∀ o,Bk (w6.alloc o) (w.heap.size+1) #[px,py,pz] 23:=fun o=>kp.alloc o;have ab0 : ∀ o,(w6.alloc o).cell? ⟨w.heap.size,0,none⟩=some (.int .i64 a):=fun o=>(ab o).cell 0 rfl;have ab1 : ∀ o,(w6.alloc o).cell? ⟨w.heap.size,1,none⟩=some (.int .i64 b):=fun o=>(ab o).cell 1 rfl;have ab2 : ∀ o,(w6.alloc o).cell? ⟨w.heap.size,2,none⟩=some (.int .i64 c):=fun o=>(ab o).cell 2 rfl;have ap0 : ∀ o,(w6.alloc o).cell? ⟨w.heap.size+1,0,none⟩=some (.int .i64 px):=fun o=>(ap o).cell 0 rfl;have ap1 : ∀ o,(w6.alloc o).cell? ⟨w.heap.size+1,1,none⟩=some (.int .i64 py):=fun o=>(ap o).cell 1 rfl;have ap2 : ∀ o,(w6.alloc o).cell? ⟨w.heap.size+1,2,none⟩=some (.int .i64 pz):=fun o=>(ap o).cell 2 rfl;clear ab ap;go_wp2_with fail;generalize hW:w6.alloc _=W7;have ks:Bk W7 w6.heap.size #[sx,sy,sz] 23:=bk0 hW rfl;have hb:Below w6.heap.size w6 W7:=by rw [←hW];exact zB _ _
   clear hW ab0 ab1 ab2 ap0 ap1 ap2;replace hB:=tr hB hb;clear hb kb kp JE NT;refine (S8.o _).mono ?_;rintro e' w8 ⟨rfl,hb⟩;replace hB:=tr hB hb;replace ks:=ks.la hb;clear hb;have as0 : ∀ o,(w8.alloc o).cell? ⟨w6.heap.size,0,none⟩=some (.int .i64 sx):=fun o=>(ks.alloc o).cell 0 rfl;have as1 : ∀ o,(w8.alloc o).cell? ⟨w6.heap.size,1,none⟩=some (.int .i64 sy):=fun o=>(ks.alloc o).cell 1 rfl;have as2 : ∀ o,(w8.alloc o).cell? ⟨w6.heap.size,2,none⟩=some (.int .i64 sz):=fun o=>(ks.alloc o).cell 2 rfl;clear ks;go_wp2_with fail;go_ret;exact ⟨zLa hv.o.symm,hB.alloc hB.size _⟩
theorem zK7 (a b c d e f px py pz:Int) (ha:Option Addr) (hcp:Nat) (xs:List Int) (HX:GoodG ⟨⟨a,b,c⟩,⟨d,e,f⟩⟩ xs hcp) (hin:inB ⟨px,py,pz⟩ ⟨⟨a,b,c⟩,⟨d,e,f⟩⟩=false) (w:World) (_hsl:Sl w .i64 ha xs) :
 Calls Tryz.prog 89 #[.agg #[a,b,c,d,e,f,.slice ha xs.length hcp],.agg #[px,py,pz]] w fun e' w'=>e' = .returned (.int .i64 (zE ⟨⟨a,b,c⟩,⟨d,e,f⟩⟩ xs ⟨px,py,pz⟩))∧Below w.heap.size w w':=by
 have hi:=Bx.mk (fun W=>zK9 a b c d e f px py pz HX.small W);rw [show ze ⟨⟨a,b,c⟩,⟨d,e,f⟩⟩ ⟨px,py,pz⟩ = -1 by unfold ze;rw [if_neg (by simp [hin])]] at hi
 rw [show zE ⟨⟨a,b,c⟩,⟨d,e,f⟩⟩ xs ⟨px,py,pz⟩=0 by unfold zE;rw [if_neg (by simp [hin])]]
 clear hin HX _hsl;go_enter Tryz.func89,Tryz.ntmps89;go_wp2_with fail;generalize hW:(w.alloc _).alloc _=W;have JE:=sz2 hW;have hB:=bl2 hW;have kg:Bk W (w.heap.size) #[a,b,c,d,e,f,.slice ha xs.length hcp] 28:=bk1 hW;have kp:Bk W (w.heap.size+1) #[px,py,pz] 23:=bk0 hW;clear hW;refine (hi.o _).mono ?_;rintro e1 w1 ⟨rfl,hb⟩;replace hB:=tr hB hb;replace kg:=kg.la hb;replace kp:=kp.la hb;replace JE:=nlt JE hb.size;clear hb;obtain ⟨F4,F5,F6,F7,F8,F9,FA⟩:=kg.c7;go_wp2_with fail;go_ret;exact ⟨rfl,hB⟩
theorem zK6 (a b c d e f px py pz:Int) (ha:Option Addr) (hcp:Nat) (xs:List Int) (HX:GoodG ⟨⟨a,b,c⟩,⟨d,e,f⟩⟩ xs hcp) (hin:inB ⟨px,py,pz⟩ ⟨⟨a,b,c⟩,⟨d,e,f⟩⟩=true) (w:World) (Rn:Sl w .i64 ha xs) :
 Calls Tryz.prog 89 #[.agg #[a,b,c,d,e,f,.slice ha xs.length hcp],.agg #[px,py,pz]] w fun e' w'=>e' = .returned (.int .i64 (zE ⟨⟨a,b,c⟩,⟨d,e,f⟩⟩ xs ⟨px,py,pz⟩))∧Below w.heap.size w w':=by
 have hi:=Bx.mk (fun W=>zK9 a b c d e f px py pz HX.small W);have KK:=zf hin;have hl:=HX.len;have hlt:(ze ⟨⟨a,b,c⟩,⟨d,e,f⟩⟩ ⟨px,py,pz⟩).toNat<xs.length:=by omega
 have hc:zE ⟨⟨a,b,c⟩,⟨d,e,f⟩⟩ xs ⟨px,py,pz⟩=xs[(ze ⟨⟨a,b,c⟩,⟨d,e,f⟩⟩ ⟨px,py,pz⟩).toNat]:=by unfold zE;rw [if_pos hin,Tr.getD_el hlt]
 have hx:=lge hlt;rw [←hc] at hx;have OY:=HX.le;obtain ⟨kk,OM⟩:=Int.eq_ofNat_of_zero_le KK.1;rw [OM] at hi;rw [OM,Int.toNat_natCast] at hx hlt;have hx:=Bx.mk hx;have Rn:=Bx.mk Rn;have b1:(0:Int)≤(kk:Int):=by omega
 have b2:(kk:Int)<(xs.length:Int):=by omega
 generalize zE ⟨⟨a,b,c⟩,⟨d,e,f⟩⟩ xs ⟨px,py,pz⟩=r at *;clear KK hl hc OM hin HX;go_enter Tryz.func89,Tryz.ntmps89;go_wp2_with fail;generalize hW:(w.alloc _).alloc _=W;have JE:=sz2 hW;have hB:=bl2 hW;have kg:Bk W (w.heap.size) #[a,b,c,d,e,f,.slice ha xs.length hcp] 28:=bk1 hW;have kp:Bk W (w.heap.size+1) #[px,py,pz] 23:=bk0 hW;clear hW;refine (hi.o _).mono ?_;rintro e1 w1 ⟨rfl,hb⟩;replace hB:=tr hB hb;replace kg:=kg.la hb;replace kp:=kp.la hb;replace JE:=nlt JE hb.size;clear hb;obtain ⟨F4,F5,F6,F7,F8,F9,FA⟩:=kg.c7;obtain ⟨bb,off,rfl,LO⟩:=(Rn.o.below hB) _ _ hx.o;generalize xs.length=n at *;go_wp2_with fail;go_ret;exact ⟨rfl,hB⟩
theorem zK5 (a b c d e f px py pz:Int) (ha:Option Addr) (hcp:Nat) (xs:List Int) (HX:GoodG ⟨⟨a,b,c⟩,⟨d,e,f⟩⟩ xs hcp) (w:World) (Rn:Sl w .i64 ha xs) :
 Calls Tryz.prog 89 #[.agg #[a,b,c,d,e,f,.slice ha xs.length hcp],.agg #[px,py,pz]] w fun e' w'=>e' = .returned (.int .i64 (zE ⟨⟨a,b,c⟩,⟨d,e,f⟩⟩ xs ⟨px,py,pz⟩))∧Below w.heap.size w w':=by
 cases hin:inB ⟨px,py,pz⟩ ⟨⟨a,b,c⟩,⟨d,e,f⟩⟩ with
 | false=>exact zK7 a b c d e f px py pz ha hcp xs HX hin w Rn
 | true=>exact zK6 a b c d e f px py pz ha hcp xs HX hin w Rn
def zFd (b:Box) (xs:List Int) (dd:Int):Int:=if dd<2∨14<dd then 13 else if zN6 b xs=true∧(zS b=true∨zL ⟨⟨0,0,0⟩,⟨2 ^ dd.toNat,2 ^ dd.toNat,2 ^ dd.toNat⟩⟩ b=true) then 0 else 1
theorem zFl {b:Box} {xs:List Int} {hcp:Nat} (h:zN6 b xs=true) (hl:xs.length≤300) (hc:xs.length≤hcp):GoodG b xs hcp:=by
 simp only [zN6,Bool.and_eq_true,decide_eq_true_eq] at h;obtain ⟨⟨⟨⟨h1,_⟩,_⟩,h2⟩,h3⟩:=h;exact ⟨zJG h1,by omega,hl,zA5 h3,hc⟩
theorem zFe {b:Box} {xs:List Int} {dd:Int} (h:zFd b xs dd=0) : ∃ n:Nat,n≤12∧dd=(n:Int)+2∧zN6 b xs=true∧(zS b=true∨zL ⟨⟨0,0,0⟩,⟨2 ^ (n+2),2 ^ (n+2),2 ^ (n+2)⟩⟩ b=true):=by
 unfold zFd at h;split at h
 · cases h
 · rename_i h1;split at h
   · rename_i h2;refine ⟨(dd - 2).toNat,by omega,by omega,h2.1,?_⟩
     rw [show (dd - 2).toNat+2=dd.toNat by omega]
     exact h2.2
   · cases h
theorem zFh (w:World) (sb:Nat) (a b c d e f:Int) (ha:Option Addr) (hcp:Nat) (xs:List Int) (n:Nat) (hn:n≤12) (Rn:Sl w .i64 ha xs) (HX:GoodH ⟨⟨a,b,c⟩,⟨d,e,f⟩⟩ xs hcp) (hV:zN6 ⟨⟨a,b,c⟩,⟨d,e,f⟩⟩ xs=true) (hC:zS ⟨⟨a,b,c⟩,⟨d,e,f⟩⟩=true∨zL ⟨⟨0,0,0⟩,⟨2 ^ (n+2),2 ^ (n+2),2 ^ (n+2)⟩⟩ ⟨⟨a,b,c⟩,⟨d,e,f⟩⟩=true)
 (Far:Nat→Prop) (N0:xs ≠ [] → ∀ b,ha.map (·.block)=some b→Far b) (UA:Int) (ts:List Tr) (hG:Good ts) (Od:ts.length≤100000000000) (IV : ∀ k,Far k→k<w.heap.size) (hS:StoreIs w Far sb UA ts) :
 Calls Tryz.prog 33 #[.pointer (some ⟨sb,0,none⟩),.agg #[a,b,c,d,e,f,.slice ha xs.length hcp],((n:Int)+2:Int)] w (Done Far sb UA ts (Tr.add (Tr.can (zE ⟨⟨a,b,c⟩,⟨d,e,f⟩⟩ xs) n ⟨0,0,0⟩) ts) (Tr.can (zE ⟨⟨a,b,c⟩,⟨d,e,f⟩⟩ xs) n ⟨0,0,0⟩) w):=by
 have hl:=zB5 (f:=zE ⟨⟨a,b,c⟩,⟨d,e,f⟩⟩ xs) hn ⟨0,0,0⟩ ts;have TF:=HX.le;cases hEm:zS ⟨⟨a,b,c⟩,⟨d,e,f⟩⟩ with
 | true=>exact zFg w sb a b c d e f ha hcp xs n hn _ rfl (by omega) Rn HX hV hEm Far N0 UA ts hG (by omega) IV hS
 | false =>
   rw [hEm] at hC;exact zFf w sb a b c d e f ha hcp xs n hn _ rfl (by omega) Rn HX hV hEm (hC.resolve_left (by simp)) Far N0 UA ts hG (by omega) IV hS
end
section
open Oct
open Classical in
noncomputable def cn (L:List Pt) (n:Nat) (a:Pt):Nat:=(L.filter fun p=>decide (Tr.InC n a p)).length
open Classical in
theorem zC2 (p:Pt) (L:List Pt) (n:Nat) (a:Pt):cn (p::L) n a=(if Tr.InC n a p then 1 else 0)+cn L n a:=by
 unfold cn;rw [List.filter_cons];by_cases h:Tr.InC n a p
 · simp [h];omega
 · simp [h]
theorem one_of (k:Fin 8):(List.ofFn fun i:Fin 8=>if i=k then (1:Nat) else 0).sum=1:=by revert k;decide
theorem zNA {f g:Fin 8→Nat} (h : ∀ i,f i≤g i):(List.ofFn f).sum≤(List.ofFn g).sum:=by
 have h0:=h 0;have h1:=h 1;have h2:=h 2;have h3:=h 3;have h4:=h 4;have h5:=h 5;have h6:=h 6;have h7:=h 7;simp only [List.ofFn_succ,List.ofFn_zero,List.sum_cons,List.sum_nil];simp only [Fin.reduceSucc,Fin.isValue] at *;omega
theorem zM9 (f g:Fin 8→Nat):(List.ofFn fun i=>f i+g i).sum=(List.ofFn f).sum+(List.ofFn g).sum:=by
 simp only [List.ofFn_succ,List.ofFn_zero,List.sum_cons,List.sum_nil];omega
theorem zNB:(List.ofFn fun _:Fin 8=>(0:Nat)).sum=0:=by decide
theorem zC3 (n:Nat) (a:Pt) (ha:Tr.Al (n+1) a) : ∀ L:List Pt,(List.ofFn fun i:Fin 8=>cn L n (Tr.cor a n i.val)).sum≤cn L (n+1) a
 | [] => by
   have : ∀ i:Fin 8,cn [] n (Tr.cor a n i.val)=0:=fun i=>by simp [cn]
   simp only [this];rw [zNB];omega
 | p :: L => by
   classical
   have ih:=zC3 n a ha L;have e : ∀ i:Fin 8,cn (p::L) n (Tr.cor a n i.val)=(if Tr.InC n (Tr.cor a n i.val) p then 1 else 0)+cn L n (Tr.cor a n i.val):=fun i=>zC2 p L n _;simp only [e];rw [zM9,zC2]
   have h1:(List.ofFn fun i:Fin 8=>if Tr.InC n (Tr.cor a n i.val) p then 1 else 0).sum≤if Tr.InC (n+1) a p then 1 else 0:=by
    by_cases h:Tr.InC (n+1) a p
    · rw [if_pos h]
      have:=zNA (f:=fun i:Fin 8=>if Tr.InC n (Tr.cor a n i.val) p then 1 else 0) (g:=fun i:Fin 8=>if i=Tr.oct n p then 1 else 0) (fun i=>by
       by_cases hi:Tr.InC n (Tr.cor a n i.val) p
       · rw [if_pos hi,if_pos (Tr.inC_other ha hi).1];omega
       · rw [if_neg hi];omega)
      rw [one_of] at this;exact this
    · rw [if_neg h]
      have:=zNA (f:=fun i:Fin 8=>if Tr.InC n (Tr.cor a n i.val) p then 1 else 0) (g:=fun _=>0) (fun i=>by
       by_cases hi:Tr.InC n (Tr.cor a n i.val) p
       · exact absurd (Tr.inC_other ha hi).2 h
       · rw [if_neg hi];omega)
      rw [zNB] at this;exact this
   omega
theorem zC4 (L:List Pt) (n:Nat) (a:Pt):cn L n a≤L.length:=by unfold cn;exact List.length_filter_le _ _
theorem zC5 {L:List Pt} {n:Nat} {a p:Pt} (h:p∈L) (h':Tr.InC n a p):0<cn L n a:=by
 classical
 unfold cn;exact List.length_pos_of_mem (List.mem_filter.2 ⟨h,by simpa using h'⟩)
open Classical in
noncomputable def phi (ts:List Tr):Nat:=ts.length+if Tr.uni 0∈ts then 0 else 1
theorem zKN (ts:List Tr):ts.length≤phi ts∧phi ts≤ts.length+1:=by unfold phi;split <;> omega
theorem zKM (t:Tr) (ts:List Tr):phi (Tr.ins t ts)≤phi ts+1:=by
 by_cases h:t∈ts
 · rw [Tr.ins_of_mem h];omega
 · rw [Tr.ins_of_not h];unfold phi;rw [List.length_append,List.length_singleton];by_cases h0:Tr.uni 0∈ts
   · rw [if_pos h0,if_pos (by simp [h0])];omega
   · rw [if_neg h0];split <;> omega
theorem zKO (ts:List Tr):phi (Tr.add (.uni 0) ts)≤phi ts:=by
 rw [Tr.add_uni];by_cases h:Tr.uni 0∈ts
 · rw [Tr.ins_of_mem h];omega
 · rw [Tr.ins_of_not h];unfold phi;rw [if_neg h,if_pos (by simp),List.length_append,List.length_singleton];omega
theorem zKL {f:Pt→Int} (hf : ∀ p,0≤f p∧f p≤255) (L:List Pt) : ∀ (n:Nat) (a:Pt) (ts:List Tr),n≤200→Tr.Al n a→Good ts→(∀ p,Tr.InC n a p→f p ≠ 0→p∈L) →
 phi (Tr.add (Tr.can f n a) ts)≤phi ts+(n+1) * cn L n a:=by
 intro n
 induction n with
 | zero =>
   intro a ts hn ha hG hL;by_cases hc:cn L 0 a=0
   · rw [zB9 0 a f ha (fun p hp=>Classical.byContradiction fun h=>by have:=zC5 (hL p hp h) hp;omega)]
     have:=zKO ts;omega
   · have h1:phi (Tr.add (Tr.can f 0 a) ts)≤phi ts+1:=by
      unfold Tr.can Tr.mkBrick;split
      · rw [Tr.add_uni];exact zKM _ _
      · rw [Tr.add_brick];exact zKM _ _
     omega
 | succ n ih =>
   intro a ts hn ha hG hL;by_cases hc:cn L (n+1) a=0
   · rw [zB9 (n+1) a f ha (fun p hp=>Classical.byContradiction fun h=>by have:=zC5 (hL p hp h) hp;omega)]
     have:=zKO ts;omega
   · have hW : ∀ i:Fin 8,Tr.WF (Tr.can f n (Tr.cor a n i.val)):=fun i=>zAF hf n _ (by omega)
     have key : ∀ k,k≤8→phi (Tr.addK (fun i:Fin 8=>Tr.can f n (Tr.cor a n i.val)) k ts)≤phi ts+(n+1) * ((List.ofFn fun i:Fin 8=>cn L n (Tr.cor a n i.val)).take k).sum:=by
      intro k
      induction k with
      | zero=>intro _;rw [Tr.addK_zero];simp
      | succ k ihk =>
        intro hk;rw [Tr.addK_succ _ (by omega)]
        have h2:=ihk (by omega)
        have h1:=ih (Tr.cor a n k) (Tr.addK (fun i:Fin 8=>Tr.can f n (Tr.cor a n i.val)) k ts) (by omega) (Tr.al_cor ha k) (zFo hG hW k (by omega)) (fun p hp h=>hL p (Tr.inC_other ha (i:=⟨k,by omega⟩) hp).2 h)
        rw [List.take_succ_eq_append_getElem (by simpa using (show k<8 by omega)),List.sum_append]
        simp only [List.getElem_ofFn,List.sum_cons,List.sum_nil,Nat.add_zero];rw [Nat.mul_add];omega
     have h8:=key 8 nlr;rw [List.take_of_length_le (by simp)] at h8
     have hk:=Nat.mul_le_mul_left (n+1) (zC3 n a ha L)
     have hin:phi (Tr.add (Tr.can f (n+1) a) ts)≤phi (Tr.addK (fun i:Fin 8=>Tr.can f n (Tr.cor a n i.val)) 8 ts)+1:=by
      show phi (Tr.add (Tr.mkInner (n+3) fun i=>Tr.can f n (Tr.cor a n i.val)) ts)≤_
      rw [Tr.inner_add hG.closed];split
      · omega
      · exact zKM _ _
     have e:(n+1+1) * cn L (n+1) a=(n+1) * cn L (n+1) a+cn L (n+1) a:=Nat.succ_mul _ _;omega
def zKW (b:Box):List Pt:=(List.range (zAE b).toNat).map fun i:Nat=>atB b (i:Int)
theorem zIU {b:Box} {p:Pt} (h:inB p b=true):p∈zKW b:=by
 have hi:=zf h;refine List.mem_map.2 ⟨(ze b p).toNat,List.mem_range.2 (by omega),?_⟩
 rw [Int.toNat_of_nonneg hi.1,zBX h]
theorem zB2 {b:Box} {xs:List Int} {hcp n:Nat} (HX:GoodG b xs hcp) (hn:n≤12) {ts:List Tr} (hG:Good ts):(Tr.add (Tr.can (zE b xs) n ⟨0,0,0⟩) ts).length≤ts.length+3901:=by
 have h1:=zKL HX.range (zKW b) n ⟨0,0,0⟩ ts (by omega) (zA3 n) hG (fun p _ h=>zIU (by
  cases hp:inB p b with
  | true=>rfl
  | false=>exact absurd (by unfold zE;rw [if_neg (by simp [hp])]) h))
 have h2:=zC4 (zKW b) n ⟨0,0,0⟩
 have h3:(zKW b).length≤300:=by
  unfold zKW;rw [List.length_map,List.length_range,←HX.len];exact HX.le
 have h4:=(zKN (Tr.add (Tr.can (zE b xs) n ⟨0,0,0⟩) ts)).1;have h5:=(zKN ts).2;have h6:(n+1) * cn (zKW b) n ⟨0,0,0⟩≤13 * 300:=Nat.mul_le_mul (by omega) (by omega)
 omega
end
section
open Go.RowKit Go.Sort Go.Maps
open Oct
theorem zFq:Good []:=⟨Tr.Closed.nil,fun t h=>by cases h⟩
end
section
open Go.RowKit
open Oct
structure FnC (n:Nat) (f:Pt→Int):Prop where
 range : ∀ p,0≤f p∧f p≤255
 o : ∀ p,inB p (zN (2 ^ (n+2)))=false→f p=0
noncomputable abbrev trF (n:Nat) (f:Pt→Int):Tr:=Tr.can f n ⟨0,0,0⟩
theorem zGV {n:Nat} {p:Pt} (h:inB p (zN (2 ^ (n+2)))=true):Tr.InC n ⟨0,0,0⟩ p:=by
 have hl:=zb.1 h;simp only [zN,Pt.zero] at hl;unfold Tr.InC;simp only [Int.zero_ediv];refine ⟨Int.ediv_eq_zero_of_lt (by omega) (by omega),Int.ediv_eq_zero_of_lt (by omega) (by omega),Int.ediv_eq_zero_of_lt (by omega) (by omega)⟩
theorem FnC.upd {n:Nat} {f:Pt→Int} (h:FnC n f) {p:Pt} (hI:inB p (zN (2 ^ (n+2)))=true) {c:Int} (hc:0≤c∧c≤255):FnC n (Tr.upd f p c):=by
 refine ⟨fun q=>?_,fun q hq=>?_⟩
 · unfold Tr.upd;split
   · exact hc
   · exact h.range q
 · unfold Tr.upd;split
   · rename_i e;rw [e,hI] at hq;cases hq
   · exact h.o q hq
theorem zF2 {b:Box} {xs:List Int} {hcp n:Nat} (HX:GoodG b xs hcp) (hC:zS b=true∨zL ⟨⟨0,0,0⟩,⟨2 ^ (n+2),2 ^ (n+2),2 ^ (n+2)⟩⟩ b=true):FnC n (zE b xs):=by
 refine ⟨HX.range,fun p hp=>?_⟩;cases hb:inB p b with
 | false=>unfold zE;rw [if_neg (by simp [hb])]
 | true =>
   exfalso;have h1:=zb.1 hb;rcases hC with hC | hC
   · have:=zEj.1 hC;omega
   · unfold zL at hC;rw [Bool.or_eq_true] at hC;rcases hC with hC | hC
     · have:=zEj.1 hC;omega
     · have h2:inB p (zn ⟨⟨0,0,0⟩,⟨2 ^ (n+2),2 ^ (n+2),2 ^ (n+2)⟩⟩ b)=true:=by rw [of_decide_eq_true hC];exact hb
       have h3:inB p (zN (2 ^ (n+2)))=true:=zb.2 (by
        unfold zn at h2;split at h2
        · have:=zb.1 h2;simp only [Box.zero,Pt.zero] at this;omega
        · have:=zb.1 h2;simp only [zGx] at this;simp only [zN,Pt.zero];omega)
       rw [hp] at h3;cases h3
theorem upd_at (f:Pt→Int) (p:Pt) (c:Int):Tr.upd f p c p=c:=if_pos rfl
theorem zN1 {f:Pt→Int} {p q:Pt} {c:Int} (h:q ≠ p):Tr.upd f p c q=f q:=if_neg h
theorem zFp {n:Nat} {f:Pt→Int} (hn:n≤12) (hF:FnC n f) {ts:List Tr} (hG:Good ts):Good (Tr.add (trF n f) ts):=zFn _ hG (zAF hF.range n _ (by omega))
end
section
open Oct
def fs (F H:Pt→Int) (pt:Nat→Pt):Nat→Pt→Int
 | 0=>F
 | i+1=>Tr.upd (fs F H pt i) (pt i) (H (pt i))
def shf (d:Pt) (f:Pt→Int):Pt→Int:=fun o=>f ⟨d.x+o.x,d.y+o.y,d.z+o.z⟩
theorem zB6 (d:Pt) (f:Pt→Int) : ∀ (n:Nat) (b:Pt),Tr.can (shf d f) n b=Tr.can f n ⟨d.x+b.x,d.y+b.y,d.z+b.z⟩
 | 0, b => by
   unfold Tr.can
   congr 1
   apply List.map_congr_left;intro k _;unfold shf Tr.cellAt;simp only [Int.add_assoc]
 | n + 1, b => by
   unfold Tr.can
   congr 1
   funext i
   rw [zB6 d f n];unfold Tr.cor;simp only [Int.add_assoc]
def AlP (L:Nat) (p:Pt):Prop:=p.x % 2 ^ L=0∧p.y % 2 ^ L=0∧p.z % 2 ^ L=0
theorem zDe {m:Nat} {a p:Pt} (ha:Tr.Al m a) (hI:Tr.InC m a p) (hp:AlP (m+2) p):p=a:=by
 obtain ⟨a1,a2,a3⟩:=ha;obtain ⟨i1,i2,i3⟩:=hI;obtain ⟨p1,p2,p3⟩:=hp;have e1:=Int.mul_ediv_add_emod p.x (2 ^ (m+2));have e2:=Int.mul_ediv_add_emod p.y (2 ^ (m+2));have e3:=Int.mul_ediv_add_emod p.z (2 ^ (m+2));have f1:=Int.mul_ediv_add_emod a.x (2 ^ (m+2));have f2:=Int.mul_ediv_add_emod a.y (2 ^ (m+2));have f3:=Int.mul_ediv_add_emod a.z (2 ^ (m+2));rw [i1,p1] at e1;rw [i2,p2] at e2;rw [i3,p3] at e3;rw [a1] at f1;rw [a2] at f2;rw [a3] at f3;cases p;cases a;simp only [Pt.mk.injEq] at *;omega
theorem zJy {t:Tr} {m L:Nat} {p:Pt} (hD:Dep (m+1) t) (hL:L<m+3):zJv t (m+1) L p=zJv (t.kid (Tr.oct m p)) m L p:=by
 cases hD with
 | uni _ c=>rw [zJ1];exact zJ1.symm
 | node _ ch LT=>rw [zJz hL];rfl
theorem zJw (f:Pt→Int) : ∀ (m L:Nat) (a p:Pt),Tr.Al m a→Tr.InC m a p→2≤L→L≤m+2→AlP L p→zJv (Tr.can f m a) m L p=Tr.can f (L - 2) p
 | 0, L, a, p, ha, hI, h2, hL, hp => by
   obtain rfl:L=2:=by omega
   rw [zJ0 (by omega),zDe ha hI hp]
 | m + 1, L, a, p, ha, hI, h2, hL, hp => by
   by_cases h:L<m+3
   · rw [zJy (zQ f (m+1) a) h];have e:(Tr.can f (m+1) a).kid (Tr.oct m p)=Tr.can f m (Tr.cor a m (Tr.oct m p).val):=Tr.mkInner_kid _ _ _;rw [e];exact zJw f m L _ p (Tr.al_cor ha _) (Tr.inC_step ha hI) h2 (by omega) hp
   · obtain rfl:L=m+1+2:=by omega
     rw [zJ0 (by omega),zDe ha hI hp]
     rfl
def cb (p:Pt) (L:Nat):Box:=⟨p,⟨p.x+2 ^ L,p.y+2 ^ L,p.z+2 ^ L⟩⟩
theorem zA0 {L:Nat} {p:Pt}:alB L p=true ↔ AlP L p:=by unfold alB AlP;simp
end
section
open Go.RowKit
open Oct
theorem zHG {ts:List Tr} (hG:Good ts) {t:Tr} (ht:t∈ts) (i:Fin 8):t.kid i∈ts:=by
 cases t with
 | uni c=>exact ht
 | brick l=>exact ht
 | node d ch=>exact hG.closed.2 d ch ht i
theorem zB3 (f:Pt→Int) (n:Nat) (a:Pt) (i:Fin 8):(Tr.can f (n+1) a).kid i=Tr.can f n (Tr.cor a n i.val):=Tr.mkInner_kid (n+3) (fun i:Fin 8=>Tr.can f n (Tr.cor a n i.val)) i
theorem zB4 {f:Pt→Int} {n:Nat} {a:Pt} {ts:List Tr} (hG:Good ts) (h:Tr.can f (n+1) a∈ts) (i:Fin 8):Tr.can f n (Tr.cor a n i.val)∈ts:=by
 rw [←zB3];exact zHG hG h i
theorem zGr (t:Tr) (ts:List Tr):(Tr.ins t ts).length≤ts.length+1:=by
 by_cases h:t∈ts
 · rw [Tr.ins_of_mem h];omega
 · rw [Tr.ins_of_not h,List.length_append,List.length_singleton];omega
theorem zIb (l:List Int) (ts:List Tr):(Tr.add (Tr.mkBrick l) ts).length≤ts.length+1:=by
 unfold Tr.mkBrick;split
 · rw [Tr.add_uni];exact zGr _ _
 · rw [Tr.add_brick];exact zGr _ _
theorem zCl {f f':Pt→Int} (hf : ∀ p,0≤f' p∧f' p≤255) (L:List Pt) : ∀ (n:Nat) (a:Pt) (ts us:List Tr),n≤200→Tr.Al n a→Good us→ts <+: us→Good ts→Tr.can f n a∈ts→(∀ p,Tr.InC n a p→f' p ≠ f p→p∈L) →
 (Tr.add (Tr.can f' n a) us).length≤us.length+(n+1) * cn L n a:=by
 intro n
 induction n with
 | zero =>
   intro a ts us hn ha Ie hp hG ht hL;by_cases hc:cn L 0 a=0
   · have e:Tr.can f' 0 a=Tr.can f 0 a:=Tr.can_congr 0 a ha fun p hp=>Classical.byContradiction fun h=>by have:=zC5 (hL p hp h) hp;omega
     rw [e,Tr.add_same _ _ (hp.subset ht)];omega
   · have:=zIb ((List.range 64).map fun k=>f' (Tr.cellAt a k)) us
     show (Tr.add (Tr.mkBrick _) us).length≤_
     omega
 | succ n ih =>
   intro a ts us hn ha Ie hp hG ht hL;by_cases hc:cn L (n+1) a=0
   · have e:Tr.can f' (n+1) a=Tr.can f (n+1) a:=Tr.can_congr (n+1) a ha fun p hp=>Classical.byContradiction fun h=>by have:=zC5 (hL p hp h) hp;omega
     rw [e,Tr.add_same _ _ (hp.subset ht)];omega
   · have hW : ∀ i:Fin 8,Tr.WF (Tr.can f' n (Tr.cor a n i.val)):=fun i=>zAF hf n _ (by omega)
     have key : ∀ k,k≤8→(Tr.addK (fun i:Fin 8=>Tr.can f' n (Tr.cor a n i.val)) k us).length≤us.length+(n+1) * ((List.ofFn fun i:Fin 8=>cn L n (Tr.cor a n i.val)).take k).sum:=by
      intro k
      induction k with
      | zero=>intro _;rw [Tr.addK_zero];simp
      | succ k ihk =>
        intro hk;rw [Tr.addK_succ _ (by omega)]
        have h2:=ihk (by omega)
        have h1:=ih (Tr.cor a n k) ts (Tr.addK (fun i:Fin 8=>Tr.can f' n (Tr.cor a n i.val)) k us) (by omega) (Tr.al_cor ha k) (zFo Ie hW k (by omega)) (hp.trans (Tr.addK_prefix _ k (by omega) us)) hG (zB4 hG ht ⟨k,by omega⟩) (fun p hp h=>hL p (Tr.inC_other ha (i:=⟨k,by omega⟩) hp).2 h)
        rw [List.take_succ_eq_append_getElem (by simpa using (show k<8 by omega)),List.sum_append]
        simp only [List.getElem_ofFn,List.sum_cons,List.sum_nil,Nat.add_zero];rw [Nat.mul_add];omega
     have h8:=key 8 nlr;rw [List.take_of_length_le (by simp)] at h8
     have hk:=Nat.mul_le_mul_left (n+1) (zC3 n a ha L);have hin:(Tr.add (Tr.can f' (n+1) a) us).length≤(Tr.addK (fun i:Fin 8=>Tr.can f' n (Tr.cor a n i.val)) 8 us).length+1:=zGn Ie;have e:(n+1+1) * cn L (n+1) a=(n+1) * cn L (n+1) a+cn L (n+1) a:=Nat.succ_mul _ _;omega
theorem zFx {f f':Pt→Int} (hf : ∀ p,0≤f' p∧f' p≤255) (m:Nat) (d:Pt) (hd:Tr.Al m d) {ts:List Tr} (hG:Good ts) (hm:Tr.can f' m d∈ts) (he : ∀ p,¬Tr.InC m d p→f' p=f p) : ∀ (n:Nat) (a:Pt),n≤200→m≤n→Tr.Al n a→Tr.InC n a d→Tr.can f n a∈ts →
 (Tr.add (Tr.can f' n a) ts).length≤ts.length+n:=by
 intro n
 induction n with
 | zero =>
   intro a hn PX ha hi ht;obtain rfl:m=0:=by omega
   have e:d=a:=by
    have h1:=Tr.inC_zero ha hi;have h2:=Tr.inC_zero hd (show Tr.InC 0 d d from ⟨rfl,rfl,rfl⟩);obtain ⟨x1,x2,x3⟩:=hi;obtain ⟨y1,y2,y3⟩:=hd;obtain ⟨z1,z2,z3⟩:=ha;have e4:(2:Int) ^ (0+2)=4:=by decide
    rw [e4] at x1 x2 x3 y1 y2 y3 z1 z2 z3;cases d;cases a;simp only [Pt.mk.injEq] at *;omega
   rw [←e,Tr.add_same _ _ hm];omega
 | succ n ih =>
   intro a hn PX ha hi ht;by_cases hmn2:m=n+1
   · subst hmn2
     have e:d=a:=by
      obtain ⟨x1,x2,x3⟩:=hi;obtain ⟨y1,y2,y3⟩:=hd;obtain ⟨z1,z2,z3⟩:=ha
      have key : ∀ x y m:Int,x / m=y / m→x % m=0→y % m=0→x=y:=by
       intro x y m h1 h2 h3;have e1:=Int.mul_ediv_add_emod x m;have e2:=Int.mul_ediv_add_emod y m;rw [h1,h2] at e1;rw [h3] at e2;omega
      cases d;cases a;simp only [Pt.mk.injEq] at *;exact ⟨key _ _ _ x1 y1 z1,key _ _ _ x2 y2 z2,key _ _ _ x3 y3 z3⟩
     rw [←e,Tr.add_same _ _ hm];omega
   · have hW : ∀ i:Fin 8,Tr.WF (Tr.can f' n (Tr.cor a n i.val)):=fun i=>zAF hf n _ (by omega)
     have OI : ∀ i:Fin 8,i ≠ Tr.oct n d→Tr.can f' n (Tr.cor a n i.val)∈ts:=by
      intro i Ph
      have e:Tr.can f' n (Tr.cor a n i.val)=Tr.can f n (Tr.cor a n i.val):=Tr.can_congr n _ (Tr.al_cor ha _) fun p hp=>he p fun hpd=>Ph (by
       have h1:=(Tr.inC_other ha hp).1
       have h2:Tr.oct n p=Tr.oct n d:=by
        obtain ⟨x1,x2,x3⟩:=hpd
        have key : ∀ x y:Int,x / 2 ^ (m+2)=y / 2 ^ (m+2)→x / 2 ^ (n+2)=y / 2 ^ (n+2):=by
         intro x y h;obtain ⟨k,rfl⟩ : ∃ k,n=m+k:=⟨n - m,by omega⟩
         have e2:(2:Int) ^ (m+k+2)=2 ^ (m+2) * 2 ^ k:=by rw [←Int.pow_add];congr 1;omega
         have hp:=Int.pow_pos (n:=2) (m:=m+2) (by decide)
         rw [e2,←Int.ediv_ediv_of_nonneg (by omega),←Int.ediv_ediv_of_nonneg (by omega),h]
        apply Fin.ext
        show Tr.octN n p=Tr.octN n d
        unfold Tr.octN;rw [key _ _ x1,key _ _ x2,key _ _ x3]
       rw [h1,h2])
      rw [e];exact zB4 hG ht i
     have h1:=ih (Tr.cor a n (Tr.oct n d).val) (by omega) (by omega) (Tr.al_cor ha _) (Tr.inC_step ha hi) (zB4 hG ht _)
     have hin:(Tr.add (Tr.can f' (n+1) a) ts).length≤(Tr.addK (fun i:Fin 8=>Tr.can f' n (Tr.cor a n i.val)) 8 ts).length+1:=zGn hG;rw [Tr.addK_one (Tr.oct n d) OI] at hin;omega
theorem zIL {n:Nat} (hn:n≤3):zIJ n≤585:=by
 have h:n=0∨n=1∨n=2∨n=3:=by omega
 rcases h with rfl | rfl | rfl | rfl <;> decide
theorem zBG {f:Pt→Int} {n:Nat} (hn:n≤3) (a:Pt) (ts:List Tr):(Tr.add (Tr.can f n a) ts).length≤ts.length+585 :=
 nlt (zAr _ _) (Nat.add_le_add_left (nlt (zNC f n a) (zIL hn)) _)
abbrev zOI (n:Nat):Box:=zN (2 ^ (n+2))
def zE9 (n:Nat) (b:Box) (c:Int) (f:Pt→Int):Pt→Int:=fun p=>if (inB p b && inB p (zOI n))=true then c else f p
def zr (n:Nat) (b:Box) (xs:List Int) (f:Pt→Int):Pt→Int:=fun p=>if (inB p b && inB p (zOI n))=true then zE b xs p else f p
def zAM (l:List (Pt × Int)) (f:Pt→Int):Pt→Int:=l.foldl (fun g x=>Tr.upd g x.1 x.2) f
theorem zFA {n:Nat} {b:Box} {c:Int} {f:Pt→Int} (h:FnC n f) (hc:0≤c∧c≤255):FnC n (zE9 n b c f):=by
 refine ⟨fun p=>?_,fun p hp=>?_⟩
 · unfold zE9;split
   · exact hc
   · exact h.range p
 · unfold zE9;rw [hp,Bool.and_false,if_neg (by decide)];exact h.o p hp
theorem zJ9 {n:Nat} {b:Box} {xs:List Int} {hcp:Nat} (HX:GoodG b xs hcp) {f:Pt→Int} (h:FnC n f):FnC n (zr n b xs f):=by
 refine ⟨fun p=>?_,fun p hp=>?_⟩
 · unfold zr;split
   · exact HX.range p
   · exact h.range p
 · unfold zr;rw [hp,Bool.and_false,if_neg (by decide)];exact h.o p hp
theorem zOs {n:Nat} : ∀ {l:List (Pt × Int)} {f:Pt→Int},(∀ x∈l,inB x.1 (zOI n)=true∧0≤x.2∧x.2≤255)→FnC n f→FnC n (zAM l f)
 | [],_,_,h=>h
 | x :: l, f, hl, h => by
   unfold zAM;rw [List.foldl_cons];have hx:=hl x (by simp)
   exact zOs (l:=l) (fun y hy=>hl y (by simp [hy])) (h.upd hx.1 hx.2)
theorem zKX {b:Box} {m:Nat} (h:zAE b≤(m:Int)):(zKW b).length≤m:=by
 unfold zKW;rw [List.length_map,List.length_range];omega
theorem zFO {n:Nat} {b:Box} {c:Int} {f:Pt→Int} (hn:n≤12) (h:FnC n f) (hc:0≤c∧c≤255) {ts:List Tr} (hG:Good ts) (ht:trF n f∈ts) (hv:zAE b≤4000):(Tr.add (trF n (zE9 n b c f)) ts).length≤ts.length+52000:=by
 have h1:=zCl (f:=f) (zFA (b:=b) h hc).range (zKW b) n ⟨0,0,0⟩ ts ts (by omega) (zA3 n) hG (List.prefix_refl _) hG ht (fun p _ Ph=>zIU (by
  unfold zE9 at Ph;split at Ph
  · rename_i hb;exact (Bool.and_eq_true _ _ ▸ hb:_∧_).1
  · exact absurd rfl Ph))
 have h2:=zC4 (zKW b) n ⟨0,0,0⟩;have h3:=zKX (b:=b) (m:=4000) hv;have h6:(n+1) * cn (zKW b) n ⟨0,0,0⟩≤13 * 4000:=Nat.mul_le_mul (by omega) (by omega)
 unfold trF;omega
theorem zKH {n:Nat} {b:Box} {xs:List Int} {hcp:Nat} (HX:GoodG b xs hcp) {f:Pt→Int} (hn:n≤12) (h:FnC n f) {ts:List Tr} (hG:Good ts) (ht:trF n f∈ts):(Tr.add (trF n (zr n b xs f)) ts).length≤ts.length+3900:=by
 have h1:=zCl (f:=f) (zJ9 HX h).range (zKW b) n ⟨0,0,0⟩ ts ts (by omega) (zA3 n) hG (List.prefix_refl _) hG ht (fun p _ Ph=>zIU (by
  unfold zr at Ph;split at Ph
  · rename_i hb;exact (Bool.and_eq_true _ _ ▸ hb:_∧_).1
  · exact absurd rfl Ph))
 have h2:=zC4 (zKW b) n ⟨0,0,0⟩
 have h3:(zKW b).length≤300:=by
  unfold zKW;rw [List.length_map,List.length_range,←HX.len];exact HX.le
 have h6:(n+1) * cn (zKW b) n ⟨0,0,0⟩≤13 * 300:=Nat.mul_le_mul (by omega) (by omega)
 unfold trF;omega
theorem zN3 : ∀ (l:List (Pt × Int)) (f:Pt→Int) (p:Pt),(∀ x∈l,x.1 ≠ p)→zAM l f p=f p
 | [],_,_,_=>rfl
 | x :: l, f, p, h => by
   unfold zAM;rw [List.foldl_cons];have:=zN3 l (Tr.upd f x.1 x.2) p fun y hy=>h y (by simp [hy])
   unfold zAM at this;rw [this];unfold Tr.upd;rw [if_neg (fun e=>h x (by simp) e.symm)]
theorem zOx {n:Nat} {l:List (Pt × Int)} {f:Pt→Int} (hn:n≤12) (hl : ∀ x∈l,inB x.1 (zOI n)=true∧0≤x.2∧x.2≤255) (h:FnC n f) {ts:List Tr} (hG:Good ts) (ht:trF n f∈ts):(Tr.add (trF n (zAM l f)) ts).length≤ts.length+13 * l.length:=by
 have h1:=zCl (f:=f) (zOs hl h).range (l.map (·.1)) n ⟨0,0,0⟩ ts ts (by omega) (zA3 n) hG (List.prefix_refl _) hG ht (fun p _ Ph=>Classical.byContradiction fun hp=>Ph (zN3 l f p fun x hx e=>hp (List.mem_map.2 ⟨x,hx,e⟩)))
 have h2:=zC4 (l.map (·.1)) n ⟨0,0,0⟩;rw [List.length_map] at h2;have h6:(n+1) * cn (l.map (·.1)) n ⟨0,0,0⟩≤13 * l.length:=Nat.mul_le_mul (by omega) h2
 unfold trF;omega
end
section
open Go.RowKit Go.Sort Go.Maps
open Oct
theorem Bk.putT {w:World} {g:Nat} {x y z u:Value} {t:TypeId} (h:Bk w g #[x,y,z,u] t) (a b c d:Value):Bk ((((w.setCell ⟨g,0,none⟩ a).setCell ⟨g,1,none⟩ b).setCell ⟨g,2,none⟩ c).setCell ⟨g,3,none⟩ d) g #[a,b,c,d] t:=by
 simpa using (((h.set 0 a).set 1 b).set 2 c).set 3 d
theorem zBl {B:Nat} {a w:World} (h:Below B a w) {g:Nat} (hg:B≤g) (x y z u:Value):Below B a ((((w.setCell ⟨g,0,none⟩ x).setCell ⟨g,1,none⟩ y).setCell ⟨g,2,none⟩ z).setCell ⟨g,3,none⟩ u) :=
 (((h.setCell hg _).setCell hg _).setCell hg _).setCell hg _
abbrev zO (x y z l:Int):Value:=.agg #[x,y,z,l]
theorem zOJ (n:Int) (w:World) :
 Calls Tryz.prog 70 #[n] w fun e w'=>e = .returned (zO 0 0 0 n)∧Below w.heap.size w w':=by
 go_enter Tryz.func70,Tryz.ntmps70;go_wp2;generalize hW:w.alloc _=W;have JE:=sz1 hW;have hB:=bl1 hW;have kr:Bk W (w.heap.size) #[(0:Int),(0:Int),(0:Int),n] 39:=bk0 hW;clear hW;exact bodyPost_ret (v:=zO 0 0 0 n) (results_cell_row rfl _ _ _ 39 #[(0:Int),(0:Int),(0:Int),n] (0,0) _ rfl kr Tryz.underlying39 rfl (by kernel_rfl)) rfl ⟨rfl,hB⟩
theorem zCq (h:Nat) (hh:h≤13) (px py pz m:Int) (hm:m=2 ^ h) (hx : -100000≤px∧px≤100000) (hy : -100000≤py∧py≤100000) (hz : -100000≤pz∧pz≤100000) (w:World) :
 Calls Tryz.prog 69 #[zO px py pz ((h+1:Nat):Int),(0:Int)] w fun e w'=>e = .returned (zO px py pz (h:Int))∧Below w.heap.size w w':=by
 have hp:=zu (n:=h) (by omega)
 have PV:=zt (n:=h) (by omega)
 rw [←hm] at PV;have QX:IntKind.i64.wrap ((2:Int) ^ h)=m:=by rw [hp,hm]
 have S8:IntKind.i64.wrap (((h+1:Nat):Int) - 1)=(h:Int):=by rw [show ((h+1:Nat):Int) - 1=(h:Int) by omega];exact wj _ (by omega)
 have b0:bits .and .i64 0 1=0:=by decide
 have b1:bits .and .i64 1 1=1:=by decide
 have b2:bits .and .i64 2 1=0:=by decide
 have b3:bits .and .i64 3 1=1:=by decide
 have b4:bits .and .i64 4 1=0:=by decide
 have b5:bits .and .i64 5 1=1:=by decide
 have b6:bits .and .i64 6 1=0:=by decide
 have b7:bits .and .i64 7 1=1:=by decide
 have w0:IntKind.i64.wrap 0=0:=by decide
 have Rd:=Bx.mk fun W=>zMA 0 0 0 m W;rw [Int.mul_zero] at Rd;rw [wi 0 (by omega)] at Rd
 have JZ:=Bx.mk fun W=>zA px py pz 0 0 0 W;rw [Int.add_zero px,Int.add_zero py,Int.add_zero pz] at JZ;rw [wi px (by omega),wi py (by omega),wi pz (by omega)] at JZ
 clear hp hm PV hx hy hz;go_enter Tryz.func69,Tryz.ntmps69;go_wp2_with fail;generalize hW:(w.alloc _).alloc _=W;have JE:=sz2 hW;have hB:=bl2 hW;have kp:Bk W (w.heap.size) #[px,py,pz,((h+1:Nat):Int)] 39:=bk1 hW;have kr:Bk W (w.heap.size+1) #[(0:Int),(0:Int),(0:Int),(0:Int)] 39:=bk0 hW;clear hW;have Fc:=kp.cell 3 rfl;go_wp2_with fail;clear Fc;obtain ⟨cp0,cp1,cp2⟩:=kp.r3;have q0:=Bx.mk fun dk osk=>rq (Rd.o (grow (redrawn W dk) osk));have q1:=Bx.mk fun dk osk=>rq (JZ.o (grow (redrawn W dk) osk));refine zAK 16 (by kernel_rfl) (by kernel_rfl) ?_
 simp only [List.take_succ_cons,List.take_zero,List.drop_succ_cons,List.drop_zero]
 repeat (first | go_big_quiet_step (with_reducible first | exact q0.o _ _ | exact q1.o _ _) | quiet_step (with_reducible first | exact q0.o _ _ | exact q1.o _ _))
 refine wq ?_;rintro _ ⟨⟨dq,osq⟩,rfl⟩;have hb:=bq W dq osq;replace hB:=tr hB hb;clear cp0 cp1 cp2;clear q0 q1;replace kp:=kp.la hb;replace kr:=kr.la hb;replace JE:=nlt JE hb.size;clear hb;generalize grow (redrawn W dq) osq=W1 at *;have Fj:=kr.cell 0 rfl;have GU:=kr.frozen 0;have Fk:=kr.cell 1 rfl;have GV:=kr.frozen 1;have Fl:=kr.cell 2 rfl;have GW:=kr.frozen 2;have Fm:=kr.cell 3 rfl;have GX:=kr.frozen 3;go_wp2_with fail;replace kr:=kr.putT (.int .i64 px) (.int .i64 py) (.int .i64 pz) (.int .i64 (h:Int));exact bodyPost_ret (v:=.agg #[px,py,pz,(h:Int)]) (results_cell_row rfl _ _ _ 39 #[px,py,pz,(h:Int)] (0,0) _ rfl kr Tryz.underlying39 rfl (by kernel_rfl)) rfl ⟨rfl,zBl hB (by omega) _ _ _ _⟩
theorem zCr (h:Nat) (hh:h≤13) (px py pz m:Int) (hm:m=2 ^ h) (hx : -100000≤px∧px≤100000) (hy : -100000≤py∧py≤100000) (hz : -100000≤pz∧pz≤100000) (w:World) :
 Calls Tryz.prog 69 #[zO px py pz ((h+1:Nat):Int),(1:Int)] w fun e w'=>e = .returned (zO (px+m) py pz (h:Int))∧Below w.heap.size w w':=by
 have hp:=zu (n:=h) (by omega)
 have PV:=zt (n:=h) (by omega)
 rw [←hm] at PV;have QX:IntKind.i64.wrap ((2:Int) ^ h)=m:=by rw [hp,hm]
 have S8:IntKind.i64.wrap (((h+1:Nat):Int) - 1)=(h:Int):=by rw [show ((h+1:Nat):Int) - 1=(h:Int) by omega];exact wj _ (by omega)
 have b0:bits .and .i64 0 1=0:=by decide
 have b1:bits .and .i64 1 1=1:=by decide
 have b2:bits .and .i64 2 1=0:=by decide
 have b3:bits .and .i64 3 1=1:=by decide
 have b4:bits .and .i64 4 1=0:=by decide
 have b5:bits .and .i64 5 1=1:=by decide
 have b6:bits .and .i64 6 1=0:=by decide
 have b7:bits .and .i64 7 1=1:=by decide
 have w0:IntKind.i64.wrap 0=0:=by decide
 have Rd:=Bx.mk fun W=>zMA 1 0 0 m W;rw [Int.mul_zero,Int.mul_one] at Rd;rw [wi 0 (by omega),wi m (by omega)] at Rd
 have JZ:=Bx.mk fun W=>zA px py pz m 0 0 W;rw [Int.add_zero py,Int.add_zero pz] at JZ;rw [wi (px+m) (by omega),wi py (by omega),wi pz (by omega)] at JZ
 clear hp hm PV hx hy hz;go_enter Tryz.func69,Tryz.ntmps69;go_wp2_with fail;generalize hW:(w.alloc _).alloc _=W;have JE:=sz2 hW;have hB:=bl2 hW;have kp:Bk W (w.heap.size) #[px,py,pz,((h+1:Nat):Int)] 39:=bk1 hW;have kr:Bk W (w.heap.size+1) #[(0:Int),(0:Int),(0:Int),(0:Int)] 39:=bk0 hW;clear hW;have Fc:=kp.cell 3 rfl;go_wp2_with fail;clear Fc;obtain ⟨cp0,cp1,cp2⟩:=kp.r3;have q0:=Bx.mk fun dk osk=>rq (Rd.o (grow (redrawn W dk) osk));have q1:=Bx.mk fun dk osk=>rq (JZ.o (grow (redrawn W dk) osk));refine zAK 16 (by kernel_rfl) (by kernel_rfl) ?_
 simp only [List.take_succ_cons,List.take_zero,List.drop_succ_cons,List.drop_zero]
 repeat (first | go_big_quiet_step (with_reducible first | exact q0.o _ _ | exact q1.o _ _) | quiet_step (with_reducible first | exact q0.o _ _ | exact q1.o _ _))
 refine wq ?_;rintro _ ⟨⟨dq,osq⟩,rfl⟩;have hb:=bq W dq osq;replace hB:=tr hB hb;clear cp0 cp1 cp2;clear q0 q1;replace kp:=kp.la hb;replace kr:=kr.la hb;replace JE:=nlt JE hb.size;clear hb;generalize grow (redrawn W dq) osq=W1 at *;have Fj:=kr.cell 0 rfl;have GU:=kr.frozen 0;have Fk:=kr.cell 1 rfl;have GV:=kr.frozen 1;have Fl:=kr.cell 2 rfl;have GW:=kr.frozen 2;have Fm:=kr.cell 3 rfl;have GX:=kr.frozen 3;go_wp2_with fail;replace kr:=kr.putT (.int .i64 (px+m)) (.int .i64 py) (.int .i64 pz) (.int .i64 (h:Int));exact bodyPost_ret (v:=.agg #[(px+m:Int),py,pz,(h:Int)]) (results_cell_row rfl _ _ _ 39 #[(px+m:Int),py,pz,(h:Int)] (0,0) _ rfl kr Tryz.underlying39 rfl (by kernel_rfl)) rfl ⟨rfl,zBl hB (by omega) _ _ _ _⟩
theorem zCs (h:Nat) (hh:h≤13) (px py pz m:Int) (hm:m=2 ^ h) (hx : -100000≤px∧px≤100000) (hy : -100000≤py∧py≤100000) (hz : -100000≤pz∧pz≤100000) (w:World) :
 Calls Tryz.prog 69 #[zO px py pz ((h+1:Nat):Int),(2:Int)] w fun e w'=>e = .returned (zO px (py+m) pz (h:Int))∧Below w.heap.size w w':=by
 have hp:=zu (n:=h) (by omega)
 have PV:=zt (n:=h) (by omega)
 rw [←hm] at PV;have QX:IntKind.i64.wrap ((2:Int) ^ h)=m:=by rw [hp,hm]
 have S8:IntKind.i64.wrap (((h+1:Nat):Int) - 1)=(h:Int):=by rw [show ((h+1:Nat):Int) - 1=(h:Int) by omega];exact wj _ (by omega)
 have b0:bits .and .i64 0 1=0:=by decide
 have b1:bits .and .i64 1 1=1:=by decide
 have b2:bits .and .i64 2 1=0:=by decide
 have b3:bits .and .i64 3 1=1:=by decide
 have b4:bits .and .i64 4 1=0:=by decide
 have b5:bits .and .i64 5 1=1:=by decide
 have b6:bits .and .i64 6 1=0:=by decide
 have b7:bits .and .i64 7 1=1:=by decide
 have w0:IntKind.i64.wrap 0=0:=by decide
 have Rd:=Bx.mk fun W=>zMA 0 1 0 m W;rw [Int.mul_zero,Int.mul_one] at Rd;rw [wi 0 (by omega),wi m (by omega)] at Rd
 have JZ:=Bx.mk fun W=>zA px py pz 0 m 0 W;rw [Int.add_zero px,Int.add_zero pz] at JZ;rw [wi px (by omega),wi (py+m) (by omega),wi pz (by omega)] at JZ
 clear hp hm PV hx hy hz;go_enter Tryz.func69,Tryz.ntmps69;go_wp2_with fail;generalize hW:(w.alloc _).alloc _=W;have JE:=sz2 hW;have hB:=bl2 hW;have kp:Bk W (w.heap.size) #[px,py,pz,((h+1:Nat):Int)] 39:=bk1 hW;have kr:Bk W (w.heap.size+1) #[(0:Int),(0:Int),(0:Int),(0:Int)] 39:=bk0 hW;clear hW;have Fc:=kp.cell 3 rfl;go_wp2_with fail;clear Fc;obtain ⟨cp0,cp1,cp2⟩:=kp.r3;have q0:=Bx.mk fun dk osk=>rq (Rd.o (grow (redrawn W dk) osk));have q1:=Bx.mk fun dk osk=>rq (JZ.o (grow (redrawn W dk) osk));refine zAK 16 (by kernel_rfl) (by kernel_rfl) ?_
 simp only [List.take_succ_cons,List.take_zero,List.drop_succ_cons,List.drop_zero]
 repeat (first | go_big_quiet_step (with_reducible first | exact q0.o _ _ | exact q1.o _ _) | quiet_step (with_reducible first | exact q0.o _ _ | exact q1.o _ _))
 refine wq ?_;rintro _ ⟨⟨dq,osq⟩,rfl⟩;have hb:=bq W dq osq;replace hB:=tr hB hb;clear cp0 cp1 cp2;clear q0 q1;replace kp:=kp.la hb;replace kr:=kr.la hb;replace JE:=nlt JE hb.size;clear hb;generalize grow (redrawn W dq) osq=W1 at *;have Fj:=kr.cell 0 rfl;have GU:=kr.frozen 0;have Fk:=kr.cell 1 rfl;have GV:=kr.frozen 1;have Fl:=kr.cell 2 rfl;have GW:=kr.frozen 2;have Fm:=kr.cell 3 rfl;have GX:=kr.frozen 3;go_wp2_with fail;replace kr:=kr.putT (.int .i64 px) (.int .i64 (py+m)) (.int .i64 pz) (.int .i64 (h:Int));exact bodyPost_ret (v:=.agg #[px,(py+m:Int),pz,(h:Int)]) (results_cell_row rfl _ _ _ 39 #[px,(py+m:Int),pz,(h:Int)] (0,0) _ rfl kr Tryz.underlying39 rfl (by kernel_rfl)) rfl ⟨rfl,zBl hB (by omega) _ _ _ _⟩
theorem zCt (h:Nat) (hh:h≤13) (px py pz m:Int) (hm:m=2 ^ h) (hx : -100000≤px∧px≤100000) (hy : -100000≤py∧py≤100000) (hz : -100000≤pz∧pz≤100000) (w:World) :
 Calls Tryz.prog 69 #[zO px py pz ((h+1:Nat):Int),(3:Int)] w fun e w'=>e = .returned (zO (px+m) (py+m) pz (h:Int))∧Below w.heap.size w w':=by
 have hp:=zu (n:=h) (by omega)
 have PV:=zt (n:=h) (by omega)
 rw [←hm] at PV;have QX:IntKind.i64.wrap ((2:Int) ^ h)=m:=by rw [hp,hm]
 have S8:IntKind.i64.wrap (((h+1:Nat):Int) - 1)=(h:Int):=by rw [show ((h+1:Nat):Int) - 1=(h:Int) by omega];exact wj _ (by omega)
 have b0:bits .and .i64 0 1=0:=by decide
 have b1:bits .and .i64 1 1=1:=by decide
 have b2:bits .and .i64 2 1=0:=by decide
 have b3:bits .and .i64 3 1=1:=by decide
 have b4:bits .and .i64 4 1=0:=by decide
 have b5:bits .and .i64 5 1=1:=by decide
 have b6:bits .and .i64 6 1=0:=by decide
 have b7:bits .and .i64 7 1=1:=by decide
 have w0:IntKind.i64.wrap 0=0:=by decide
 have Rd:=Bx.mk fun W=>zMA 1 1 0 m W;rw [Int.mul_zero,Int.mul_one] at Rd;rw [wi 0 (by omega),wi m (by omega)] at Rd
 have JZ:=Bx.mk fun W=>zA px py pz m m 0 W;rw [Int.add_zero pz] at JZ;rw [wi (px+m) (by omega),wi (py+m) (by omega),wi pz (by omega)] at JZ
 clear hp hm PV hx hy hz;go_enter Tryz.func69,Tryz.ntmps69;go_wp2_with fail;generalize hW:(w.alloc _).alloc _=W;have JE:=sz2 hW;have hB:=bl2 hW;have kp:Bk W (w.heap.size) #[px,py,pz,((h+1:Nat):Int)] 39:=bk1 hW;have kr:Bk W (w.heap.size+1) #[(0:Int),(0:Int),(0:Int),(0:Int)] 39:=bk0 hW;clear hW;have Fc:=kp.cell 3 rfl;go_wp2_with fail;clear Fc;obtain ⟨cp0,cp1,cp2⟩:=kp.r3;have q0:=Bx.mk fun dk osk=>rq (Rd.o (grow (redrawn W dk) osk));have q1:=Bx.mk fun dk osk=>rq (JZ.o (grow (redrawn W dk) osk));refine zAK 16 (by kernel_rfl) (by kernel_rfl) ?_
 simp only [List.take_succ_cons,List.take_zero,List.drop_succ_cons,List.drop_zero]
 repeat (first | go_big_quiet_step (with_reducible first | exact q0.o _ _ | exact q1.o _ _) | quiet_step (with_reducible first | exact q0.o _ _ | exact q1.o _ _))
 refine wq ?_;rintro _ ⟨⟨dq,osq⟩,rfl⟩;have hb:=bq W dq osq;replace hB:=tr hB hb;clear cp0 cp1 cp2;clear q0 q1;replace kp:=kp.la hb;replace kr:=kr.la hb;replace JE:=nlt JE hb.size;clear hb;generalize grow (redrawn W dq) osq=W1 at *;have Fj:=kr.cell 0 rfl;have GU:=kr.frozen 0;have Fk:=kr.cell 1 rfl;have GV:=kr.frozen 1;have Fl:=kr.cell 2 rfl;have GW:=kr.frozen 2;have Fm:=kr.cell 3 rfl;have GX:=kr.frozen 3;go_wp2_with fail;replace kr:=kr.putT (.int .i64 (px+m)) (.int .i64 (py+m)) (.int .i64 pz) (.int .i64 (h:Int));exact bodyPost_ret (v:=.agg #[(px+m:Int),(py+m:Int),pz,(h:Int)]) (results_cell_row rfl _ _ _ 39 #[(px+m:Int),(py+m:Int),pz,(h:Int)] (0,0) _ rfl kr Tryz.underlying39 rfl (by kernel_rfl)) rfl ⟨rfl,zBl hB (by omega) _ _ _ _⟩
theorem zCu (h:Nat) (hh:h≤13) (px py pz m:Int) (hm:m=2 ^ h) (hx : -100000≤px∧px≤100000) (hy : -100000≤py∧py≤100000) (hz : -100000≤pz∧pz≤100000) (w:World) :
 Calls Tryz.prog 69 #[zO px py pz ((h+1:Nat):Int),(4:Int)] w fun e w'=>e = .returned (zO px py (pz+m) (h:Int))∧Below w.heap.size w w':=by
 have hp:=zu (n:=h) (by omega)
 have PV:=zt (n:=h) (by omega)
 rw [←hm] at PV;have QX:IntKind.i64.wrap ((2:Int) ^ h)=m:=by rw [hp,hm]
 have S8:IntKind.i64.wrap (((h+1:Nat):Int) - 1)=(h:Int):=by rw [show ((h+1:Nat):Int) - 1=(h:Int) by omega];exact wj _ (by omega)
 have b0:bits .and .i64 0 1=0:=by decide
 have b1:bits .and .i64 1 1=1:=by decide
 have b2:bits .and .i64 2 1=0:=by decide
 have b3:bits .and .i64 3 1=1:=by decide
 have b4:bits .and .i64 4 1=0:=by decide
 have b5:bits .and .i64 5 1=1:=by decide
 have b6:bits .and .i64 6 1=0:=by decide
 have b7:bits .and .i64 7 1=1:=by decide
 have w0:IntKind.i64.wrap 0=0:=by decide
 have Rd:=Bx.mk fun W=>zMA 0 0 1 m W;rw [Int.mul_zero,Int.mul_one] at Rd;rw [wi 0 (by omega),wi m (by omega)] at Rd
 have JZ:=Bx.mk fun W=>zA px py pz 0 0 m W;rw [Int.add_zero px,Int.add_zero py] at JZ;rw [wi px (by omega),wi py (by omega),wi (pz+m) (by omega)] at JZ
 clear hp hm PV hx hy hz;go_enter Tryz.func69,Tryz.ntmps69;go_wp2_with fail;generalize hW:(w.alloc _).alloc _=W;have JE:=sz2 hW;have hB:=bl2 hW;have kp:Bk W (w.heap.size) #[px,py,pz,((h+1:Nat):Int)] 39:=bk1 hW;have kr:Bk W (w.heap.size+1) #[(0:Int),(0:Int),(0:Int),(0:Int)] 39:=bk0 hW;clear hW;have Fc:=kp.cell 3 rfl;go_wp2_with fail;clear Fc;obtain ⟨cp0,cp1,cp2⟩:=kp.r3;have q0:=Bx.mk fun dk osk=>rq (Rd.o (grow (redrawn W dk) osk));have q1:=Bx.mk fun dk osk=>rq (JZ.o (grow (redrawn W dk) osk));refine zAK 16 (by kernel_rfl) (by kernel_rfl) ?_
 simp only [List.take_succ_cons,List.take_zero,List.drop_succ_cons,List.drop_zero]
 repeat (first | go_big_quiet_step (with_reducible first | exact q0.o _ _ | exact q1.o _ _) | quiet_step (with_reducible first | exact q0.o _ _ | exact q1.o _ _))
 refine wq ?_;rintro _ ⟨⟨dq,osq⟩,rfl⟩;have hb:=bq W dq osq;replace hB:=tr hB hb;clear cp0 cp1 cp2;clear q0 q1;replace kp:=kp.la hb;replace kr:=kr.la hb;replace JE:=nlt JE hb.size;clear hb;generalize grow (redrawn W dq) osq=W1 at *;have Fj:=kr.cell 0 rfl;have GU:=kr.frozen 0;have Fk:=kr.cell 1 rfl;have GV:=kr.frozen 1;have Fl:=kr.cell 2 rfl;have GW:=kr.frozen 2;have Fm:=kr.cell 3 rfl;have GX:=kr.frozen 3;go_wp2_with fail;replace kr:=kr.putT (.int .i64 px) (.int .i64 py) (.int .i64 (pz+m)) (.int .i64 (h:Int));exact bodyPost_ret (v:=.agg #[px,py,(pz+m:Int),(h:Int)]) (results_cell_row rfl _ _ _ 39 #[px,py,(pz+m:Int),(h:Int)] (0,0) _ rfl kr Tryz.underlying39 rfl (by kernel_rfl)) rfl ⟨rfl,zBl hB (by omega) _ _ _ _⟩
theorem zCv (h:Nat) (hh:h≤13) (px py pz m:Int) (hm:m=2 ^ h) (hx : -100000≤px∧px≤100000) (hy : -100000≤py∧py≤100000) (hz : -100000≤pz∧pz≤100000) (w:World) :
 Calls Tryz.prog 69 #[zO px py pz ((h+1:Nat):Int),(5:Int)] w fun e w'=>e = .returned (zO (px+m) py (pz+m) (h:Int))∧Below w.heap.size w w':=by
 have hp:=zu (n:=h) (by omega)
 have PV:=zt (n:=h) (by omega)
 rw [←hm] at PV;have QX:IntKind.i64.wrap ((2:Int) ^ h)=m:=by rw [hp,hm]
 have S8:IntKind.i64.wrap (((h+1:Nat):Int) - 1)=(h:Int):=by rw [show ((h+1:Nat):Int) - 1=(h:Int) by omega];exact wj _ (by omega)
 have b0:bits .and .i64 0 1=0:=by decide
 have b1:bits .and .i64 1 1=1:=by decide
 have b2:bits .and .i64 2 1=0:=by decide
 have b3:bits .and .i64 3 1=1:=by decide
 have b4:bits .and .i64 4 1=0:=by decide
 have b5:bits .and .i64 5 1=1:=by decide
 have b6:bits .and .i64 6 1=0:=by decide
 have b7:bits .and .i64 7 1=1:=by decide
 have w0:IntKind.i64.wrap 0=0:=by decide
 have Rd:=Bx.mk fun W=>zMA 1 0 1 m W;rw [Int.mul_zero,Int.mul_one] at Rd;rw [wi 0 (by omega),wi m (by omega)] at Rd
 have JZ:=Bx.mk fun W=>zA px py pz m 0 m W;rw [Int.add_zero py] at JZ;rw [wi (px+m) (by omega),wi py (by omega),wi (pz+m) (by omega)] at JZ
 clear hp hm PV hx hy hz;go_enter Tryz.func69,Tryz.ntmps69;go_wp2_with fail;generalize hW:(w.alloc _).alloc _=W;have JE:=sz2 hW;have hB:=bl2 hW;have kp:Bk W (w.heap.size) #[px,py,pz,((h+1:Nat):Int)] 39:=bk1 hW;have kr:Bk W (w.heap.size+1) #[(0:Int),(0:Int),(0:Int),(0:Int)] 39:=bk0 hW;clear hW;have Fc:=kp.cell 3 rfl;go_wp2_with fail;clear Fc;obtain ⟨cp0,cp1,cp2⟩:=kp.r3;have q0:=Bx.mk fun dk osk=>rq (Rd.o (grow (redrawn W dk) osk));have q1:=Bx.mk fun dk osk=>rq (JZ.o (grow (redrawn W dk) osk));refine zAK 16 (by kernel_rfl) (by kernel_rfl) ?_
 simp only [List.take_succ_cons,List.take_zero,List.drop_succ_cons,List.drop_zero]
 repeat (first | go_big_quiet_step (with_reducible first | exact q0.o _ _ | exact q1.o _ _) | quiet_step (with_reducible first | exact q0.o _ _ | exact q1.o _ _))
 refine wq ?_;rintro _ ⟨⟨dq,osq⟩,rfl⟩;have hb:=bq W dq osq;replace hB:=tr hB hb;clear cp0 cp1 cp2;clear q0 q1;replace kp:=kp.la hb;replace kr:=kr.la hb;replace JE:=nlt JE hb.size;clear hb;generalize grow (redrawn W dq) osq=W1 at *;have Fj:=kr.cell 0 rfl;have GU:=kr.frozen 0;have Fk:=kr.cell 1 rfl;have GV:=kr.frozen 1;have Fl:=kr.cell 2 rfl;have GW:=kr.frozen 2;have Fm:=kr.cell 3 rfl;have GX:=kr.frozen 3;go_wp2_with fail;replace kr:=kr.putT (.int .i64 (px+m)) (.int .i64 py) (.int .i64 (pz+m)) (.int .i64 (h:Int));exact bodyPost_ret (v:=.agg #[(px+m:Int),py,(pz+m:Int),(h:Int)]) (results_cell_row rfl _ _ _ 39 #[(px+m:Int),py,(pz+m:Int),(h:Int)] (0,0) _ rfl kr Tryz.underlying39 rfl (by kernel_rfl)) rfl ⟨rfl,zBl hB (by omega) _ _ _ _⟩
theorem zCw (h:Nat) (hh:h≤13) (px py pz m:Int) (hm:m=2 ^ h) (hx : -100000≤px∧px≤100000) (hy : -100000≤py∧py≤100000) (hz : -100000≤pz∧pz≤100000) (w:World) :
 Calls Tryz.prog 69 #[zO px py pz ((h+1:Nat):Int),(6:Int)] w fun e w'=>e = .returned (zO px (py+m) (pz+m) (h:Int))∧Below w.heap.size w w':=by
 have hp:=zu (n:=h) (by omega)
 have PV:=zt (n:=h) (by omega)
 rw [←hm] at PV;have QX:IntKind.i64.wrap ((2:Int) ^ h)=m:=by rw [hp,hm]
 have S8:IntKind.i64.wrap (((h+1:Nat):Int) - 1)=(h:Int):=by rw [show ((h+1:Nat):Int) - 1=(h:Int) by omega];exact wj _ (by omega)
 have b0:bits .and .i64 0 1=0:=by decide
 have b1:bits .and .i64 1 1=1:=by decide
 have b2:bits .and .i64 2 1=0:=by decide
 have b3:bits .and .i64 3 1=1:=by decide
 have b4:bits .and .i64 4 1=0:=by decide
 have b5:bits .and .i64 5 1=1:=by decide
 have b6:bits .and .i64 6 1=0:=by decide
 have b7:bits .and .i64 7 1=1:=by decide
 have w0:IntKind.i64.wrap 0=0:=by decide
 have Rd:=Bx.mk fun W=>zMA 0 1 1 m W;rw [Int.mul_zero,Int.mul_one] at Rd;rw [wi 0 (by omega),wi m (by omega)] at Rd
 have JZ:=Bx.mk fun W=>zA px py pz 0 m m W;rw [Int.add_zero px] at JZ;rw [wi px (by omega),wi (py+m) (by omega),wi (pz+m) (by omega)] at JZ
 clear hp hm PV hx hy hz;go_enter Tryz.func69,Tryz.ntmps69;go_wp2_with fail;generalize hW:(w.alloc _).alloc _=W;have JE:=sz2 hW;have hB:=bl2 hW;have kp:Bk W (w.heap.size) #[px,py,pz,((h+1:Nat):Int)] 39:=bk1 hW;have kr:Bk W (w.heap.size+1) #[(0:Int),(0:Int),(0:Int),(0:Int)] 39:=bk0 hW;clear hW;have Fc:=kp.cell 3 rfl;go_wp2_with fail;clear Fc;obtain ⟨cp0,cp1,cp2⟩:=kp.r3;have q0:=Bx.mk fun dk osk=>rq (Rd.o (grow (redrawn W dk) osk));have q1:=Bx.mk fun dk osk=>rq (JZ.o (grow (redrawn W dk) osk));refine zAK 16 (by kernel_rfl) (by kernel_rfl) ?_
 simp only [List.take_succ_cons,List.take_zero,List.drop_succ_cons,List.drop_zero]
 repeat (first | go_big_quiet_step (with_reducible first | exact q0.o _ _ | exact q1.o _ _) | quiet_step (with_reducible first | exact q0.o _ _ | exact q1.o _ _))
 refine wq ?_;rintro _ ⟨⟨dq,osq⟩,rfl⟩;have hb:=bq W dq osq;replace hB:=tr hB hb;clear cp0 cp1 cp2;clear q0 q1;replace kp:=kp.la hb;replace kr:=kr.la hb;replace JE:=nlt JE hb.size;clear hb;generalize grow (redrawn W dq) osq=W1 at *;have Fj:=kr.cell 0 rfl;have GU:=kr.frozen 0;have Fk:=kr.cell 1 rfl;have GV:=kr.frozen 1;have Fl:=kr.cell 2 rfl;have GW:=kr.frozen 2;have Fm:=kr.cell 3 rfl;have GX:=kr.frozen 3;go_wp2_with fail;replace kr:=kr.putT (.int .i64 px) (.int .i64 (py+m)) (.int .i64 (pz+m)) (.int .i64 (h:Int));exact bodyPost_ret (v:=.agg #[px,(py+m:Int),(pz+m:Int),(h:Int)]) (results_cell_row rfl _ _ _ 39 #[px,(py+m:Int),(pz+m:Int),(h:Int)] (0,0) _ rfl kr Tryz.underlying39 rfl (by kernel_rfl)) rfl ⟨rfl,zBl hB (by omega) _ _ _ _⟩
theorem zCx (h:Nat) (hh:h≤13) (px py pz m:Int) (hm:m=2 ^ h) (hx : -100000≤px∧px≤100000) (hy : -100000≤py∧py≤100000) (hz : -100000≤pz∧pz≤100000) (w:World) :
 Calls Tryz.prog 69 #[zO px py pz ((h+1:Nat):Int),(7:Int)] w fun e w'=>e = .returned (zO (px+m) (py+m) (pz+m) (h:Int))∧Below w.heap.size w w':=by
 have hp:=zu (n:=h) (by omega)
 have PV:=zt (n:=h) (by omega)
 rw [←hm] at PV;have QX:IntKind.i64.wrap ((2:Int) ^ h)=m:=by rw [hp,hm]
 have S8:IntKind.i64.wrap (((h+1:Nat):Int) - 1)=(h:Int):=by rw [show ((h+1:Nat):Int) - 1=(h:Int) by omega];exact wj _ (by omega)
 have b0:bits .and .i64 0 1=0:=by decide
 have b1:bits .and .i64 1 1=1:=by decide
 have b2:bits .and .i64 2 1=0:=by decide
 have b3:bits .and .i64 3 1=1:=by decide
 have b4:bits .and .i64 4 1=0:=by decide
 have b5:bits .and .i64 5 1=1:=by decide
 have b6:bits .and .i64 6 1=0:=by decide
 have b7:bits .and .i64 7 1=1:=by decide
 have w0:IntKind.i64.wrap 0=0:=by decide
 have Rd:=Bx.mk fun W=>zMA 1 1 1 m W;rw [Int.mul_one] at Rd;rw [wi m (by omega)] at Rd
 have JZ:=Bx.mk fun W=>zA px py pz m m m W;rw [wi (px+m) (by omega),wi (py+m) (by omega),wi (pz+m) (by omega)] at JZ
 clear hp hm PV hx hy hz;go_enter Tryz.func69,Tryz.ntmps69;go_wp2_with fail;generalize hW:(w.alloc _).alloc _=W;have JE:=sz2 hW;have hB:=bl2 hW;have kp:Bk W (w.heap.size) #[px,py,pz,((h+1:Nat):Int)] 39:=bk1 hW;have kr:Bk W (w.heap.size+1) #[(0:Int),(0:Int),(0:Int),(0:Int)] 39:=bk0 hW;clear hW;have Fc:=kp.cell 3 rfl;go_wp2_with fail;clear Fc;obtain ⟨cp0,cp1,cp2⟩:=kp.r3;have q0:=Bx.mk fun dk osk=>rq (Rd.o (grow (redrawn W dk) osk));have q1:=Bx.mk fun dk osk=>rq (JZ.o (grow (redrawn W dk) osk));refine zAK 16 (by kernel_rfl) (by kernel_rfl) ?_
 simp only [List.take_succ_cons,List.take_zero,List.drop_succ_cons,List.drop_zero]
 repeat (first | go_big_quiet_step (with_reducible first | exact q0.o _ _ | exact q1.o _ _) | quiet_step (with_reducible first | exact q0.o _ _ | exact q1.o _ _))
 refine wq ?_;rintro _ ⟨⟨dq,osq⟩,rfl⟩;have hb:=bq W dq osq;replace hB:=tr hB hb;clear cp0 cp1 cp2;clear q0 q1;replace kp:=kp.la hb;replace kr:=kr.la hb;replace JE:=nlt JE hb.size;clear hb;generalize grow (redrawn W dq) osq=W1 at *;have Fj:=kr.cell 0 rfl;have GU:=kr.frozen 0;have Fk:=kr.cell 1 rfl;have GV:=kr.frozen 1;have Fl:=kr.cell 2 rfl;have GW:=kr.frozen 2;have Fm:=kr.cell 3 rfl;have GX:=kr.frozen 3;go_wp2_with fail;replace kr:=kr.putT (.int .i64 (px+m)) (.int .i64 (py+m)) (.int .i64 (pz+m)) (.int .i64 (h:Int));exact bodyPost_ret (v:=.agg #[(px+m:Int),(py+m:Int),(pz+m:Int),(h:Int)]) (results_cell_row rfl _ _ _ 39 #[(px+m:Int),(py+m:Int),(pz+m:Int),(h:Int)] (0,0) _ rfl kr Tryz.underlying39 rfl (by kernel_rfl)) rfl ⟨rfl,zBl hB (by omega) _ _ _ _⟩
theorem zCy (h:Nat) (hh:h≤13) (px py pz:Int) (i:Nat) (hi:i<8) (hx : -100000≤px∧px≤100000) (hy : -100000≤py∧py≤100000) (hz : -100000≤pz∧pz≤100000) (w:World) :
 Calls Tryz.prog 69 #[zO px py pz ((h+1:Nat):Int),(i:Int)] w fun e w'=>e = .returned (zO (px+chX i (2 ^ h)) (py+chY i (2 ^ h)) (pz+chZ i (2 ^ h)) (h:Int))∧Below w.heap.size w w':=by
 have hc:i=0∨i=1∨i=2∨i=3∨i=4∨i=5∨i=6∨i=7:=by omega
 rcases hc with rfl | rfl | rfl | rfl | rfl | rfl | rfl | rfl
 · have:=zCq h hh px py pz _ rfl hx hy hz w;simpa [chX,chY,chZ] using this
 · have:=zCr h hh px py pz _ rfl hx hy hz w;simpa [chX,chY,chZ] using this
 · have:=zCs h hh px py pz _ rfl hx hy hz w;simpa [chX,chY,chZ] using this
 · have:=zCt h hh px py pz _ rfl hx hy hz w;simpa [chX,chY,chZ] using this
 · have:=zCu h hh px py pz _ rfl hx hy hz w;simpa [chX,chY,chZ] using this
 · have:=zCv h hh px py pz _ rfl hx hy hz w;simpa [chX,chY,chZ] using this
 · have:=zCw h hh px py pz _ rfl hx hy hz w;simpa [chX,chY,chZ] using this
 · have:=zCx h hh px py pz _ rfl hx hy hz w;simpa [chX,chY,chZ] using this
theorem zBo (n:Nat) (hn:n≤14) (px py pz m:Int) (hm:m=2 ^ n) (hx : -100000≤px∧px≤100000) (hy : -100000≤py∧py≤100000) (hz : -100000≤pz∧pz≤100000) (w:World) :
 Calls Tryz.prog 73 #[zO px py pz (n:Int)] w fun e w'=>e = .returned (.agg #[px,py,pz,(px+m:Int),(py+m:Int),(pz+m:Int)])∧Below w.heap.size w w':=by
 have hp:=zu hn;have PV:=zt hn;rw [←hm] at hp PV;have Rj:=Bx.mk fun W=>zMG 0 0 0 m m m px py pz W
 rw [Int.zero_add,Int.zero_add,Int.zero_add,wi px (by omega),wi py (by omega),wi pz (by omega),Int.add_comm m px,Int.add_comm m py,Int.add_comm m pz,
  wi (px+m) (by omega),wi (py+m) (by omega),wi (pz+m) (by omega)] at Rj
 have QX:IntKind.i64.wrap ((2:Int) ^ n)=m:=by rw [←hm];exact hp
 clear hm PV hx hy hz;go_enter Tryz.func73,Tryz.ntmps73;go_wp2_with fail;generalize hW:(w.alloc _).alloc _=W;have JE:=sz2 hW;have hB:=bl2 hW;have kp:Bk W (w.heap.size) #[px,py,pz,(n:Int)] 39:=bk1 hW;have kr:Bk W (w.heap.size+1) #[(0:Int),(0:Int),(0:Int),(0:Int),(0:Int),(0:Int)] 25:=bk0 hW;clear hW;obtain ⟨cp0,cp1,cp2,Fc⟩:=kp.r4;have q0:=Bx.mk fun dk osk=>rq (zDz m (grow (redrawn W dk) osk));have q1:=Bx.mk fun dk osk=>rq (Rj.o (grow (redrawn W dk) osk));refine zAK 7 (by kernel_rfl) (by kernel_rfl) ?_
 simp only [List.take_succ_cons,List.take_zero,List.drop_succ_cons,List.drop_zero]
 repeat (first | go_big_quiet_step (with_reducible first | exact q0.o _ _ | exact q1.o _ _) | quiet_step (with_reducible first | exact q0.o _ _ | exact q1.o _ _))
 refine wq ?_;rintro _ ⟨⟨dq,osq⟩,rfl⟩;have hb:=bq W dq osq;replace hB:=tr hB hb;clear cp0 cp1 cp2 Fc;clear q0;clear q1;replace kp:=kp.la hb;replace kr:=kr.la hb;replace JE:=nlt JE hb.size;clear hb;generalize grow (redrawn W dq) osq=W1 at *;have Fj:=kr.cell 0 rfl;have GU:=kr.frozen 0;have Fk:=kr.cell 1 rfl;have GV:=kr.frozen 1;have Fl:=kr.cell 2 rfl;have GW:=kr.frozen 2;have Fm:=kr.cell 3 rfl;have GX:=kr.frozen 3;have Fn:=kr.cell 4 rfl;have GY:=kr.frozen 4;have Fo:=kr.cell 5 rfl;have GZ:=kr.frozen 5;go_wp2_with fail;replace kr:=kr.put6 (.int .i64 px) (.int .i64 py) (.int .i64 pz) (.int .i64 (px+m)) (.int .i64 (py+m)) (.int .i64 (pz+m));exact bodyPost_ret (v:=.agg #[px,py,pz,(px+m:Int),(py+m:Int),(pz+m:Int)]) (results_cell_row rfl _ _ _ 25 #[px,py,pz,(px+m:Int),(py+m:Int),(pz+m:Int)] (0,0) _ rfl kr Tryz.underlying25 rfl (by kernel_rfl)) rfl ⟨rfl,zBm hB (by omega) _ _ _ _ _ _⟩
def zCE:Tr→List Int
 | .uni c=>List.replicate 64 c
 | .brick l=>l
 | .node _ _=>[]
def zi:Tr→Int
 | .uni _=>1
 | .brick _=>2
 | .node _ _=>3
theorem zj (Far:Nat→Prop) (sb:Nat) (UA:Int) (ts:List Tr) (t:Tr) (ht:t∈ts) (Od:ts.length≤4194304) (w:World) (hS:StoreIs w Far sb UA ts) :
 Calls Tryz.prog 39 #[.pointer (some ⟨sb,0,none⟩),(idT ts t:Int)] w fun e w'=>e = .returned (.int .i64 (zi t))∧w=w' :=
 zHO Far sb UA ts _ t (zGM ht) (zi t) (by cases t <;> rfl) Od w hS
noncomputable abbrev zHJ (ts:List Tr) (t:Tr):Value:=.agg #[(idT ts (t.kid 0):Int),(idT ts (t.kid 1):Int),(idT ts (t.kid 2):Int),(idT ts (t.kid 3):Int),(idT ts (t.kid 4):Int),(idT ts (t.kid 5):Int),(idT ts (t.kid 6):Int),(idT ts (t.kid 7):Int)]
theorem zMq (Far:Nat→Prop) (sb:Nat) (UA:Int) (ts:List Tr) (d:Nat) (ch:Fin 8→Tr) (ht:Tr.node d ch∈ts) (w:World) (hS:StoreIs w Far sb UA ts) :
 Calls Tryz.prog 65 #[.pointer (some ⟨sb,0,none⟩),(idT ts (.node d ch):Int)] w fun e w'=>e = .returned (zHJ ts (.node d ch))∧Below w.heap.size w w' :=
 zCz Far sb UA ts _ (.node d ch) (zGM ht) _ _ _ _ _ _ _ _ (fun j u hu=>by
  match j with
  | 0=>simp at hu;subst hu;rfl
  | 1=>simp at hu;subst hu;rfl
  | 2=>simp at hu;subst hu;rfl
  | 3=>simp at hu;subst hu;rfl
  | 4=>simp at hu;subst hu;rfl
  | 5=>simp at hu;subst hu;rfl
  | 6=>simp at hu;subst hu;rfl
  | 7=>simp at hu;subst hu;rfl
  | j+8=>simp at hu) w hS
theorem bk8 {w:World} {g:Nat} {x0 x1 x2 x3 x4 x5 x6 x7:Value} {t:TypeId} (h:Bk w g #[x0,x1,x2,x3,x4,x5,x6,x7] t) (a b c d e f i j:Value):Bk ((((((((w.setCell ⟨g,0,none⟩ a).setCell ⟨g,1,none⟩ b).setCell ⟨g,2,none⟩ c).setCell ⟨g,3,none⟩ d).setCell ⟨g,4,none⟩ e).setCell ⟨g,5,none⟩ f).setCell ⟨g,6,none⟩ i).setCell ⟨g,7,none⟩ j) g #[a,b,c,d,e,f,i,j] t:=by
 simpa using (((((((h.set 0 a).set 1 b).set 2 c).set 3 d).set 4 e).set 5 f).set 6 i).set 7 j
theorem zHM (Far:Nat→Prop) (sb:Nat) (UA:Int) (ts:List Tr) (d:Nat) (ch:Fin 8→Tr) (ht:Tr.node d ch∈ts) (Od:ts.length≤4194304) (w:World) (hS:StoreIs w Far sb UA ts) :
 Calls Tryz.prog 68 #[.pointer (some ⟨sb,0,none⟩),(idT ts (.node d ch):Int)] w fun e w'=>e = .returned (zHJ ts (.node d ch))∧Below w.heap.size w w':=by
 have hk:=Bx.mk fun W (hs:StoreIs W Far sb UA ts)=>zj Far sb UA ts _ ht Od W hs;have hc:=Bx.mk fun W (hs:StoreIs W Far sb UA ts)=>zMq Far sb UA ts d ch ht W hs;have HS:=Bx.mk hS;have t1:((3:Int) == 3)=true:=by decide
 unfold zHJ at hc;unfold zHJ;generalize (idT ts ((Tr.node d ch).kid 0):Int)=x0 at *;generalize (idT ts ((Tr.node d ch).kid 1):Int)=x1 at *;generalize (idT ts ((Tr.node d ch).kid 2):Int)=x2 at *;generalize (idT ts ((Tr.node d ch).kid 3):Int)=x3 at *;generalize (idT ts ((Tr.node d ch).kid 4):Int)=x4 at *;generalize (idT ts ((Tr.node d ch).kid 5):Int)=x5 at *;generalize (idT ts ((Tr.node d ch).kid 6):Int)=x6 at *;generalize (idT ts ((Tr.node d ch).kid 7):Int)=x7 at *;generalize (idT ts (Tr.node d ch):Int)=id at *;clear hS ht Od;go_enter Tryz.func68,Tryz.ntmps68;go_wp2_with fail;generalize hW:w.alloc _=W;have JE:=sz1 hW;have hB:=bl1 hW;have kr:Bk W (w.heap.size) #[(0:Int),(0:Int),(0:Int),(0:Int),(0:Int),(0:Int),(0:Int),(0:Int)] 108:=bk0 hW;clear hW;refine (hk.o _ (HS.o.la hB)).mono ?_;rintro _ _ ⟨rfl,rfl⟩;go_wp2_with fail;refine (hc.o _ (HS.o.la hB)).mono ?_;rintro _ w2 ⟨rfl,hb⟩;replace hB:=tr hB hb;replace kr:=kr.la hb;clear hb;obtain ⟨Fj,Fk,Fl,Fm,Fn,Fo,Fp,cr7⟩:=kr.c8;obtain ⟨GU,GV,GW,GX,GY,GZ,Ga,fr7⟩:=kr.f8;go_wp2_with fail;replace kr:=bk8 kr (.int .i64 x0) (.int .i64 x1) (.int .i64 x2) (.int .i64 x3) (.int .i64 x4) (.int .i64 x5) (.int .i64 x6) (.int .i64 x7);exact bodyPost_ret (v:=.agg #[x0,x1,x2,x3,x4,x5,x6,x7]) (results_cell_row rfl _ _ _ 108 #[x0,x1,x2,x3,x4,x5,x6,x7] (0,0) _ rfl kr Tryz.underlying108 rfl (by kernel_rfl)) rfl ⟨rfl,blw8 hB (by omega) _ _ _ _ _ _ _ _⟩
theorem zHL (Far:Nat→Prop) (sb:Nat) (UA:Int) (ts:List Tr) (t:Tr) (k:Int) (O7:zi t=k) (Ph:(k == 3)=false) (ht:t∈ts) (Od:ts.length≤4194304) (w:World) (hS:StoreIs w Far sb UA ts) :
 Calls Tryz.prog 68 #[.pointer (some ⟨sb,0,none⟩),(idT ts t:Int)] w fun e w'=>e = .returned (.agg #[(idT ts t:Int),(idT ts t:Int),(idT ts t:Int),(idT ts t:Int),(idT ts t:Int),(idT ts t:Int),(idT ts t:Int),(idT ts t:Int)])∧Below w.heap.size w w':=by
 have hk:=Bx.mk fun W (hs:StoreIs W Far sb UA ts)=>zj Far sb UA ts _ ht Od W hs;rw [O7] at hk;have HS:=Bx.mk hS;generalize (idT ts t:Int)=id at *;clear hS ht Od O7;go_enter Tryz.func68,Tryz.ntmps68;go_wp2_with fail;generalize hW:w.alloc _=W;have JE:=sz1 hW;have hB:=bl1 hW;have kr:Bk W (w.heap.size) #[(0:Int),(0:Int),(0:Int),(0:Int),(0:Int),(0:Int),(0:Int),(0:Int)] 108:=bk0 hW;clear hW;refine (hk.o _ (HS.o.la hB)).mono ?_;rintro _ _ ⟨rfl,rfl⟩;obtain ⟨Fj,Fk,Fl,Fm,Fn,Fo,Fp,cr7⟩:=kr.c8;obtain ⟨GU,GV,GW,GX,GY,GZ,Ga,fr7⟩:=kr.f8;go_wp2_with fail;replace kr:=bk8 kr (.int .i64 id) (.int .i64 id) (.int .i64 id) (.int .i64 id) (.int .i64 id) (.int .i64 id) (.int .i64 id) (.int .i64 id);exact bodyPost_ret (v:=.agg #[id,id,id,id,id,id,id,id]) (results_cell_row rfl _ _ _ 108 #[id,id,id,id,id,id,id,id] (0,0) _ rfl kr Tryz.underlying108 rfl (by kernel_rfl)) rfl ⟨rfl,blw8 hB (by omega) _ _ _ _ _ _ _ _⟩
theorem zHK (Far:Nat→Prop) (sb:Nat) (UA:Int) (ts:List Tr) (t:Tr) (ht:t∈ts) (Od:ts.length≤4194304) (w:World) (hS:StoreIs w Far sb UA ts) :
 Calls Tryz.prog 68 #[.pointer (some ⟨sb,0,none⟩),(idT ts t:Int)] w fun e w'=>e = .returned (zHJ ts t)∧Below w.heap.size w w':=by
 cases t with
 | uni c=>exact zHL Far sb UA ts (.uni c) 1 rfl rfl ht Od w hS
 | brick l=>exact zHL Far sb UA ts (.brick l) 2 rfl rfl ht Od w hS
 | node d ch=>exact zHM Far sb UA ts d ch ht Od w hS
theorem zCI (w:World) (Far:Nat→Prop) (sb:Nat) (UA:Int) (ts:List Tr) (c:Int) (ht:Tr.uni c∈ts) (hG:Good ts) (Od:ts.length≤1000000000000) (hS:StoreIs w Far sb UA ts) :
 Calls Tryz.prog 158 #[.pointer (some ⟨sb,0,none⟩),(idT ts (.uni c):Int)] w fun e w' => ∃ v,e = .returned v∧Own w' w.heap.size 3 .i64 v (List.replicate 64 c)∧Below w.heap.size w w':=by
 have hC:=Bx.mk fun W (hs:StoreIs W Far sb UA ts)=>zCc W Far sb UA ts (.uni c) ht hG Od hs;have hR:=Bx.mk fun W ad cap=>zLX ad cap c 64 (by decide) (by decide) W
 have HS:=Bx.mk hS;generalize (idT ts (Tr.uni c):Int)=id at *;clear hS ht hG Od;go_enter Tryz.func158,Tryz.ntmps158;go_wp2_with fail;refine (hC.o _ HS.o).mono ?_;rintro _ w1 ⟨v,rfl,hv,hB⟩;obtain ⟨a,cap,rfl,Rn⟩:=hv.form;clear hv Rn;have t1:(((([c]:List Int).length:Nat):Int) != 1)=false:=by simp
 go_wp2_with fail;refine (hC.o _ (HS.o.la hB)).mono ?_;rintro _ w2 ⟨v,rfl,hv,hb⟩;replace hB:=tr hB hb;obtain ⟨a2,cap2,rfl,Rn⟩:=hv.form;obtain ⟨b,off,rfl,L2⟩:=Rn 0 c rfl;have hR2:=Bx.mk (hR.o w2 ⟨b,off,none⟩ cap2 L2);clear hv hb Rn L2 t1;go_wp2_with fail;refine hR2.o.mono ?_;rintro _ w3 ⟨v3,rfl,hv,hb⟩;replace Hp:=tr hB hb;have SW:=Bx.mk (hv.base hB.size);clear hv hb hB;go_wp2_with fail;go_ret;exact ⟨_,rfl,SW.o,Hp⟩
theorem zCH (w:World) (Far:Nat→Prop) (sb:Nat) (UA:Int) (ts:List Tr) (l:List Int) (hl:l.length=64) (ht:Tr.brick l∈ts) (hG:Good ts) (Od:ts.length≤1000000000000) (hS:StoreIs w Far sb UA ts) :
 Calls Tryz.prog 158 #[.pointer (some ⟨sb,0,none⟩),(idT ts (.brick l):Int)] w fun e w' => ∃ v,e = .returned v∧Own w' w.heap.size 3 .i64 v l∧Below w.heap.size w w':=by
 have hC:=Bx.mk fun W (hs:StoreIs W Far sb UA ts)=>zCc W Far sb UA ts (.brick l) ht hG Od hs;have HS:=Bx.mk hS;generalize (idT ts (Tr.brick l):Int)=id at *;clear hS ht hG Od;go_enter Tryz.func158,Tryz.ntmps158;go_wp2_with fail;refine (hC.o _ HS.o).mono ?_;rintro _ w1 ⟨v,rfl,hv,hB⟩;have hf:=hv.form;have hv:=Bx.mk hv;obtain ⟨a,cap,rfl,Rn⟩:=hf;rw [show (zJV (.brick l)).length=64 from hl] at hv ⊢;clear Rn;have t1:(((64:Nat):Int) != 1)=true:=by decide
 go_wp2_with fail;go_ret;exact ⟨_,rfl,hv.o,hB⟩
theorem zCF (w:World) (Far:Nat→Prop) (sb:Nat) (UA:Int) (ts:List Tr) (t:Tr) (hd : ∀ d ch,t ≠ .node d ch) (ht:t∈ts) (hW:Tr.WF t) (hG:Good ts) (Od:ts.length≤1000000000000) (hS:StoreIs w Far sb UA ts) :
 Calls Tryz.prog 158 #[.pointer (some ⟨sb,0,none⟩),(idT ts t:Int)] w fun e w' => ∃ v,e = .returned v∧Own w' w.heap.size 3 .i64 v (zCE t)∧Below w.heap.size w w':=by
 cases t with
 | uni c=>exact zCI w Far sb UA ts c ht hG Od hS
 | brick l=>exact zCH w Far sb UA ts l ((hG.bytes _ ht).bricks l rfl).1 ht hG Od hS
 | node d ch=>exact absurd rfl (hd d ch)
abbrev zLZ (i:Int) (b:Bool) (e:Int):Ending:=.returned (.tuple #[i,.bool b,e])
abbrev buildV (pe ps pb:Nat):Value:=.func (.func 157) #[] #[.pointer (some ⟨pe,0,none⟩),.pointer (some ⟨ps,0,none⟩),.pointer (some ⟨pb,0,none⟩)]
structure ECtx (w:World) (Far:Nat→Prop) (pe ps pb sb:Nat) (nf bf:Value) (P:World→Prop):Prop where
 ke:Bk w pe #[nf,bf] 158
 kr:Bk w ps #[.pointer (some ⟨sb,0,none⟩)] 32
 kb:Bk w pb #[buildV pe ps pb] 181
 fe:Far pe
 fr:Far ps
 fb:Far pb
 hp:P w
abbrev zAg (Far:Nat→Prop) (P:World→Prop):Prop := ∀ a b,Keeps Far a b→P a→P b
theorem Bk.keeps {w w':World} {Far:Nat→Prop} {g:Nat} {cs:Array Value} {t:TypeId} (h:Bk w g cs t) (hk:Keeps Far w w') (hf:Far g):Bk w' g cs t:=by
 unfold Bk;rw [hk.block g hf h.lt];exact h
theorem ECtx.far {w w':World} {Far:Nat→Prop} {pe ps pb sb:Nat} {nf bf:Value} {P:World→Prop} (h:ECtx w Far pe ps pb sb nf bf P) (HP:zAg Far P) (hk:Keeps Far w w'):ECtx w' Far pe ps pb sb nf bf P :=
 ⟨h.ke.keeps hk h.fe,h.kr.keeps hk h.fr,h.kb.keeps hk h.fb,h.fe,h.fr,h.fb,HP _ _ hk h.hp⟩
theorem ECtx.wider {w:World} {Far Far':Nat→Prop} {pe ps pb sb:Nat} {nf bf:Value} {P:World→Prop} (h:ECtx w Far pe ps pb sb nf bf P) (hf : ∀ k,Far k→Far' k):ECtx w Far' pe ps pb sb nf bf P :=
 ⟨h.ke,h.kr,h.kb,hf _ h.fe,hf _ h.fr,hf _ h.fb,h.hp⟩
structure NodeSays (Far:Nat→Prop) (sb:Nat) (UA:Int) (us:List Tr) (t':Tr) (U:Prop) (w:World) (e:Ending) (w':World):Prop where
 keeps:Keeps Far w w'
 way:(Tr.Fits UA us (Tr.add t' us)∧e=zLZ (idT (Tr.add t' us) t':Int) true 0∧StoreIs w' Far sb UA (Tr.add t' us)) ∨
  (¬Tr.Fits UA us (Tr.add t' us)∧(∃ kn,e=zLZ 0 kn 14) ∧ ∃ vs,Good vs∧us <+: vs∧vs <+: Tr.add t' us∧StoreIs w' Far sb UA vs) ∨
  (U∧(∃ i,e=zLZ i false 0)∧Below w.heap.size w w')
def zG9 (t:Tr) (j:Nat):Tr:=if h:j<8 then t.kid ⟨j,h⟩ else t
theorem zHA (t:Tr) {j:Nat} (h:j<8):zG9 t j=t.kid ⟨j,h⟩:=by unfold zG9;rw [dif_pos h]
theorem zHB {ts:List Tr} (hG:Good ts) {t:Tr} (ht:t∈ts) (j:Nat):zG9 t j∈ts:=by
 unfold zG9;split
 · exact zHG hG ht _
 · exact ht
structure EI (Far:Nat→Prop) (sb:Nat) (UA:Int) (ts:List Tr) (t0:Tr) (ch:Nat→Tr) (gk:Nat) (ax ay az l:Int) (w:World) (k:Nat) (wr:World):Prop where
 store:StoreIs wr (fun x=>Far x∨(w.heap.size≤x∧x≤gk)) sb UA (Tr.addK (fun i=>ch i.val) k ts)
 fits:Tr.Fits UA ts (Tr.addK (fun i=>ch i.val) k ts)
 row:wr.rowIs gk 108 8 (fun j=>.int .i64 (if j<k then (idT (Tr.addK (fun i=>ch i.val) k ts) (ch j):Int) else (idT ts (zG9 t0 j):Int)))
 kp:Bk wr w.heap.size #[ax,ay,az,l] 39
 keeps:Keeps Far w wr
 size:gk<wr.heap.size
theorem zEi {w wr w4 w5:World} {Far:Nat→Prop} {sb:Nat} {UA:Int} {ts:List Tr} {t0:Tr} {ch:Nat→Tr} {gk k:Nat} {ax ay az l:Int} (HF : ∀ k,Far k→k<w.heap.size) (hk:k<8) (NJ:w.heap.size<gk)
 (hI:EI Far sb UA ts t0 ch gk ax ay az l w k wr) (hb:Below wr.heap.size wr w4) (OQ:Keeps (fun x=>Far x∨(w.heap.size≤x∧x≤gk)) w4 w5)
 (hf:Tr.Fits UA (Tr.addK (fun i=>ch i.val) k ts) (Tr.addK (fun i=>ch i.val) (k+1) ts)) (hs:StoreIs w5 (fun x=>Far x∨(w.heap.size≤x∧x≤gk)) sb UA (Tr.addK (fun i=>ch i.val) (k+1) ts)) :
 EI Far sb UA ts t0 ch gk ax ay az l w (k+1) (w5.setCell ⟨gk,k,none⟩ (.int .i64 (idT (Tr.addK (fun i=>ch i.val) (k+1) ts) (ch k):Int))):=by
 have hg:=zX w5 ⟨gk,k,none⟩ (.int .i64 (idT (Tr.addK (fun i=>ch i.val) (k+1) ts) (ch k):Int));have QZ:=Tr.addK_prefix (fun i:Fin 8=>ch i.val) k (by omega) ts
 have Qb:Tr.addK (fun i:Fin 8=>ch i.val) k ts <+: Tr.addK (fun i:Fin 8=>ch i.val) (k+1) ts:=zAn (by omega) (by omega)
 have Mi : ∀ x,Far x→gk ≠ x:=fun x hx e=>by have:=HF x hx;omega
 have Mo:(fun x=>Far x∨(w.heap.size≤x∧x≤gk)) gk:=.inr ⟨by omega,nlr⟩
 refine ⟨hs.apart hg Mo,Tr.fits_trans QZ Qb hI.fits hf,?_,?_,?_,?_⟩
 · refine ((zLh (hI.row.of_block (hb.block gk hI.size)) OQ Mo).set k _).congr (fun j hj=>?_);by_cases e:j=k
   · subst e;rw [if_pos rfl,if_pos (by omega)]
   · rw [if_neg e];by_cases h5:j<k
     · rw [if_pos h5,if_pos (by omega)]
       have hm:=Tr.addK_mem (fun i:Fin 8=>ch i.val) ts k (by omega) ⟨j,hj⟩ h5
       have:=zZ Qb hm;simp only at this;rw [this]
     · rw [if_neg h5,if_neg (by omega)]
 · exact ((hI.kp.la hb).keeps OQ (.inr ⟨Nat.le_refl _,by omega⟩)).grownO hg (by simp;omega)
 · exact ((hI.keeps.trans (Keeps.below hb)).trans (OQ.less (fun k hk=>.inl hk))).trans (Keeps.grown hg (fun g e hx=>by injection e with e;exact Mi _ hx e))
 · have h1:=hb.size;have h2:=OQ.size;have h3:=hI.size;rw [zMM];omega
theorem zMO {w:World} {k:IntKind} {g r off:Nat} {xs:List Int} (h:Sl w k (some ⟨g,off,none⟩) xs) (Ph:g ≠ r) (x0 x1 x2 x3 x4 x5 x6:Value) :
 Sl (((((((w.setCell ⟨r,0,none⟩ x0).setCell ⟨r,1,none⟩ x1).setCell ⟨r,2,none⟩ x2).setCell ⟨r,3,none⟩ x3).setCell ⟨r,4,none⟩ x4).setCell ⟨r,5,none⟩ x5).setCell ⟨r,6,none⟩ x6) k (some ⟨g,off,none⟩) xs:=by
 have one : ∀ (w:World) (j:Nat) (x:Value),Sl w k (some ⟨g,off,none⟩) xs→Sl (w.setCell ⟨r,j,none⟩ x) k (some ⟨g,off,none⟩) xs:=fun w j x h=>h.grown (zX w ⟨r,j,none⟩ x) Ph;exact one _ _ _ (one _ _ _ (one _ _ _ (one _ _ _ (one _ _ _ (one _ _ _ (one _ _ _ h))))))
theorem zKy (c:Int) (hc:0≤c∧c≤255) (w:World) :
 Calls Tryz.prog 150 #[c] w fun e w'=>e = .returned (.string (strOfNums (Tr.enc (.uni c))))∧Below w.heap.size w w':=by
 have hw:IntKind.u8.wrap c=c:=by unfold IntKind.wrap;simp [IntKind.bits,IntKind.signed];omega
 have Rn:Sl (w.alloc (.cells #[.int .u8 c] 5)) .u8 (some ⟨w.heap.size,0,none⟩) [c]:=fun i x hx=>by
  match i with
  | 0=>simp at hx;subst hx;exact ⟨_,_,rfl,zF _ _ _⟩
  | i+1=>simp at hx
 have Lx:=zDM (P:=Tryz.prog) 148 5 9 Tryz.underlying148 Tryz.underlying5 Tryz.underlying9 Rn 1 1 rfl;have S4:=Bx.mk (show (strOfNums [117])++strOfNums [c]=strOfNums (Tr.enc (.uni c)) from zM1 [117] [c]);clear Rn;go_enter Tryz.func150,Tryz.ntmps150;go_wp2_with fail;go_ret;exact ⟨by first | (rw [←S4.o];rfl) | trace_state,bf⟩
def zLy (xs:List Int) (k:Nat):Bool:=(xs.take k).all fun x=>x == xs.headD 0
theorem zL0 {xs:List Int} {k:Nat} {x:Int} (h:xs[k]? = some x):zLy xs (k+1)=(zLy xs k && (x == xs.headD 0)):=by
 unfold zLy;rw [zAD h,List.all_append];simp
theorem zLz {xs:List Int} {n:Nat} (hn:xs.length=n):zLy xs n=true ↔ ∀ x∈xs,x=xs.headD 0:=by
 unfold zLy;rw [List.take_of_length_le (by omega),List.all_eq_true]
 simp
theorem zKr (a:Option Addr) (cap:Nat) (xs:List Int) (w:World) (hn:xs.length=64) (hb:xs.all Pal.cell=true) (h:Sl w .i64 a xs) :
 Calls Tryz.prog 151 #[.slice a 64 cap] w fun e w'=>e = .returned (.string (strOfNums (Tr.enc (Tr.mkBrick xs))))∧Below w.heap.size w w':=by
 have LQ:=zA5 hb;obtain ⟨x0,T9⟩ : ∃ x,xs[0]? = some x:=⟨_,lge (by omega)⟩
 obtain ⟨b,off,rfl,L2⟩:=h 0 x0 T9
 have hd:xs.headD 0=x0:=by cases xs with
  | nil=>simp at T9
  | cons y r=>simpa using T9
 rw [Nat.add_zero] at L2;have Hs:=Bx.mk h;have Hn:=Bx.mk hn;have Hc:=Bx.mk LQ;have Hd:=Bx.mk hd;have Dn:=Bx.mk T9;have CY:=Bx.mk L2;have hu:=Bx.mk fun W=>zKy x0 (LQ x0 (List.mem_of_getElem? T9)) W;clear h hn hb LQ hd T9 L2;go_enter Tryz.func151,Tryz.ntmps151;go_wp2_with fail
 go_loopw [3,4,5] (fun v s i wr => ∃ k:Nat,k≤64∧i = .int .i64 k∧s = .bool (zLy xs k)∧Bx (Own wr w.heap.size 5 .u8 v (xs.take k))∧Bx (Below w.heap.size w wr)) (fun _ _ i _=>64 - (intOf i).toNat)
 case atStart=>exact ⟨0,Nat.zero_le _,rfl,rfl,⟨Own.nil _ _ _ _⟩,⟨br⟩⟩
 case round =>
  obtain ⟨k,hk,rfl,rfl,QQ,Ku⟩:=hrel;have L2:=(Hs.o.below Ku.o) 0 x0 Dn.o;obtain ⟨b0,off0,Kd,L2⟩:=L2;simp only [Option.some.injEq,Addr.mk.injEq,and_true] at Kd;obtain ⟨rfl,rfl⟩:=Kd;rw [Nat.add_zero] at L2;by_cases hlt:k<64
  · obtain ⟨x,hx⟩:=zBY Hn hlt;obtain ⟨b',off',Ka,hc⟩:=(Hs.o.below Ku.o) k x hx;simp only [Option.some.injEq,Addr.mk.injEq,and_true] at Ka;obtain ⟨rfl,rfl⟩:=Ka;have hr:=Hc.o x (List.mem_of_getElem? hx);have Po:=Bx.mk (zAD hx);have Rw:=Bx.mk (zL0 hx);have b3:(0:Int)≤(k:Int):=by omega
    have b4:(k:Int)<64:=by omega
    have T6:IntKind.u8.wrap x=x:=by unfold IntKind.wrap;simp [IntKind.bits,IntKind.signed];omega
    have OY:=Ku.o.size;have Dh:=Bx.mk (show (xs.take k).length≤1000000000 by rw [List.length_take];omega)
    have Cl:=Bx.mk hc;have Cm:=Bx.mk L2;have HX:=Bx.mk hx;clear hx
    go_wp2_with (first
     | (at_builtin
        refine zAG rfl _ _ 148 rfl 5 .u8 (.int .u8 0) 1 (by omega) Tryz.underlying148 (by kernel_rfl) rfl w.heap.size _ (xs.take k) rfl (QQ.o.alloc _) x ⟨wr.heap.size,0,none⟩ 1 rfl (zF _ _ _) Dh.o (zk OY _) ?_
        intro v1 w1 QR N3 _))
    have QS:=Bx.mk QR;rw [←Po.o] at QS;have Kv:=Bx.mk ((Ku.o.alloc OY (.cells #[.int .u8 x] 5)).grown N3 (zk OY _) (fun g hg=>(QQ.o.lt g hg).1));have L3:=(Hs.o.below Kv.o) k x HX.o;have L5:=(Hs.o.below Kv.o) 0 x0 Dn.o;obtain ⟨b3',off3,Ke,L3⟩:=L3;simp only [Option.some.injEq,Addr.mk.injEq,and_true] at Ke;obtain ⟨rfl,rfl⟩:=Ke;obtain ⟨b4',off4,Kf,L5⟩:=L5;simp only [Option.some.injEq,Addr.mk.injEq,and_true] at Kf;obtain ⟨rfl,rfl⟩:=Kf;rw [Nat.add_zero] at L5;have CZ:=Bx.mk L3;have Hc2:=Bx.mk L5;clear QR N3 hc L2 L3 L5 QQ Ku OY Cl Cm;cases hq:zLy xs k with
    | false =>
      refine wg ?_
      repeat (first | go_big_quiet_step (fail) | quiet_step (fail))
      refine wq ?_;rintro _ ⟨⟨dq,osq⟩,rfl⟩;have Jq:=bq w1 dq osq;replace QS:=Bx.mk (QS.o.below Jq);replace Kv:=Bx.mk (tr Kv.o Jq);generalize grow (redrawn w1 dq) osq=w7 at *;go_wp2_with fail
      go_roundw
      case rel=>exact ⟨k+1,by omega,by go_num,by rw [Rw.o,hq];rfl,QS,Kv⟩
      case measure=>simp [intOf];omega
    | true =>
      have UU : ∀ dk osk,(grow (redrawn w1 dk) osk).cell? ⟨b,off+k,none⟩=some (.int .i64 x):=cq CZ.o;have UV : ∀ dk osk,(grow (redrawn w1 dk) osk).cell? ⟨b,off,none⟩=some (.int .i64 x0):=cq Hc2.o;refine wg ?_
      repeat (first | go_big_quiet_step (fail) | quiet_step (fail))
      refine wq ?_;rintro _ ⟨⟨dq,osq⟩,rfl⟩;have Jq:=bq w1 dq osq;replace QS:=Bx.mk (QS.o.below Jq);replace Kv:=Bx.mk (tr Kv.o Jq);generalize grow (redrawn w1 dq) osq=w7 at *;go_wp2_with fail
      go_roundw
      case rel=>exact ⟨k+1,by omega,by go_num,by rw [Rw.o,hq,Hd.o];rfl,QS,Kv⟩
      case measure=>simp [intOf];omega
  · obtain rfl:k=64:=by omega
    have Mz:=Bx.mk (show xs.take 64=xs from List.take_of_length_le (by rw [Hn.o];omega))
    cases hq:zLy xs 64 with
    | true =>
      have hm:Tr.mkBrick xs = .uni x0:=by unfold Tr.mkBrick;rw [if_pos ((zLz Hn.o).1 hq),Hd.o]
      have Hm:=Bx.mk hm;clear hm hq;go_wp2_with fail;refine (hu.o _).mono ?_;rintro _ w2 ⟨rfl,Js⟩;go_wp2_with fail;go_ret;exact ⟨by rw [Hm.o];rfl,tr Ku.o Js⟩
    | false =>
      have hm:Tr.mkBrick xs = .brick xs:=by unfold Tr.mkBrick;rw [if_neg (fun e=>by rw [(zLz Hn.o).2 e] at hq;cases hq)]
      have Hm:=Bx.mk hm;have QS:=QQ.o;rw [Mz.o] at QS;obtain ⟨pa,pc,rfl,Rn⟩:=QS.form;have Lx:=zDM (P:=Tryz.prog) 148 5 9 Tryz.underlying148 Tryz.underlying5 Tryz.underlying9 Rn xs.length pc rfl;have S9:(strOfNums xs).size=64:=by rw [strOfNums_size,Hn.o]
      have S4:=Bx.mk (show (strOfNums [98])++strOfNums xs=strOfNums (Tr.enc (.brick xs)) from zM1 [98] xs);clear hm hq Rn QS QQ;go_wp2_with fail;go_ret;exact ⟨by rw [Hm.o,←S4.o];rfl,Ku.o⟩
theorem kind_b (Far:Nat→Prop) (sb:Nat) (UA:Int) (ts:List Tr) (t:Tr) (ht:t∈ts) (v:Int) (hv:(zo ts t).cells.toList[0]? = some (.int .i64 v)) (Od:ts.length≤4194304) (w:World) (hS:StoreIs w Far sb UA ts) :
 Calls Tryz.prog 39 #[.pointer (some ⟨sb,0,none⟩),(idT ts t:Int)] w fun e' w'=>e' = .returned v∧Below w.heap.size w w' :=
 (zHO Far sb UA ts _ t (zGM ht) v hv Od w hS).mono fun _e _w' ⟨h1,h2⟩=>⟨h1,h2 ▸ br⟩
theorem zEI (Far:Nat→Prop) (sb:Nat) (UA:Int) (ts:List Tr) (t:Tr) (ht:t∈ts) (v:Int) (hv:(zo ts t).cells.toList[3]? = some (.int .i64 v)) (Od:ts.length≤4194304) (w:World) (hS:StoreIs w Far sb UA ts) :
 Calls Tryz.prog 63 #[.pointer (some ⟨sb,0,none⟩),(idT ts t:Int)] w fun e' w'=>e' = .returned v∧Below w.heap.size w w' :=
 (zEH Far sb UA ts _ t (zGM ht) v hv Od w hS).mono fun _e _w' ⟨h1,h2⟩=>⟨h1,h2 ▸ br⟩
theorem zGQ (x:Nat→Int) (k:Nat) (hk:k<8) (W:World):(Instr.index 108 (.agg #[(x 0:Int),(x 1:Int),(x 2:Int),(x 3:Int),(x 4:Int),(x 5:Int),(x 6:Int),(x 7:Int)]) (.int .i64 (k:Int))).run Tryz.prog W = .ok (.int .i64 (x k)) W:=by
 have hu:=Tryz.underlying108;have h0:k=0∨k=1∨k=2∨k=3∨k=4∨k=5∨k=6∨k=7:=by omega
 have h1 : Tryz.prog.cellsOf 3=1:=by kernel_rfl
 rcases h0 with rfl | rfl | rfl | rfl | rfl | rfl | rfl | rfl
 all_goals
  simp [Instr.index,run_underlying hu,asIntOf,go_sem]
def depT:Tr→Int
 | .uni _=>0
 | .brick _=>2
 | .node d _=>d
def zJI (t:Tr) (d:Int):Prop:=(∃ c,t = .uni c)∨depT t=d - 1
theorem zAR (w:World) (Far:Nat→Prop) (sb:Nat) (UA:Int) (ts:List Tr) (d:Int) (hd:3≤d∧d≤14) (x:Nat→Int) (HK:Bx (∀ k,k<8 → ∃ t,t∈ts∧x k=idT ts t∧zJI t d)) (_hlen:ts.length≤1000000000000) (hS:StoreIs w Far sb UA ts) (R:Ending→World→Prop) (hR : ∀ e w',R e w' → ∃ i er,e=zLY i er)
 (hin:Bx (∀ W,Below w.heap.size w W→Calls Tryz.prog 96 #[.pointer (some ⟨sb,0,none⟩),d,.agg #[(x 0:Int),(x 1:Int),(x 2:Int),(x 3:Int),(x 4:Int),(x 5:Int),(x 6:Int),(x 7:Int)]] W R)) :
 Calls Tryz.prog 159 #[.pointer (some ⟨sb,0,none⟩),d,.agg #[(x 0:Int),(x 1:Int),(x 2:Int),(x 3:Int),(x 4:Int),(x 5:Int),(x 6:Int),(x 7:Int)]] w R:=by
 have t1:decide (d≤2)=false:=by simp;omega
 have t2:decide (14<d)=false:=by simp;omega
 have S8:IntKind.i64.wrap (d - 1)=d - 1:=wj _ (by omega)
 go_enter Tryz.func159,Tryz.ntmps159;go_wp2_with fail;generalize hW:w.alloc _=W;have JE:=sz1 hW;have hB:=bl1 hW;have ka:Bk W (w.heap.size) #[(x 0:Int),(x 1:Int),(x 2:Int),(x 3:Int),(x 4:Int),(x 5:Int),(x 6:Int),(x 7:Int)] 108:=bk0 hW;clear hW;have HS:Bx (StoreIs W Far sb UA ts):=⟨hS.la hB⟩;obtain ⟨ca0,ca1,ca2,ca3,ca4,ca5,ca6,ca7⟩:=ka.c8;go_wp2_with fail;clear ca0 ca1 ca2 ca3 ca4 ca5 ca6 ca7
 go_loopw [17] (fun v wr => ∃ k:Nat,k≤8∧v = .int .i64 k∧wr=W) (fun i _=>8 - (intOf i).toNat)
 case atStart=>exact ⟨0,Nat.zero_le _,rfl,rfl⟩
 case round =>
  obtain ⟨k,hk,rfl,rfl⟩:=hrel;by_cases hlt:k<8
  · have t3:decide ((k:Int)<8)=true:=by simp;omega
    have Nm:=fun V=>zGQ x k (by omega) V
    obtain ⟨t,hm,hx,QE⟩:=HK.o k hlt;cases t with
    | uni c =>
      clear QE;obtain ⟨g,cap,mb,ks,hi,hc⟩:=Bx.node HS.o hm (k:=1) (c:=c) rfl;have Fu:=ks.cell 1 rfl;have d0:=hc.o 0 _ (by omega) rfl
      have d3:=hc.o 3 _ (by omega) rfl
      rw [Nat.add_zero] at d0;have b1:(0:Int)≤(idT ts (.uni c):Int):=by omega
      have b2:(idT ts (.uni c):Int)<(ts.length:Int):=by omega
      have b3:decide ((idT ts (.uni c):Int)<0)=false:=by simp
      have b4:decide ((ts.length:Int)≤(idT ts (.uni c):Int))=false:=by simp;omega
      rw [hx] at Nm;clear ks hc hm hx;go_wp2_with fail
      go_roundw
      case rel=>exact ⟨k+1,by omega,by go_num,trivial⟩
      case measure=>simp [intOf];omega
    | brick l =>
      have e1:(2:Int)=d - 1:=QE.elim (fun ⟨c,h⟩=>by cases h) (fun h=>h)
      have e2:((2:Int) != d - 1)=false:=by simp;omega
      clear QE;obtain ⟨g,cap,mb,ks,hi,hc⟩:=Bx.node HS.o hm (k:=2) (s:=strOfNums l) rfl;have Fu:=ks.cell 1 rfl;have d0:=hc.o 0 _ (by omega) rfl
      have d3:=hc.o 3 _ (by omega) rfl
      rw [Nat.add_zero] at d0;have b1:(0:Int)≤(idT ts (.brick l):Int):=by omega
      have b2:(idT ts (.brick l):Int)<(ts.length:Int):=by omega
      have b3:decide ((idT ts (.brick l):Int)<0)=false:=by simp
      have b4:decide ((ts.length:Int)≤(idT ts (.brick l):Int))=false:=by simp;omega
      rw [hx] at Nm;clear ks hc hm hx;go_wp2_with fail
      go_roundw
      case rel=>exact ⟨k+1,by omega,by go_num,trivial⟩
      case measure=>simp [intOf];omega
    | node dk ch =>
      have e1:(dk:Int)=d - 1:=QE.elim (fun ⟨c,h⟩=>by cases h) (fun h=>h)
      have e2:((dk:Int) != d - 1)=false:=by simp;omega
      clear QE;obtain ⟨g,cap,mb,ks,hi,hc⟩:=Bx.node HS.o hm (k:=3) (s:=ByteArray.empty) rfl;have Fu:=ks.cell 1 rfl;have d0:=hc.o 0 _ (by omega) rfl
      have d3:=hc.o 3 _ (by omega) rfl
      rw [Nat.add_zero] at d0;have b1:(0:Int)≤(idT ts (.node dk ch):Int):=by omega
      have b2:(idT ts (.node dk ch):Int)<(ts.length:Int):=by omega
      have b3:decide ((idT ts (.node dk ch):Int)<0)=false:=by simp
      have b4:decide ((ts.length:Int)≤(idT ts (.node dk ch):Int))=false:=by simp;omega
      rw [hx] at Nm;clear ks hc hm hx;go_wp2_with fail
      go_roundw
      case rel=>exact ⟨k+1,by omega,by go_num,trivial⟩
      case measure=>simp [intOf];omega
  · obtain rfl:k=8:=by omega
    have t3:decide (((8:Nat):Int)<8)=false:=by decide
    obtain ⟨ca0,ca1,ca2,ca3,ca4,ca5,ca6,ca7⟩:=ka.c8;go_wp2_with fail;refine (hin.o _ hB).mono ?_;intro e7 w7 hr;have Hr:=Bx.mk hr;obtain ⟨i7,er7,rfl⟩:=hR _ _ hr;clear hr;go_wp2_with fail;exact Hr.o
end
end Go.Proofs.YtfcbajmjaifjlaaGreat