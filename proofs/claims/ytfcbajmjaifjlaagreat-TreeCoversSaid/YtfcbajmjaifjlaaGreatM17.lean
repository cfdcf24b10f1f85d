/- Ref, Ref2, Ref3, Cnt, Blt: joined by program, for one claim. -/
import Derived.Test.YtfcbajmjaifjlaaGreatMr
import Derived.Test.YtfcbajmjaifjlaaGreatM16
import Derived.Test.YtfcbajmjaifjlaaGreatM10
set_option linter.unusedVariables false
set_option linter.unusedSimpArgs false
namespace Go.Proofs.YtfcbajmjaifjlaaGreat
section
open Go.RowKit Go.Sort Go.Maps
open Oct
set_option maxHeartbeats 1000000 in
theorem ref_in (px py pz a b c d e f:Int) (w:World) :
 Calls Tryz.prog 36 #[.agg #[px,py,pz],.agg #[a,b,c,d,e,f]] w fun e' w'=>e' = .returned (.bool (inB ⟨px,py,pz⟩ ⟨⟨a,b,c⟩,⟨d,e,f⟩⟩))∧Below w.heap.size w w':=by
 go_enter Tryz.func36,Tryz.ntmps36
 go_wp2_with fail
 all_goals
  go_ret
  exact ⟨ret_bool (by rw [Bool.eq_iff_iff];simp [inB];omega),((Below.refl _ _).alloc (Nat.le_refl _) _).alloc (by simp) _⟩
theorem ref_empty (a b c d e f:Int) (w:World) :
 Calls Tryz.prog 79 #[.agg #[a,b,c,d,e,f]] w fun e' w'=>e' = .returned (.bool (emptyB ⟨⟨a,b,c⟩,⟨d,e,f⟩⟩))∧Below w.heap.size w w':=by
 go_enter Tryz.func79,Tryz.ntmps79
 go_wp2_with fail
 all_goals
  go_ret
  exact ⟨ret_bool (by rw [Bool.eq_iff_iff];simp [emptyB,inB];omega),(Below.refl _ _).alloc (Nat.le_refl _) _⟩
theorem ref_sub (px py pz qx qy qz:Int) (h1 : -4000000000≤px∧px≤4000000000) (h2 : -4000000000≤py∧py≤4000000000) (h3 : -4000000000≤pz∧pz≤4000000000) (h4 : -4000000000≤qx∧qx≤4000000000) (h5 : -4000000000≤qy∧qy≤4000000000) (h6 : -4000000000≤qz∧qz≤4000000000) (w:World) :
 Calls Tryz.prog 105 #[.agg #[px,py,pz],.agg #[qx,qy,qz]] w fun e' w'=>e' = .returned (.agg #[.int .i64 (px - qx),.int .i64 (py - qy),.int .i64 (pz - qz)])∧Below w.heap.size w w':=by
 obtain ⟨a1,a2⟩:=h1
 obtain ⟨a3,a4⟩:=h2
 obtain ⟨a5,a6⟩:=h3
 obtain ⟨b1,b2⟩:=h4
 obtain ⟨b3,b4⟩:=h5
 obtain ⟨b5,b6⟩:=h6
 go_enter Tryz.func105,Tryz.ntmps105
 go_wp2_with fail
 generalize hW:World.alloc (World.alloc (World.alloc w _) _) _=W
 have hB:=bl3 hW
 have kr:Bk W (w.heap.size+1+1) #[.int .i64 (px - qx),.int .i64 (py - qy),.int .i64 (pz - qz)] 23:=bk0 hW
 clear hW
 exact bodyPost_ret (v:=.agg #[.int .i64 (px - qx),.int .i64 (py - qy),.int .i64 (pz - qz)]) (results_cell_row rfl _ _ _ 23 #[.int .i64 (px - qx),.int .i64 (py - qy),.int .i64 (pz - qz)] (0,0) _ rfl kr Tryz.underlying23 rfl (by kernel_rfl)) rfl ⟨rfl,hB⟩
theorem ref_add (px py pz qx qy qz:Int) (h1 : -4000000000≤px∧px≤4000000000) (h2 : -4000000000≤py∧py≤4000000000) (h3 : -4000000000≤pz∧pz≤4000000000) (h4 : -4000000000≤qx∧qx≤4000000000) (h5 : -4000000000≤qy∧qy≤4000000000) (h6 : -4000000000≤qz∧qz≤4000000000) (w:World) :
 Calls Tryz.prog 141 #[.agg #[px,py,pz],.agg #[qx,qy,qz]] w fun e' w'=>e' = .returned (.agg #[.int .i64 (px+qx),.int .i64 (py+qy),.int .i64 (pz+qz)])∧Below w.heap.size w w':=by
 obtain ⟨a1,a2⟩:=h1
 obtain ⟨a3,a4⟩:=h2
 obtain ⟨a5,a6⟩:=h3
 obtain ⟨b1,b2⟩:=h4
 obtain ⟨b3,b4⟩:=h5
 obtain ⟨b5,b6⟩:=h6
 go_enter Tryz.func141,Tryz.ntmps141
 go_wp2_with fail
 generalize hW:World.alloc (World.alloc (World.alloc w _) _) _=W
 have hB:=bl3 hW
 have kr:Bk W (w.heap.size+1+1) #[.int .i64 (px+qx),.int .i64 (py+qy),.int .i64 (pz+qz)] 23:=bk0 hW
 clear hW
 exact bodyPost_ret (v:=.agg #[.int .i64 (px+qx),.int .i64 (py+qy),.int .i64 (pz+qz)]) (results_cell_row rfl _ _ _ 23 #[.int .i64 (px+qx),.int .i64 (py+qy),.int .i64 (pz+qz)] (0,0) _ rfl kr Tryz.underlying23 rfl (by kernel_rfl)) rfl ⟨rfl,hB⟩
theorem ref_size (a b c d e f:Int) (hS:Small ⟨⟨a,b,c⟩,⟨d,e,f⟩⟩ 1048575) (he:emptyB ⟨⟨a,b,c⟩,⟨d,e,f⟩⟩=false) (w:World) :
 Calls Tryz.prog 104 #[.agg #[a,b,c,d,e,f]] w fun e' w'=>e' = .returned (.agg #[.int .i64 (d - a),.int .i64 (e - b),.int .i64 (f - c)])∧Below w.heap.size w w':=by
 obtain ⟨s1,s2,s3,s4,s5,s6⟩:=hS
 simp only [] at s1 s2 s3 s4 s5 s6
 have hem:=Bx.mk (fun W=>ref_empty a b c d e f W)
 have he2:=emptyB_iff.1 he
 simp only [] at he2
 have hsub:=Bx.mk (fun W=>ref_sub d e f a b c (by omega) (by omega) (by omega) (by omega) (by omega) (by omega) W)
 rw [he] at hem
 clear s1 s2 s3 s4 s5 s6 he he2
 go_enter Tryz.func104,Tryz.ntmps104
 go_wp2_with fail
 generalize hW:World.alloc (World.alloc w _) _=W
 have hSz:=sz2 hW
 have hB:=bl2 hW
 have kb:Bk W (w.heap.size) #[a,b,c,d,e,f] 25:=bk1 hW
 have kr:Bk W (w.heap.size+1) #[(0:Int),(0:Int),(0:Int)] 23:=bk0 hW
 clear hW
 refine (hem.out _).mono ?_
 rintro e1 w1 ⟨rfl,hb⟩
 replace hB:=hB.trans (hb.mono hB.size)
 replace kb:=kb.later hb
 replace kr:=kr.later hb
 replace hSz:=Nat.le_trans hSz hb.size
 clear hb
 obtain ⟨cb0,cb1,cb2,cb3,cb4,cb5⟩:=kb.c6
 go_wp2_with fail
 refine (hsub.out _).mono ?_
 rintro e2 w2 ⟨rfl,hb⟩
 clear cb0 cb1 cb2 cb3 cb4 cb5
 replace hB:=hB.trans (hb.mono hB.size)
 replace kb:=kb.later hb
 replace kr:=kr.later hb
 replace hSz:=Nat.le_trans hSz hb.size
 clear hb
 obtain ⟨cr0,cr1,cr2⟩:=kr.c3
 obtain ⟨fr0,fr1,fr2⟩:=kr.f3
 go_wp2_with fail
 replace kr:=kr.put3 (.int .i64 (d - a)) (.int .i64 (e - b)) (.int .i64 (f - c))
 exact bodyPost_ret (v:=.agg #[.int .i64 (d - a),.int .i64 (e - b),.int .i64 (f - c)]) (results_cell_row rfl _ _ _ 23 #[.int .i64 (d - a),.int .i64 (e - b),.int .i64 (f - c)] (0,0) _ rfl kr Tryz.underlying23 rfl (by kernel_rfl)) rfl ⟨rfl,blw3 hB (by omega) _ _ _⟩
theorem ref_size0 (a b c d e f:Int) (he:emptyB ⟨⟨a,b,c⟩,⟨d,e,f⟩⟩=true) (w:World) :
 Calls Tryz.prog 104 #[.agg #[a,b,c,d,e,f]] w fun e' w'=>e' = .returned (.agg #[(0:Int),(0:Int),(0:Int)])∧Below w.heap.size w w':=by
 have hem:=Bx.mk (fun W=>ref_empty a b c d e f W)
 rw [he] at hem
 clear he
 go_enter Tryz.func104,Tryz.ntmps104
 go_wp2_with fail
 generalize hW:World.alloc (World.alloc w _) _=W
 have hSz:=sz2 hW
 have hB:=bl2 hW
 have kb:Bk W (w.heap.size) #[a,b,c,d,e,f] 25:=bk1 hW
 have kr:Bk W (w.heap.size+1) #[(0:Int),(0:Int),(0:Int)] 23:=bk0 hW
 clear hW
 refine (hem.out _).mono ?_
 rintro e1 w1 ⟨rfl,hb⟩
 replace hB:=hB.trans (hb.mono hB.size)
 replace kb:=kb.later hb
 replace kr:=kr.later hb
 replace hSz:=Nat.le_trans hSz hb.size
 clear hb
 obtain ⟨cr0,cr1,cr2⟩:=kr.c3
 obtain ⟨fr0,fr1,fr2⟩:=kr.f3
 go_wp2_with fail
 replace kr:=kr.put3 (.int .i64 0) (.int .i64 0) (.int .i64 0)
 exact bodyPost_ret (v:=.agg #[(0:Int),(0:Int),(0:Int)]) (results_cell_row rfl _ _ _ 23 #[(0:Int),(0:Int),(0:Int)] (0,0) _ rfl kr Tryz.underlying23 rfl (by kernel_rfl)) rfl ⟨rfl,blw3 hB (by omega) _ _ _⟩
end
section
open Go.RowKit Go.Sort Go.Maps
open Oct
theorem ref_size_any (a b c d e f:Int) (hS:Small ⟨⟨a,b,c⟩,⟨d,e,f⟩⟩ 1048575) (w:World) :
 Calls Tryz.prog 104 #[.agg #[a,b,c,d,e,f]] w fun e' w'=>e' = .returned (.agg #[.int .i64 (sizeB ⟨⟨a,b,c⟩,⟨d,e,f⟩⟩).x,.int .i64 (sizeB ⟨⟨a,b,c⟩,⟨d,e,f⟩⟩).y,.int .i64 (sizeB ⟨⟨a,b,c⟩,⟨d,e,f⟩⟩).z])∧Below w.heap.size w w':=by
 cases he:emptyB ⟨⟨a,b,c⟩,⟨d,e,f⟩⟩ with
 | true =>
   have hz:sizeB ⟨⟨a,b,c⟩,⟨d,e,f⟩⟩=Pt.zero:=by unfold sizeB;rw [if_pos he]
   rw [hz]
   exact ref_size0 a b c d e f he w
 | false =>
   rw [sizeB_full he]
   exact ref_size a b c d e f hS he w
set_option maxHeartbeats 400000 in
theorem ref_vol (a b c d e f:Int) (hS:Small ⟨⟨a,b,c⟩,⟨d,e,f⟩⟩ 1048575) (w:World) :
 Calls Tryz.prog 45 #[.agg #[a,b,c,d,e,f]] w fun e' w'=>e' = .returned (.int .i64 (volB ⟨⟨a,b,c⟩,⟨d,e,f⟩⟩))∧Below w.heap.size w w':=by
 have hsz:=Bx.mk fun W=>ref_size_any a b c d e f hS W
 have hv:=Bx.mk (show volB ⟨⟨a,b,c⟩,⟨d,e,f⟩⟩=(sizeB ⟨⟨a,b,c⟩,⟨d,e,f⟩⟩).x * (sizeB ⟨⟨a,b,c⟩,⟨d,e,f⟩⟩).y * (sizeB ⟨⟨a,b,c⟩,⟨d,e,f⟩⟩).z from rfl)
 obtain ⟨⟨p1,p2⟩,p3,p4⟩:=prod_bd ⟨⟨a,b,c⟩,⟨d,e,f⟩⟩ (by decide) hS
 rw [show volB ⟨⟨a,b,c⟩,⟨d,e,f⟩⟩=(sizeB ⟨⟨a,b,c⟩,⟨d,e,f⟩⟩).x * (sizeB ⟨⟨a,b,c⟩,⟨d,e,f⟩⟩).y * (sizeB ⟨⟨a,b,c⟩,⟨d,e,f⟩⟩).z from rfl] at p3 p4
 clear hS
 generalize (sizeB ⟨⟨a,b,c⟩,⟨d,e,f⟩⟩)=s at *
 obtain ⟨sx,sy,sz⟩:=s
 simp only [] at *
 have m1:=IntWalk.i64_in (sx * sy) (by omega)
 have m2:=IntWalk.i64_in (sx * sy * sz) (by omega)
 have m3:=IntWalk.wrap64_in (sx * sy) (by omega)
 have m4:=IntWalk.wrap64_in (sx * sy * sz) (by omega)
 clear p1 p2 p3 p4
 go_enter Tryz.func45,Tryz.ntmps45
 go_wp2_with fail
 generalize hW:World.alloc w _=W
 have hSz:=sz1 hW
 have hB:=bl1 hW
 have kb:Bk W (w.heap.size) #[a,b,c,d,e,f] 25:=bk0 hW
 clear hW
 refine (hsz.out _).mono ?_
 rintro e' w1 ⟨rfl,hb⟩
 replace hB:=hB.trans (hb.mono hB.size)
 replace kb:=kb.later hb
 replace hSz:=Nat.le_trans hSz hb.size
 clear hb
 go_wp2_with fail
 go_ret
 exact ⟨ret_int (by rw [hv.out]),hB.alloc hB.size _⟩
set_option maxHeartbeats 400000 in
theorem ref_at_yes (a b c d e f i:Int) (hS:Small ⟨⟨a,b,c⟩,⟨d,e,f⟩⟩ 1048575) (hi:0≤i∧i<volB ⟨⟨a,b,c⟩,⟨d,e,f⟩⟩) (w:World) :
 Calls Tryz.prog 82 #[.agg #[a,b,c,d,e,f],i] w fun e' w'=>e' = .returned (.tuple #[.agg #[.int .i64 (atB ⟨⟨a,b,c⟩,⟨d,e,f⟩⟩ i).x,.int .i64 (atB ⟨⟨a,b,c⟩,⟨d,e,f⟩⟩ i).y,.int .i64 (atB ⟨⟨a,b,c⟩,⟨d,e,f⟩⟩ i).z],.bool true])∧Below w.heap.size w w':=by
 have hv:=Bx.mk fun W=>ref_vol a b c d e f hS W
 have hsz:=Bx.mk fun W=>ref_size_any a b c d e f hS W
 have hvb:=(prod_bd ⟨⟨a,b,c⟩,⟨d,e,f⟩⟩ (by decide) hS).2.2
 have hin:=inB_iff.1 (atB_in hi.1 hi.2).1
 have hat:=Bx.mk (show (atB ⟨⟨a,b,c⟩,⟨d,e,f⟩⟩ i)=⟨a+i % (sizeB ⟨⟨a,b,c⟩,⟨d,e,f⟩⟩).x,b+i / (sizeB ⟨⟨a,b,c⟩,⟨d,e,f⟩⟩).x % (sizeB ⟨⟨a,b,c⟩,⟨d,e,f⟩⟩).y,c+i / (sizeB ⟨⟨a,b,c⟩,⟨d,e,f⟩⟩).x / (sizeB ⟨⟨a,b,c⟩,⟨d,e,f⟩⟩).y⟩ by unfold atB;rw [if_pos hi])
 rw [hat.out] at hin
 obtain ⟨s1,s2,s3,s4,s5,s6⟩:=hS
 have hvd:volB ⟨⟨a,b,c⟩,⟨d,e,f⟩⟩=(sizeB ⟨⟨a,b,c⟩,⟨d,e,f⟩⟩).x * (sizeB ⟨⟨a,b,c⟩,⟨d,e,f⟩⟩).y * (sizeB ⟨⟨a,b,c⟩,⟨d,e,f⟩⟩).z:=rfl
 obtain ⟨h0,h1⟩:=hi
 have hbd:=sizeB_bd ⟨⟨a,b,c⟩,⟨d,e,f⟩⟩ (m:=1048575) (by decide) ⟨s1,s2,s3,s4,s5,s6⟩
 simp only [] at s1 s2 s3 s4 s5 s6 hin
 generalize volB ⟨⟨a,b,c⟩,⟨d,e,f⟩⟩=v at *
 generalize (sizeB ⟨⟨a,b,c⟩,⟨d,e,f⟩⟩)=s at *
 obtain ⟨sx,sy,sz⟩:=s
 simp only [] at hsz hat hin hvd hbd
 have x0:0<sx:=by
  rcases Int.lt_or_le 0 sx with h | h
  · exact h
  · obtain rfl:sx=0:=by omega
    simp at hvd;omega
 have y0:0<sy:=by
  rcases Int.lt_or_le 0 sy with h | h
  · exact h
  · obtain rfl:sy=0:=by omega
    simp at hvd;omega
 have q0:0≤i / sx:=Int.ediv_nonneg h0 (by omega)
 have q1:i / sx≤i:=Int.ediv_le_self _ h0
 have q2:0≤i / sx / sy:=Int.ediv_nonneg q0 (by omega)
 have q3:i / sx / sy≤i / sx:=Int.ediv_le_self _ q0
 have m1:=Int.emod_nonneg i (show sx ≠ 0 by omega)
 have m2:=Int.emod_lt_of_pos i x0
 have m3:=Int.emod_nonneg (i / sx) (show sy ≠ 0 by omega)
 have m4:=Int.emod_lt_of_pos (i / sx) y0
 have t1:i.tdiv sx=i / sx:=Int.tdiv_eq_ediv_of_nonneg h0
 have t2:i.tmod sx=i % sx:=Int.tmod_eq_emod_of_nonneg h0
 have t3:(i / sx).tdiv sy=i / sx / sy:=Int.tdiv_eq_ediv_of_nonneg q0
 have t4:(i / sx).tmod sy=i / sx % sy:=Int.tmod_eq_emod_of_nonneg q0
 generalize hq:i / sx=qi at *
 generalize hr:i % sx=ri at *
 generalize hj:qi % sy=rj at *
 generalize hk:qi / sy=qk at *
 have nx:(sx == 0)=false:=by simp;omega
 have ny:(sy == 0)=false:=by simp;omega
 have nx':sx ≠ 0:=by omega
 have ny':sy ≠ 0:=by omega
 have u1:=IntWalk.i64_in qi (by omega)
 have u2:=IntWalk.i64_in qk (by omega)
 have u3:=IntWalk.wrap64_in qi (by omega)
 have u4:=IntWalk.wrap64_in qk (by omega)
 have hadd:=Bx.mk fun W=>ref_add a b c ri rj qk (by omega) (by omega) (by omega) (by omega) (by omega) (by omega) W
 clear hvb hvd hbd q0 q1 q2 q3 m1 m2 m3 m4 hin s1 s2 s3 s4 s5 s6 x0 y0 hq hr hj hk
 go_enter Tryz.func82,Tryz.ntmps82
 go_wp2_with fail
 generalize hW:World.alloc (World.alloc w _) _=W
 have hSz:=sz2 hW
 have hB:=bl2 hW
 have kb:Bk W (w.heap.size) #[a,b,c,d,e,f] 25:=bk1 hW
 have kr:Bk W (w.heap.size+1) #[(0:Int),(0:Int),(0:Int)] 23:=bk0 hW
 clear hW
 refine (hv.out _).mono ?_
 rintro e' w1 ⟨rfl,hb⟩
 replace hB:=hB.trans (hb.mono hB.size)
 replace kb:=kb.later hb
 replace kr:=kr.later hb
 replace hSz:=Nat.le_trans hSz hb.size
 clear hb
 obtain ⟨cb0,cb1,cb2,cb3,cb4,cb5⟩:=kb.c6
 go_wp2_with fail
 refine (hsz.out _).mono ?_
 rintro e' w2 ⟨rfl,hb⟩
 clear cb0 cb1 cb2 cb3 cb4 cb5
 replace hB:=hB.trans (hb.mono hB.size)
 replace kb:=kb.later hb
 replace kr:=kr.later hb
 replace hSz:=Nat.le_trans hSz hb.size
 clear hb
 go_wp2_with fail
 generalize hW1:World.alloc w2 _=W2
 have ks:Bk W2 w2.heap.size #[sx,sy,sz] 23:=bk0 hW1 rfl
 have hb:=bl1 hW1
 clear hW1
 replace hB:=hB.trans (hb.mono hB.size)
 replace kb:=kb.later hb
 replace kr:=kr.later hb
 replace hSz:=Nat.le_trans hSz hb.size
 clear hb
 obtain ⟨cb0,cb1,cb2,cb3,cb4,cb5⟩:=kb.r6
 obtain ⟨cs0,cs1,cs2⟩:=ks.r3
 have q0:=Bx.mk fun dk osk=>Calls.regrown_of (hadd.out (grow (redrawn W2 dk) osk))
 refine wp_region_headT_below 22 (by kernel_rfl) (by kernel_rfl) ?_
 simp only [List.take_succ_cons,List.take_zero,List.drop_succ_cons,List.drop_zero]
 repeat (first | go_big_quiet_step ((first | with_reducible exact q0.out _ _)) | quiet_step (first | with_reducible exact q0.out _ _))
 refine wpQuiet_nil ?_
 rintro _ ⟨⟨dq,osq⟩,rfl⟩
 have hb:=below_regrown W2 dq osq
 replace hB:=hB.trans (hb.mono hB.size)
 clear cb0 cb1 cb2 cb3 cb4 cb5
 clear cs0 cs1 cs2
 clear q0
 replace kb:=kb.later hb
 replace kr:=kr.later hb
 replace ks:=ks.later hb
 replace hSz:=Nat.le_trans hSz hb.size
 clear hb
 generalize grow (redrawn W2 dq) osq=W3 at *
 obtain ⟨fr0,fr1,fr2⟩:=kr.f3
 obtain ⟨cr0,cr1,cr2⟩:=kr.c3
 go_wp2_with fail
 replace kr:=kr.put3 (.int .i64 (a+ri)) (.int .i64 (b+rj)) (.int .i64 (c+qk))
 obtain ⟨z0,z1,z2⟩:=kr.c3
 exact bodyPost_ret (v:=.tuple #[.agg #[.int .i64 (a+ri),.int .i64 (b+rj),.int .i64 (c+qk)],.bool true]) (by simp [results,Tryz.results82,go_sem,z0,z1,z2]) rfl ⟨by rw [hat.out],blw3 hB (by omega) _ _ _⟩
theorem ref_index (a b c d e f px py pz:Int) (hS:Small ⟨⟨a,b,c⟩,⟨d,e,f⟩⟩ 1048575) (w:World) :
 Calls Tryz.prog 42 #[.agg #[a,b,c,d,e,f],.agg #[px,py,pz]] w fun e' w'=>e' = .returned (.int .i64 (indexB ⟨⟨a,b,c⟩,⟨d,e,f⟩⟩ ⟨px,py,pz⟩))∧Below w.heap.size w w':=by
 cases hin:inB ⟨px,py,pz⟩ ⟨⟨a,b,c⟩,⟨d,e,f⟩⟩ with
 | false =>
   have hv:=Bx.mk (show indexB ⟨⟨a,b,c⟩,⟨d,e,f⟩⟩ ⟨px,py,pz⟩ = -1 by unfold indexB;rw [if_neg (by simp [hin])])
   have Hin:=Bx.mk (fun W=>ref_in px py pz a b c d e f W)
   rw [hin] at Hin
   clear hin hS
   go_enter Tryz.func42,Tryz.ntmps42
   go_wp2_with fail
   generalize hW:World.alloc (World.alloc w _) _=W
   have hSz:=sz2 hW
   have hB:=bl2 hW
   have kb:Bk W (w.heap.size) #[a,b,c,d,e,f] 25:=bk1 hW
   have kp:Bk W (w.heap.size+1) #[px,py,pz] 23:=bk0 hW
   clear hW
   refine (Hin.out _).mono ?_
   rintro e' w1 ⟨rfl,hb⟩
   go_wp2_with fail
   go_ret
   exact ⟨ret_int hv.out.symm,hB.trans (hb.mono hB.size)⟩
 | true =>
   have hemp:=in_not_empty hin
   have hin':=inB_iff.1 hin
   have hfull:=sizeB_full hemp
   have hv:=Bx.mk (show indexB ⟨⟨a,b,c⟩,⟨d,e,f⟩⟩ ⟨px,py,pz⟩=((pz - c) * (sizeB ⟨⟨a,b,c⟩,⟨d,e,f⟩⟩).y+(py - b)) * (sizeB ⟨⟨a,b,c⟩,⟨d,e,f⟩⟩).x+(px - a) by unfold indexB;rw [if_pos hin])
   have hbd:=indexB_bd hin
   rw [hv.out] at hbd
   have hvb:=(prod_bd ⟨⟨a,b,c⟩,⟨d,e,f⟩⟩ (by decide) hS).2.2
   have hsz:=Bx.mk fun W=>ref_size_any a b c d e f hS W
   have Hin:=Bx.mk (fun W=>ref_in px py pz a b c d e f W)
   rw [hin] at Hin
   obtain ⟨s1,s2,s3,s4,s5,s6⟩:=hS
   simp only [] at s1 s2 s3 s4 s5 s6 hin'
   have hsub:=Bx.mk fun W=>ref_sub px py pz a b c (by omega) (by omega) (by omega) (by omega) (by omega) (by omega) W
   have k1:=Int.mul_nonneg (show 0≤pz - c by omega) (show 0≤(sizeB ⟨⟨a,b,c⟩,⟨d,e,f⟩⟩).y by rw [hfull];simp only [Pt.sub];omega)
   have k2:0≤(sizeB ⟨⟨a,b,c⟩,⟨d,e,f⟩⟩).x:=by rw [hfull];simp only [Pt.sub];omega
   have k3:1≤(sizeB ⟨⟨a,b,c⟩,⟨d,e,f⟩⟩).x:=by rw [hfull];simp only [Pt.sub];omega
   have k4:0≤px - a∧0≤py - b:=by omega
   generalize volB ⟨⟨a,b,c⟩,⟨d,e,f⟩⟩=V at *
   generalize sizeB ⟨⟨a,b,c⟩,⟨d,e,f⟩⟩=s at *
   obtain ⟨sx,sy,sz⟩:=s
   simp only [] at hsz hv hbd k1 k2 k3
   generalize px - a=dx at *
   generalize py - b=dy at *
   generalize pz - c=dz at *
   have k5:(dz * sy+dy)≤(dz * sy+dy) * sx:=by
    have:=Int.mul_le_mul_of_nonneg_left k3 (show 0≤dz * sy+dy by omega)
    rwa [Int.mul_one] at this
   have k6:sy * dz=dz * sy:=Int.mul_comm _ _
   have k7:sx * (dy+sy * dz)=(dz * sy+dy) * sx:=by rw [k6,Int.mul_comm,Int.add_comm dy]
   have hv2:dx+sx * (dy+sy * dz)=(dz * sy+dy) * sx+dx:=by rw [k7];omega
   have m1:=IntWalk.i64_in (sy * dz) (by rw [k6];omega)
   have m2:=IntWalk.i64_in (dy+sy * dz) (by rw [k6];omega)
   have m3:=IntWalk.i64_in (sx * (dy+sy * dz)) (by rw [k7];omega)
   have m4:=IntWalk.i64_in (dx+sx * (dy+sy * dz)) (by rw [k7];omega)
   have w1:=IntWalk.wrap64_in (sy * dz) (by rw [k6];omega)
   have w2:=IntWalk.wrap64_in (dy+sy * dz) (by rw [k6];omega)
   have w3:=IntWalk.wrap64_in (sx * (dy+sy * dz)) (by rw [k7];omega)
   have w4:=IntWalk.wrap64_in (dx+sx * (dy+sy * dz)) (by rw [k7];omega)
   rw [←hv2] at hv
   clear k6 k7 hv2
   clear s1 s2 s3 s4 s5 s6 hin' hin hemp hfull hbd hvb k1 k2 k3 k4 k5
   go_enter Tryz.func42,Tryz.ntmps42
   go_wp2_with fail
   generalize hW:World.alloc (World.alloc w _) _=W
   have hSz:=sz2 hW
   have hB:=bl2 hW
   have kb:Bk W (w.heap.size) #[a,b,c,d,e,f] 25:=bk1 hW
   have kp:Bk W (w.heap.size+1) #[px,py,pz] 23:=bk0 hW
   clear hW
   refine (Hin.out _).mono ?_
   rintro e' w5 ⟨rfl,hb⟩
   replace hB:=hB.trans (hb.mono hB.size)
   replace kb:=kb.later hb
   replace kp:=kp.later hb
   replace hSz:=Nat.le_trans hSz hb.size
   clear hb
   obtain ⟨cb0,cb1,cb2,cb3,cb4,cb5⟩:=kb.c6
   go_wp2_with fail
   refine (hsz.out _).mono ?_
   rintro e' w6 ⟨rfl,hb⟩
   clear cb0 cb1 cb2 cb3 cb4 cb5
   replace hB:=hB.trans (hb.mono hB.size)
   replace kb:=kb.later hb
   replace kp:=kp.later hb
   replace hSz:=Nat.le_trans hSz hb.size
   clear hb
   have hgs:=hSz
   have ab : ∀ o,Bk (w6.alloc o) w.heap.size #[a,b,c,d,e,f] 25:=fun o=>kb.alloc o
   have ap : ∀ o,Bk (w6.alloc o) (w.heap.size+1) #[px,py,pz] 23:=fun o=>kp.alloc o
   have ab0 : ∀ o,(w6.alloc o).cell? ⟨w.heap.size,0,none⟩=some (.int .i64 a):=fun o=>(ab o).cell 0 rfl
   have ab1 : ∀ o,(w6.alloc o).cell? ⟨w.heap.size,1,none⟩=some (.int .i64 b):=fun o=>(ab o).cell 1 rfl
   have ab2 : ∀ o,(w6.alloc o).cell? ⟨w.heap.size,2,none⟩=some (.int .i64 c):=fun o=>(ab o).cell 2 rfl
   have ap0 : ∀ o,(w6.alloc o).cell? ⟨w.heap.size+1,0,none⟩=some (.int .i64 px):=fun o=>(ap o).cell 0 rfl
   have ap1 : ∀ o,(w6.alloc o).cell? ⟨w.heap.size+1,1,none⟩=some (.int .i64 py):=fun o=>(ap o).cell 1 rfl
   have ap2 : ∀ o,(w6.alloc o).cell? ⟨w.heap.size+1,2,none⟩=some (.int .i64 pz):=fun o=>(ap o).cell 2 rfl
   clear ab ap
   go_wp2_with fail
   generalize hW:World.alloc w6 _=W7
   have ks:Bk W7 w6.heap.size #[sx,sy,sz] 23:=bk0 hW rfl
   have hb:Below w6.heap.size w6 W7:=by rw [←hW];exact below_lit _ _
   clear hW ab0 ab1 ab2 ap0 ap1 ap2
   replace hB:=hB.trans (hb.mono hB.size)
   clear hb kb kp hSz hgs
   refine (hsub.out _).mono ?_
   rintro e' w8 ⟨rfl,hb⟩
   replace hB:=hB.trans (hb.mono hB.size)
   replace ks:=ks.later hb
   clear hb
   have as0 : ∀ o,(w8.alloc o).cell? ⟨w6.heap.size,0,none⟩=some (.int .i64 sx):=fun o=>(ks.alloc o).cell 0 rfl
   have as1 : ∀ o,(w8.alloc o).cell? ⟨w6.heap.size,1,none⟩=some (.int .i64 sy):=fun o=>(ks.alloc o).cell 1 rfl
   have as2 : ∀ o,(w8.alloc o).cell? ⟨w6.heap.size,2,none⟩=some (.int .i64 sz):=fun o=>(ks.alloc o).cell 2 rfl
   clear ks
   go_wp2_with fail
   go_ret
   exact ⟨ret_int hv.out.symm,hB.alloc hB.size _⟩
end
section
open Go.RowKit Go.Sort Go.Maps
open Oct
theorem ref_get_out (a b c d e f px py pz:Int) (ha:Option Addr) (hcp:Nat) (xs:List Int) (HX:GoodG ⟨⟨a,b,c⟩,⟨d,e,f⟩⟩ xs hcp) (hin:inB ⟨px,py,pz⟩ ⟨⟨a,b,c⟩,⟨d,e,f⟩⟩=false) (w:World) (_hsl:Sl w .i64 ha xs) :
 Calls Tryz.prog 89 #[.agg #[a,b,c,d,e,f,.slice ha xs.length hcp],.agg #[px,py,pz]] w fun e' w'=>e' = .returned (.int .i64 (cellG ⟨⟨a,b,c⟩,⟨d,e,f⟩⟩ xs ⟨px,py,pz⟩))∧Below w.heap.size w w':=by
 have hi:=Bx.mk (fun W=>ref_index a b c d e f px py pz HX.small W)
 rw [show indexB ⟨⟨a,b,c⟩,⟨d,e,f⟩⟩ ⟨px,py,pz⟩ = -1 by unfold indexB;rw [if_neg (by simp [hin])]] at hi
 rw [show cellG ⟨⟨a,b,c⟩,⟨d,e,f⟩⟩ xs ⟨px,py,pz⟩=0 by unfold cellG;rw [if_neg (by simp [hin])]]
 clear hin HX _hsl
 go_enter Tryz.func89,Tryz.ntmps89
 go_wp2_with fail
 generalize hW:World.alloc (World.alloc w _) _=W
 have hSz:=sz2 hW
 have hB:=bl2 hW
 have kg:Bk W (w.heap.size) #[a,b,c,d,e,f,.slice ha xs.length hcp] 28:=bk1 hW
 have kp:Bk W (w.heap.size+1) #[px,py,pz] 23:=bk0 hW
 clear hW
 refine (hi.out _).mono ?_
 rintro e1 w1 ⟨rfl,hb⟩
 replace hB:=hB.trans (hb.mono hB.size)
 replace kg:=kg.later hb
 replace kp:=kp.later hb
 replace hSz:=Nat.le_trans hSz hb.size
 clear hb
 obtain ⟨cg0,cg1,cg2,cg3,cg4,cg5,cg6⟩:=kg.c7
 go_wp2_with fail
 go_ret
 exact ⟨rfl,hB⟩
theorem ref_get_in (a b c d e f px py pz:Int) (ha:Option Addr) (hcp:Nat) (xs:List Int) (HX:GoodG ⟨⟨a,b,c⟩,⟨d,e,f⟩⟩ xs hcp) (hin:inB ⟨px,py,pz⟩ ⟨⟨a,b,c⟩,⟨d,e,f⟩⟩=true) (w:World) (hsl:Sl w .i64 ha xs) :
 Calls Tryz.prog 89 #[.agg #[a,b,c,d,e,f,.slice ha xs.length hcp],.agg #[px,py,pz]] w fun e' w'=>e' = .returned (.int .i64 (cellG ⟨⟨a,b,c⟩,⟨d,e,f⟩⟩ xs ⟨px,py,pz⟩))∧Below w.heap.size w w':=by
 have hi:=Bx.mk (fun W=>ref_index a b c d e f px py pz HX.small W)
 have hbd:=indexB_bd hin
 have hl:=HX.len
 have hlt:(indexB ⟨⟨a,b,c⟩,⟨d,e,f⟩⟩ ⟨px,py,pz⟩).toNat<xs.length:=by omega
 have hc:cellG ⟨⟨a,b,c⟩,⟨d,e,f⟩⟩ xs ⟨px,py,pz⟩=xs[(indexB ⟨⟨a,b,c⟩,⟨d,e,f⟩⟩ ⟨px,py,pz⟩).toNat]:=by unfold cellG;rw [if_pos hin,Tr.getD_el hlt]
 have hx:=List.getElem?_eq_getElem hlt
 rw [←hc] at hx
 have hle:=HX.le
 obtain ⟨kk,hkk⟩:=Int.eq_ofNat_of_zero_le hbd.1
 rw [hkk] at hi
 rw [hkk,Int.toNat_natCast] at hx hlt
 have hx:=Bx.mk hx
 have hsl:=Bx.mk hsl
 have b1:(0:Int)≤(kk:Int):=by omega
 have b2:(kk:Int)<(xs.length:Int):=by omega
 generalize cellG ⟨⟨a,b,c⟩,⟨d,e,f⟩⟩ xs ⟨px,py,pz⟩=r at *
 clear hbd hl hc hkk hin HX
 go_enter Tryz.func89,Tryz.ntmps89
 go_wp2_with fail
 generalize hW:World.alloc (World.alloc w _) _=W
 have hSz:=sz2 hW
 have hB:=bl2 hW
 have kg:Bk W (w.heap.size) #[a,b,c,d,e,f,.slice ha xs.length hcp] 28:=bk1 hW
 have kp:Bk W (w.heap.size+1) #[px,py,pz] 23:=bk0 hW
 clear hW
 refine (hi.out _).mono ?_
 rintro e1 w1 ⟨rfl,hb⟩
 replace hB:=hB.trans (hb.mono hB.size)
 replace kg:=kg.later hb
 replace kp:=kp.later hb
 replace hSz:=Nat.le_trans hSz hb.size
 clear hb
 obtain ⟨cg0,cg1,cg2,cg3,cg4,cg5,cg6⟩:=kg.c7
 obtain ⟨bb,off,rfl,hcell⟩:=(hsl.out.below hB) _ _ hx.out
 generalize xs.length=n at *
 go_wp2_with fail
 go_ret
 exact ⟨rfl,hB⟩
theorem ref_get (a b c d e f px py pz:Int) (ha:Option Addr) (hcp:Nat) (xs:List Int) (HX:GoodG ⟨⟨a,b,c⟩,⟨d,e,f⟩⟩ xs hcp) (w:World) (hsl:Sl w .i64 ha xs) :
 Calls Tryz.prog 89 #[.agg #[a,b,c,d,e,f,.slice ha xs.length hcp],.agg #[px,py,pz]] w fun e' w'=>e' = .returned (.int .i64 (cellG ⟨⟨a,b,c⟩,⟨d,e,f⟩⟩ xs ⟨px,py,pz⟩))∧Below w.heap.size w w':=by
 cases hin:inB ⟨px,py,pz⟩ ⟨⟨a,b,c⟩,⟨d,e,f⟩⟩ with
 | false=>exact ref_get_out a b c d e f px py pz ha hcp xs HX hin w hsl
 | true=>exact ref_get_in a b c d e f px py pz ha hcp xs HX hin w hsl
def fromE (b:Box) (xs:List Int) (dd:Int):Int:=if dd<2∨14<dd then 13 else if validG b xs=true∧(emptyB b=true∨containsB ⟨⟨0,0,0⟩,⟨2 ^ dd.toNat,2 ^ dd.toNat,2 ^ dd.toNat⟩⟩ b=true) then 0 else 1
theorem goodG_of {b:Box} {xs:List Int} {hcp:Nat} (h:validG b xs=true) (hl:xs.length≤300) (hc:xs.length≤hcp):GoodG b xs hcp:=by
 simp only [validG,Bool.and_eq_true,decide_eq_true_eq] at h
 obtain ⟨⟨⟨⟨h1,_⟩,_⟩,h2⟩,h3⟩:=h
 exact ⟨okB_small h1,by omega,hl,all_cell h3,hc⟩
theorem fromE_zero {b:Box} {xs:List Int} {dd:Int} (h:fromE b xs dd=0) : ∃ n:Nat,n≤12∧dd=(n:Int)+2∧validG b xs=true∧(emptyB b=true∨containsB ⟨⟨0,0,0⟩,⟨2 ^ (n+2),2 ^ (n+2),2 ^ (n+2)⟩⟩ b=true):=by
 unfold fromE at h
 split at h
 · cases h
 · rename_i h1
   split at h
   · rename_i h2
     refine ⟨(dd - 2).toNat,by omega,by omega,h2.1,?_⟩
     rw [show (dd - 2).toNat+2=dd.toNat by omega]
     exact h2.2
   · cases h
theorem from_yes (w:World) (sb:Nat) (a b c d e f:Int) (ha:Option Addr) (hcp:Nat) (xs:List Int) (n:Nat) (hn:n≤12) (hsl:Sl w .i64 ha xs) (HX:GoodH ⟨⟨a,b,c⟩,⟨d,e,f⟩⟩ xs hcp) (hV:validG ⟨⟨a,b,c⟩,⟨d,e,f⟩⟩ xs=true) (hC:emptyB ⟨⟨a,b,c⟩,⟨d,e,f⟩⟩=true∨containsB ⟨⟨0,0,0⟩,⟨2 ^ (n+2),2 ^ (n+2),2 ^ (n+2)⟩⟩ ⟨⟨a,b,c⟩,⟨d,e,f⟩⟩=true)
 (Far:Nat→Prop) (hfx:xs ≠ [] → ∀ b,ha.map (·.block)=some b→Far b) (most:Int) (ts:List Tr) (hG:Good ts) (hlen:ts.length≤100000000000) (hFar : ∀ k,Far k→k<w.heap.size) (hS:StoreIs w Far sb most ts) :
 Calls Tryz.prog 33 #[.pointer (some ⟨sb,0,none⟩),.agg #[a,b,c,d,e,f,.slice ha xs.length hcp],.int .i64 ((n:Int)+2)] w (Done Far sb most ts (Tr.add (Tr.can (cellG ⟨⟨a,b,c⟩,⟨d,e,f⟩⟩ xs) n ⟨0,0,0⟩) ts) (Tr.can (cellG ⟨⟨a,b,c⟩,⟨d,e,f⟩⟩ xs) n ⟨0,0,0⟩) w):=by
 have hl:=can_len (f:=cellG ⟨⟨a,b,c⟩,⟨d,e,f⟩⟩ xs) hn ⟨0,0,0⟩ ts
 have hxl:=HX.le
 cases hEm:emptyB ⟨⟨a,b,c⟩,⟨d,e,f⟩⟩ with
 | true=>exact from_emp w sb a b c d e f ha hcp xs n hn _ rfl (by omega) hsl HX hV hEm Far hfx most ts hG (by omega) hFar hS
 | false =>
   rw [hEm] at hC
   exact from_con w sb a b c d e f ha hcp xs n hn _ rfl (by omega) hsl HX hV hEm (hC.resolve_left (by simp)) Far hfx most ts hG (by omega) hFar hS
end
section
open Oct
open Classical in
noncomputable def cn (L:List Pt) (n:Nat) (a:Pt):Nat:=(L.filter fun p=>decide (Tr.InC n a p)).length
open Classical in
theorem cn_cons (p:Pt) (L:List Pt) (n:Nat) (a:Pt):cn (p::L) n a=(if Tr.InC n a p then 1 else 0)+cn L n a:=by
 unfold cn
 rw [List.filter_cons]
 by_cases h:Tr.InC n a p
 · simp [h];omega
 · simp [h]
theorem one_of (k:Fin 8):(List.ofFn fun i:Fin 8=>if i=k then (1:Nat) else 0).sum=1:=by revert k;decide
theorem sum_le8 {f g:Fin 8→Nat} (h : ∀ i,f i≤g i):(List.ofFn f).sum≤(List.ofFn g).sum:=by
 have h0:=h 0
 have h1:=h 1
 have h2:=h 2
 have h3:=h 3
 have h4:=h 4
 have h5:=h 5
 have h6:=h 6
 have h7:=h 7
 simp only [List.ofFn_succ,List.ofFn_zero,List.sum_cons,List.sum_nil]
 simp only [Fin.reduceSucc,Fin.isValue] at *
 omega
theorem sum_add8 (f g:Fin 8→Nat):(List.ofFn fun i=>f i+g i).sum=(List.ofFn f).sum+(List.ofFn g).sum:=by
 simp only [List.ofFn_succ,List.ofFn_zero,List.sum_cons,List.sum_nil]
 omega
theorem sum_zero8:(List.ofFn fun _:Fin 8=>(0:Nat)).sum=0:=by decide
theorem cn_kids (n:Nat) (a:Pt) (ha:Tr.Al (n+1) a) : ∀ L:List Pt,(List.ofFn fun i:Fin 8=>cn L n (Tr.cor a n i.val)).sum≤cn L (n+1) a
 | [] => by
   have : ∀ i:Fin 8,cn [] n (Tr.cor a n i.val)=0:=fun i=>by simp [cn]
   simp only [this]
   rw [sum_zero8];omega
 | p :: L => by
   classical
   have ih:=cn_kids n a ha L
   have e : ∀ i:Fin 8,cn (p::L) n (Tr.cor a n i.val)=(if Tr.InC n (Tr.cor a n i.val) p then 1 else 0)+cn L n (Tr.cor a n i.val):=fun i=>cn_cons p L n _
   simp only [e]
   rw [sum_add8,cn_cons]
   have h1:(List.ofFn fun i:Fin 8=>if Tr.InC n (Tr.cor a n i.val) p then 1 else 0).sum≤if Tr.InC (n+1) a p then 1 else 0:=by
    by_cases h:Tr.InC (n+1) a p
    · rw [if_pos h]
      have:=sum_le8 (f:=fun i:Fin 8=>if Tr.InC n (Tr.cor a n i.val) p then 1 else 0) (g:=fun i:Fin 8=>if i=Tr.oct n p then 1 else 0) (fun i=>by
       by_cases hi:Tr.InC n (Tr.cor a n i.val) p
       · rw [if_pos hi,if_pos (Tr.inC_other ha hi).1];omega
       · rw [if_neg hi];omega)
      rw [one_of] at this
      exact this
    · rw [if_neg h]
      have:=sum_le8 (f:=fun i:Fin 8=>if Tr.InC n (Tr.cor a n i.val) p then 1 else 0) (g:=fun _=>0) (fun i=>by
       by_cases hi:Tr.InC n (Tr.cor a n i.val) p
       · exact absurd (Tr.inC_other ha hi).2 h
       · rw [if_neg hi];omega)
      rw [sum_zero8] at this
      exact this
   omega
theorem cn_le (L:List Pt) (n:Nat) (a:Pt):cn L n a≤L.length:=by unfold cn;exact List.length_filter_le _ _
theorem cn_pos {L:List Pt} {n:Nat} {a p:Pt} (h:p∈L) (h':Tr.InC n a p):0<cn L n a:=by
 classical
 unfold cn
 exact List.length_pos_of_mem (List.mem_filter.2 ⟨h,by simpa using h'⟩)
open Classical in
noncomputable def phi (ts:List Tr):Nat:=ts.length+if Tr.uni 0∈ts then 0 else 1
theorem phi_le (ts:List Tr):ts.length≤phi ts∧phi ts≤ts.length+1:=by unfold phi;split <;> omega
theorem phi_ins (t:Tr) (ts:List Tr):phi (Tr.ins t ts)≤phi ts+1:=by
 by_cases h:t∈ts
 · rw [Tr.ins_of_mem h];omega
 · rw [Tr.ins_of_not h]
   unfold phi
   rw [List.length_append,List.length_singleton]
   by_cases h0:Tr.uni 0∈ts
   · rw [if_pos h0,if_pos (by simp [h0])];omega
   · rw [if_neg h0];split <;> omega
theorem phi_zero (ts:List Tr):phi (Tr.add (.uni 0) ts)≤phi ts:=by
 rw [Tr.add_uni]
 by_cases h:Tr.uni 0∈ts
 · rw [Tr.ins_of_mem h];omega
 · rw [Tr.ins_of_not h]
   unfold phi
   rw [if_neg h,if_pos (by simp),List.length_append,List.length_singleton];omega
theorem phi_can {f:Pt→Int} (hf : ∀ p,0≤f p∧f p≤255) (L:List Pt) : ∀ (n:Nat) (a:Pt) (ts:List Tr),n≤200→Tr.Al n a→Good ts→(∀ p,Tr.InC n a p→f p ≠ 0→p∈L) →
 phi (Tr.add (Tr.can f n a) ts)≤phi ts+(n+1) * cn L n a:=by
 intro n
 induction n with
 | zero =>
   intro a ts hn ha hG hL
   by_cases hc:cn L 0 a=0
   · rw [can_zero 0 a f ha (fun p hp=>Classical.byContradiction fun h=>by have:=cn_pos (hL p hp h) hp;omega)]
     have:=phi_zero ts;omega
   · have h1:phi (Tr.add (Tr.can f 0 a) ts)≤phi ts+1:=by
      unfold Tr.can Tr.mkBrick
      split
      · rw [Tr.add_uni];exact phi_ins _ _
      · rw [Tr.add_brick];exact phi_ins _ _
     omega
 | succ n ih =>
   intro a ts hn ha hG hL
   by_cases hc:cn L (n+1) a=0
   · rw [can_zero (n+1) a f ha (fun p hp=>Classical.byContradiction fun h=>by have:=cn_pos (hL p hp h) hp;omega)]
     have:=phi_zero ts;omega
   · have hW : ∀ i:Fin 8,Tr.WF (Tr.can f n (Tr.cor a n i.val)):=fun i=>wf_can hf n _ (by omega)
     have key : ∀ k,k≤8→phi (Tr.addK (fun i:Fin 8=>Tr.can f n (Tr.cor a n i.val)) k ts)≤phi ts+(n+1) * ((List.ofFn fun i:Fin 8=>cn L n (Tr.cor a n i.val)).take k).sum:=by
      intro k
      induction k with
      | zero=>intro _;rw [Tr.addK_zero];simp
      | succ k ihk =>
        intro hk
        rw [Tr.addK_succ _ (by omega)]
        have h2:=ihk (by omega)
        have h1:=ih (Tr.cor a n k) (Tr.addK (fun i:Fin 8=>Tr.can f n (Tr.cor a n i.val)) k ts) (by omega) (Tr.al_cor ha k) (good_addK hG hW k (by omega)) (fun p hp h=>hL p (Tr.inC_other ha (i:=⟨k,by omega⟩) hp).2 h)
        rw [List.take_succ_eq_append_getElem (by simpa using (show k<8 by omega)),List.sum_append]
        simp only [List.getElem_ofFn,List.sum_cons,List.sum_nil,Nat.add_zero]
        rw [Nat.mul_add]
        omega
     have h8:=key 8 (Nat.le_refl _)
     rw [List.take_of_length_le (by simp)] at h8
     have hk:=Nat.mul_le_mul_left (n+1) (cn_kids n a ha L)
     have hin:phi (Tr.add (Tr.can f (n+1) a) ts)≤phi (Tr.addK (fun i:Fin 8=>Tr.can f n (Tr.cor a n i.val)) 8 ts)+1:=by
      show phi (Tr.add (Tr.mkInner (n+3) fun i=>Tr.can f n (Tr.cor a n i.val)) ts)≤_
      rw [Tr.inner_add hG.closed]
      split
      · omega
      · exact phi_ins _ _
     have e:(n+1+1) * cn L (n+1) a=(n+1) * cn L (n+1) a+cn L (n+1) a:=Nat.succ_mul _ _
     omega
def ptsB (b:Box):List Pt:=(List.range (volB b).toNat).map fun i:Nat=>atB b (i:Int)
theorem mem_pts {b:Box} {p:Pt} (h:inB p b=true):p∈ptsB b:=by
 have hi:=indexB_bd h
 refine List.mem_map.2 ⟨(indexB b p).toNat,List.mem_range.2 (by omega),?_⟩
 rw [Int.toNat_of_nonneg hi.1,at_index h]
theorem can_few {b:Box} {xs:List Int} {hcp n:Nat} (HX:GoodG b xs hcp) (hn:n≤12) {ts:List Tr} (hG:Good ts):(Tr.add (Tr.can (cellG b xs) n ⟨0,0,0⟩) ts).length≤ts.length+3901:=by
 have h1:=phi_can HX.range (ptsB b) n ⟨0,0,0⟩ ts (by omega) (al_zero n) hG (fun p _ h=>mem_pts (by
  cases hp:inB p b with
  | true=>rfl
  | false=>exact absurd (by unfold cellG;rw [if_neg (by simp [hp])]) h))
 have h2:=cn_le (ptsB b) n ⟨0,0,0⟩
 have h3:(ptsB b).length≤300:=by
  unfold ptsB
  rw [List.length_map,List.length_range,←HX.len];exact HX.le
 have h4:=(phi_le (Tr.add (Tr.can (cellG b xs) n ⟨0,0,0⟩) ts)).1
 have h5:=(phi_le ts).2
 have h6:(n+1) * cn (ptsB b) n ⟨0,0,0⟩≤13 * 300:=Nat.mul_le_mul (by omega) (by omega)
 omega
end
section
open Go.RowKit Go.Sort Go.Maps
open Oct
theorem good_nil:Good []:=⟨Tr.Closed.nil,fun t h=>by cases h⟩
end
end Go.Proofs.YtfcbajmjaifjlaaGreat
