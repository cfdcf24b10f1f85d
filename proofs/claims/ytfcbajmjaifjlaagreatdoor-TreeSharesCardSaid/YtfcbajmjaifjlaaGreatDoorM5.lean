/- Pnt2, Pnt3, Eq, Pnt4: joined by program, for one claim. -/
import Derived.Test.YtfcbajmjaifjlaaGreatDoorM4
import Derived.Laws.StructEq
set_option maxHeartbeats 1000000
set_option maxRecDepth 100000
set_option linter.unusedVariables false
set_option linter.unusedSimpArgs false
namespace Go.Proofs.YtfcbajmjaifjlaaGreatDoor
section
open Go.RowKit Go.Sort
theorem zG1 (a b c d e f:Int) (hS:Small ⟨⟨a,b,c⟩,⟨d,e,f⟩⟩ 1048575) (w:World) :
 Calls Tryz.prog 138 #[.agg #[a,b,c,d,e,f]] w fun e' w'=>e' = .returned (.agg #[.int .i64 (zR ⟨⟨a,b,c⟩,⟨d,e,f⟩⟩).x,.int .i64 (zR ⟨⟨a,b,c⟩,⟨d,e,f⟩⟩).y,.int .i64 (zR ⟨⟨a,b,c⟩,⟨d,e,f⟩⟩).z])∧Below w.heap.size w w':=by
 obtain ⟨s1,s2,s3,s4,s5,s6⟩:=hS;simp only [] at s1 s2 s3 s4 s5 s6;cases he:zG ⟨⟨a,b,c⟩,⟨d,e,f⟩⟩ with
 | true =>
   have hz:zR ⟨⟨a,b,c⟩,⟨d,e,f⟩⟩=Pt.zero:=by unfold zR;rw [if_pos he]
   have Hz:=Bx.mk hz;have He:=Bx.mk he;clear hz he;go_enter Tryz.func138,Tryz.ntmps138;go_wp2_with fail;generalize hW:World.alloc (World.alloc w _) _=W;have hSz:=sz2 hW;have hB:=bl2 hW;have kb:Bk W (w.heap.size) #[a,b,c,d,e,f] 25:=bk1 hW;have kr:Bk W (w.heap.size+1) #[(0:Int),(0:Int),(0:Int)] 23:=bk0 hW;clear hW;refine (zj _ _ _ _ _ _ _).mono ?_;rintro e' w1 ⟨rfl,hb⟩;rw [He.out];replace hB:=hB.trans (hb.mono hB.size);replace kb:=kb.later hb;replace kr:=kr.later hb;replace hSz:=Nat.le_trans hSz hb.size;clear hb;obtain ⟨cb0,cb1,cb2,cb3,cb4,cb5⟩:=kb.c6;obtain ⟨cr0,cr1,cr2⟩:=kr.c3;obtain ⟨fr0,fr1,fr2⟩:=kr.f3;go_wp2_with fail;replace kr:=kr.put3 (.int .i64 0) (.int .i64 0) (.int .i64 0);exact bodyPost_ret (v:=.agg #[(0:Int),(0:Int),(0:Int)]) (results_cell_row rfl _ _ _ 23 #[(0:Int),(0:Int),(0:Int)] (0,0) _ rfl kr Tryz.underlying23 rfl (by kernel_rfl)) rfl ⟨by rw [Hz.out];rfl,zF3 hB (by omega) _ _ _⟩
 | false =>
   have hz:zR ⟨⟨a,b,c⟩,⟨d,e,f⟩⟩=⟨d - a,e - b,f - c⟩:=by unfold zR;rw [if_neg (by simp [he])];rfl
   have Hz:=Bx.mk hz;have He:=Bx.mk he;have hemp:=za.1 he;simp only [] at hemp;clear hz he;have hsub:=Bx.mk fun W=>zI8 d e f a b c (by omega) (by omega) (by omega) W
   rw [IntWalk.wrap64_in (d - a) (by omega),IntWalk.wrap64_in (e - b) (by omega),IntWalk.wrap64_in (f - c) (by omega)] at hsub
   clear hemp s1 s2 s3 s4 s5 s6;go_enter Tryz.func138,Tryz.ntmps138;go_wp2_with fail;generalize hW:World.alloc (World.alloc w _) _=W;have hSz:=sz2 hW;have hB:=bl2 hW;have kb:Bk W (w.heap.size) #[a,b,c,d,e,f] 25:=bk1 hW;have kr:Bk W (w.heap.size+1) #[(0:Int),(0:Int),(0:Int)] 23:=bk0 hW;clear hW;refine (zj _ _ _ _ _ _ _).mono ?_;rintro e' w1 ⟨rfl,hb⟩;rw [He.out];replace hB:=hB.trans (hb.mono hB.size);replace kb:=kb.later hb;replace kr:=kr.later hb;replace hSz:=Nat.le_trans hSz hb.size;clear hb;obtain ⟨cb0,cb1,cb2,cb3,cb4,cb5⟩:=kb.c6;obtain ⟨cr0,cr1,cr2⟩:=kr.c3;go_wp2_with fail;refine (hsub.out _).mono ?_;rintro e' w2 ⟨rfl,hb⟩;clear cb0 cb1 cb2 cb3 cb4 cb5 cr0 cr1 cr2;replace hB:=hB.trans (hb.mono hB.size);replace kb:=kb.later hb;replace kr:=kr.later hb;replace hSz:=Nat.le_trans hSz hb.size;clear hb;obtain ⟨cr0,cr1,cr2⟩:=kr.c3;obtain ⟨fr0,fr1,fr2⟩:=kr.f3;go_wp2_with fail;replace kr:=kr.put3 (.int .i64 (d - a)) (.int .i64 (e - b)) (.int .i64 (f - c));exact bodyPost_ret (v:=.agg #[.int .i64 (d - a),.int .i64 (e - b),.int .i64 (f - c)]) (results_cell_row rfl _ _ _ 23 #[.int .i64 (d - a),.int .i64 (e - b),.int .i64 (f - c)] (0,0) _ rfl kr Tryz.underlying23 rfl (by kernel_rfl)) rfl ⟨by rw [Hz.out],zF3 hB (by omega) _ _ _⟩
theorem zCW (a b c d e f:Int) (hS:Small ⟨⟨a,b,c⟩,⟨d,e,f⟩⟩ 1048575) (w:World) :
 Calls Tryz.prog 134 #[.agg #[a,b,c,d,e,f]] w fun e' w'=>e' = .returned (.int .i64 (zU ⟨⟨a,b,c⟩,⟨d,e,f⟩⟩))∧Below w.heap.size w w':=by
 have hsz:=Bx.mk fun W=>zG1 a b c d e f hS W;have hv:=Bx.mk (show zU ⟨⟨a,b,c⟩,⟨d,e,f⟩⟩=(zR ⟨⟨a,b,c⟩,⟨d,e,f⟩⟩).x * (zR ⟨⟨a,b,c⟩,⟨d,e,f⟩⟩).y * (zR ⟨⟨a,b,c⟩,⟨d,e,f⟩⟩).z from rfl);obtain ⟨⟨p1,p2⟩,p3,p4⟩:=zDV ⟨⟨a,b,c⟩,⟨d,e,f⟩⟩ (by decide) hS
 rw [show zU ⟨⟨a,b,c⟩,⟨d,e,f⟩⟩=(zR ⟨⟨a,b,c⟩,⟨d,e,f⟩⟩).x * (zR ⟨⟨a,b,c⟩,⟨d,e,f⟩⟩).y * (zR ⟨⟨a,b,c⟩,⟨d,e,f⟩⟩).z from rfl] at p3 p4;clear hS;generalize (zR ⟨⟨a,b,c⟩,⟨d,e,f⟩⟩)=s at *;obtain ⟨sx,sy,sz⟩:=s;simp only [] at *;have m1:=IntWalk.i64_in (sx * sy) (by omega)
 have m2:=IntWalk.i64_in (sx * sy * sz) (by omega)
 have m3:=IntWalk.wrap64_in (sx * sy) (by omega)
 have m4:=IntWalk.wrap64_in (sx * sy * sz) (by omega)
 clear p1 p2 p3 p4;go_enter Tryz.func134,Tryz.ntmps134;go_wp2_with fail;generalize hW:World.alloc w _=W;have hSz:=sz1 hW;have hB:=bl1 hW;have kb:Bk W (w.heap.size) #[a,b,c,d,e,f] 25:=bk0 hW;clear hW;refine (hsz.out _).mono ?_;rintro e' w1 ⟨rfl,hb⟩;replace hB:=hB.trans (hb.mono hB.size);replace kb:=kb.later hb;replace hSz:=Nat.le_trans hSz hb.size;clear hb;go_wp2_with fail;go_ret;exact ⟨zY (by rw [hv.out]),hB.alloc hB.size _⟩
theorem zCH (a b c d e f px py pz:Int) (hS:Small ⟨⟨a,b,c⟩,⟨d,e,f⟩⟩ 1048575) (w:World) :
 Calls Tryz.prog 99 #[.agg #[a,b,c,d,e,f],.agg #[px,py,pz]] w fun e' w'=>e' = .returned (.int .i64 (zT ⟨⟨a,b,c⟩,⟨d,e,f⟩⟩ ⟨px,py,pz⟩))∧Below w.heap.size w w':=by
 cases hin:inB ⟨px,py,pz⟩ ⟨⟨a,b,c⟩,⟨d,e,f⟩⟩ with
 | false =>
   have hv:=Bx.mk (show zT ⟨⟨a,b,c⟩,⟨d,e,f⟩⟩ ⟨px,py,pz⟩ = -1 by unfold zT;rw [if_neg (by simp [hin])])
   have Hin:=Bx.mk hin;clear hin hS;go_enter Tryz.func99,Tryz.ntmps99;go_wp2_with fail;generalize hW:World.alloc (World.alloc w _) _=W;have hSz:=sz2 hW;have hB:=bl2 hW;have kb:Bk W (w.heap.size) #[a,b,c,d,e,f] 25:=bk1 hW;have kp:Bk W (w.heap.size+1) #[px,py,pz] 23:=bk0 hW;clear hW;refine (zFm _ _ _ _ _ _ _ _ _ _).mono ?_;rintro e' w1 ⟨rfl,hb⟩;rw [Hin.out];go_wp2_with fail;go_ret;exact ⟨zY hv.out.symm,hB.trans (hb.mono hB.size)⟩
 | true =>
   have hemp:=zt hin;have hin':=zX.1 hin;have hfull:=zc hemp;have hv:=Bx.mk (show zT ⟨⟨a,b,c⟩,⟨d,e,f⟩⟩ ⟨px,py,pz⟩=((pz - c) * (zR ⟨⟨a,b,c⟩,⟨d,e,f⟩⟩).y+(py - b)) * (zR ⟨⟨a,b,c⟩,⟨d,e,f⟩⟩).x+(px - a) by unfold zT;rw [if_pos hin])
   have hbd:=ze hin;rw [hv.out] at hbd;have hvb:=(zDV ⟨⟨a,b,c⟩,⟨d,e,f⟩⟩ (by decide) hS).2.2
   have hsz:=Bx.mk fun W=>zG1 a b c d e f hS W;have Hin:=Bx.mk hin;obtain ⟨s1,s2,s3,s4,s5,s6⟩:=hS;simp only [] at s1 s2 s3 s4 s5 s6 hin';have hsub:=Bx.mk fun W=>zI8 px py pz a b c (by omega) (by omega) (by omega) W
   rw [IntWalk.wrap64_in (px - a) (by omega),IntWalk.wrap64_in (py - b) (by omega),IntWalk.wrap64_in (pz - c) (by omega)] at hsub
   have k1:=Int.mul_nonneg (show 0≤pz - c by omega) (show 0≤(zR ⟨⟨a,b,c⟩,⟨d,e,f⟩⟩).y by rw [hfull];simp only [Pt.sub];omega)
   have k2:0≤(zR ⟨⟨a,b,c⟩,⟨d,e,f⟩⟩).x:=by rw [hfull];simp only [Pt.sub];omega
   have k3:1≤(zR ⟨⟨a,b,c⟩,⟨d,e,f⟩⟩).x:=by rw [hfull];simp only [Pt.sub];omega
   have k4:0≤px - a∧0≤py - b:=by omega
   generalize zU ⟨⟨a,b,c⟩,⟨d,e,f⟩⟩=V at *;generalize zR ⟨⟨a,b,c⟩,⟨d,e,f⟩⟩=s at *;obtain ⟨sx,sy,sz⟩:=s;simp only [] at hsz hv hbd k1 k2 k3;generalize px - a=dx at *;generalize py - b=dy at *;generalize pz - c=dz at *
   have k5:(dz * sy+dy)≤(dz * sy+dy) * sx:=by
    have:=Int.mul_le_mul_of_nonneg_left k3 (show 0≤dz * sy+dy by omega)
    rwa [Int.mul_one] at this
   have m1:=IntWalk.i64_in (dz * sy) (by omega)
   have m3:=IntWalk.i64_in ((dz * sy+dy) * sx) (by omega)
   have w1:=IntWalk.wrap64_in (dz * sy) (by omega)
   have w3:=IntWalk.wrap64_in ((dz * sy+dy) * sx) (by omega)
   have w2:=IntWalk.wrap64_in (dz * sy+dy) (by omega)
   have w4:=IntWalk.wrap64_in ((dz * sy+dy) * sx+dx) (by omega)
   have m2:=IntWalk.i64_in (dz * sy+dy) (by omega)
   have m4:=IntWalk.i64_in ((dz * sy+dy) * sx+dx) (by omega)
   clear s1 s2 s3 s4 s5 s6 hin' hin hemp hfull hbd hvb k1 k2 k3 k4 k5;go_enter Tryz.func99,Tryz.ntmps99;go_wp2_with fail;generalize hW:World.alloc (World.alloc w _) _=W;have hSz:=sz2 hW;have hB:=bl2 hW;have kb:Bk W (w.heap.size) #[a,b,c,d,e,f] 25:=bk1 hW;have kp:Bk W (w.heap.size+1) #[px,py,pz] 23:=bk0 hW;clear hW;refine (zFm _ _ _ _ _ _ _ _ _ _).mono ?_;rintro e' W2 ⟨rfl,hb⟩;rw [Hin.out];replace hB:=hB.trans (hb.mono hB.size);replace kb:=kb.later hb;replace kp:=kp.later hb;replace hSz:=Nat.le_trans hSz hb.size;clear hb;go_wp2_with fail;obtain ⟨cb0,cb1,cb2,cb3,cb4,cb5⟩:=kb.r6;obtain ⟨cp0,cp1,cp2⟩:=kp.r3;have q0:=Bx.mk fun dk osk=>(hsz.out (grow (redrawn W2 dk) osk));have q1:=Bx.mk fun dk osk=>(hsub.out (grow (redrawn W2 dk) osk));refine zg 6 2 (fun j=>[5,6].getD j 0) (fun j=>[12,16].getD j 0) (fun j=>[23,23].getD j 0) (fun _=>#[.int .i64 0,.int .i64 0,.int .i64 0]) (fun j=>[#[.int .i64 sx,.int .i64 sy,.int .i64 sz],#[.int .i64 dx,.int .i64 dy,.int .i64 dz]].getD j #[]) (by kernel_rfl) (by kernel_rfl) ⟨fun j hj=>?_,fun j hj=>?_⟩ 31 (by kernel_rfl) (by rfl) ?_
   · match j,hj with
     | 0,_=>exact ⟨_,rfl,rfl,rfl,zHV _ rfl⟩
     | 1,_=>exact ⟨_,rfl,rfl,rfl,zHV _ rfl⟩
     | j+2,hj=>omega
   · match j,hj with
     | 0,_=>exact ⟨_,rfl,rfl,rfl,fun ρ w g h1 h2 hb=>zG0 _ 5 12 rfl _ _ _ _ _ _ ρ w g h1 h2 hb⟩
     | 1,_=>exact ⟨_,rfl,rfl,rfl,fun ρ w g h1 h2 hb=>zG0 _ 6 16 rfl _ _ _ _ _ _ ρ w g h1 h2 hb⟩
     | j+2,hj=>omega
   simp only [List.take_succ_cons,List.take_zero]
   repeat (refine zAB (fun K hK=>?_);go_simp;first | (refine hK _ ?_;clear hK K) | (apply Exists.intro;refine ⟨fun _=>?_,hK _ ?_⟩;(first | ((with_reducible refine (q0.out _ _).mono ?_);exact fun _ _ h=>by simpa using h) | ((with_reducible refine (q1.out _ _).mono ?_);exact fun _ _ h=>by simpa using h));clear hK K))
   refine zAK ⟨fun j hj=>match j,hj with | 0,_=>rfl | 1,_=>rfl | j+2,hj=>absurd hj (by omega),fun g W1 hb hg hne=>?_⟩
   obtain ⟨hs,ks⟩:=hg 0 (by omega)
   obtain ⟨hd,kd⟩:=hg 1 (by omega)
   have nsd:=hne 0 1 (by omega) (by omega) (by omega)
   clear hg hne;clear cb0 cb1 cb2 cb3 cb4 cb5;clear cp0 cp1 cp2;clear q0;clear q1;replace hB:=hB.trans (hb.mono hB.size);replace kb:=kb.later hb;replace kp:=kp.later hb;replace hSz:=Nat.le_trans hSz hb.size;clear hb;simp only [zAk,List.range_succ,List.range_zero,List.nil_append,List.cons_append,List.map_cons,List.map_nil,List.foldl_cons,List.foldl_nil,List.getD_cons_zero,List.getD_cons_succ];generalize g 0=gs at *;generalize g 1=gd at *;replace ks:Bk W1 gs #[sx,sy,sz] 23:=ks;replace kd:Bk W1 gd #[dx,dy,dz] 23:=kd;obtain ⟨cs0,cs1⟩:=ks.c2;obtain ⟨cd0,cd1,cd2⟩:=kd.c3;go_wp2_with fail;go_ret;exact ⟨zY (by rw [hv.out]),hB⟩
theorem zDE (px py pz:Int) (w:World) :
 Calls Tryz.prog 150 #[.agg #[px,py,pz]] w fun e w'=>e = .returned (.agg #[px,py,pz])∧Below w.heap.size w w':=by
 go_enter Tryz.func150,Tryz.ntmps150;go_wp2;generalize hW:World.alloc (World.alloc w _) _=W;have hSz:=sz2 hW;have hB:=bl2 hW;have kp:Bk W (w.heap.size) #[px,py,pz] 23:=bk1 hW;have kr:Bk W (w.heap.size+1) #[px,py,pz] 178:=bk0 hW;clear hW;exact bodyPost_ret (v:=.agg #[px,py,pz]) (results_cell_row rfl _ _ _ 178 #[px,py,pz] (0,0) _ rfl kr Tryz.underlying178 rfl (by kernel_rfl)) rfl ⟨rfl,hB⟩
theorem zGf (x y:Int) (w:World) :
 Calls Tryz.prog 121 #[x,y] w fun e w'=>e = .returned (.int .i64 (max x y))∧w=w':=by
 go_enter Tryz.func121,Tryz.ntmps121;go_wp2
 all_goals
  go_ret;exact ⟨zY (by omega),rfl⟩
theorem zIE (x y:Int) (w:World) :
 Calls Tryz.prog 122 #[x,y] w fun e w'=>e = .returned (.int .i64 (min x y))∧w=w':=by
 go_enter Tryz.func122,Tryz.ntmps122;go_wp2
 all_goals
  go_ret;exact ⟨zY (by omega),rfl⟩
theorem each_1 (p1 p2 p3:Addr) (v0 v1 v2:Int) (w:World)
 (hf : ∀ (k v:Int),(k=0∧v=v0)∨(k=1∧v=v1)∨(k=2∧v=v2) → ∀ W,Below w.heap.size w W→Calls Tryz.prog 152 #[k,.pointer (some p1),.pointer (some p2),.pointer (some p3)] W fun e w'=>e = .returned (.int .i64 v)∧Below W.heap.size W w') :
 Calls Tryz.prog 151 #[.func (.func 152) #[] #[.pointer (some p1),.pointer (some p2),.pointer (some p3)]] w fun e w'=>e = .returned (.agg #[v0,v1,v2])∧Below w.heap.size w w':=by
 have f0:=Bx.mk fun W=>hf 0 v0 (by omega) W
 have f1:=Bx.mk fun W=>hf 1 v1 (by omega) W
 have f2:=Bx.mk fun W=>hf 2 v2 (by omega) W
 clear hf;go_enter Tryz.func151,Tryz.ntmps151;go_wp2_with fail;generalize hW:World.alloc (World.alloc w _) _=W;have hSz:=sz2 hW;have hB:=bl2 hW;have kr:Bk W (w.heap.size) #[(0:Int),(0:Int),(0:Int)] 23:=bk1 hW;have kc:Bk W (w.heap.size+1) #[(0:Int),(0:Int),(0:Int)] 178:=bk0 hW;clear hW
 go_loopw [5] (fun i wr => ∃ k:Nat,k≤3∧i = .int .i64 k∧Bk wr (w.heap.size) #[(0:Int),(0:Int),(0:Int)] 23∧Bk wr (w.heap.size+1) #[.int .i64 (if 0<k then v0 else 0),.int .i64 (if 1<k then v1 else 0),.int .i64 (if 2<k then v2 else 0)] 178∧Below w.heap.size w wr∧w.heap.size+1<wr.heap.size) (fun i _=>3 - (intOf i).toNat)
 case atStart=>exact ⟨0,by omega,rfl,kr,kc,hB,by omega⟩
 case round =>
  clear kr kc hB hSz;obtain ⟨k,hk,rfl,kr,kc,hB,hSz⟩:=hrel;by_cases hlt:k<3
  · have hcall:Bx (Calls Tryz.prog 152 #[(k:Int),.pointer (some p1),.pointer (some p2),.pointer (some p3)] wr fun e w'=>e = .returned (.int .i64 (if k=0 then v0 else if k=1 then v1 else v2))∧Below wr.heap.size wr w'):=⟨by
     obtain rfl | rfl | rfl:k=0∨k=1∨k=2:=by omega
     · exact f0.out wr hB
     · exact f1.out wr hB
     · exact f2.out wr hB⟩
    go_wp2_with fail;refine hcall.out.mono ?_;rintro e w1 ⟨rfl,hb⟩;replace hB:=hB.trans (hb.mono hB.size);replace kr:=kr.later hb;replace kc:=kc.later hb;replace hSz:=Nat.lt_of_lt_of_le hSz hb.size;clear hb hcall f0 f1 f2
    have hcc : ∃ v,w1.cell? ⟨w.heap.size+1,k,none⟩=some v:=by
     obtain rfl | rfl | rfl:k=0∨k=1∨k=2:=by omega
     · exact ⟨_,kc.cell 0 rfl⟩
     · exact ⟨_,kc.cell 1 rfl⟩
     · exact ⟨_,kc.cell 2 rfl⟩
    obtain ⟨vc,hcc⟩:=hcc;have hff:=kc.frozen k;have kc':=kc.set k (.int .i64 (if k=0 then v0 else if k=1 then v1 else v2));have kr':=kr.other ⟨w.heap.size+1,k,none⟩ (.int .i64 (if k=0 then v0 else if k=1 then v1 else v2)) (by simp)
    have Kc:Bx (Bk (w1.setCell ⟨w.heap.size+1,k,none⟩ (.int .i64 (if k=0 then v0 else if k=1 then v1 else v2))) (w.heap.size+1) #[.int .i64 (if 0<k+1 then v0 else 0),.int .i64 (if 1<k+1 then v1 else 0),.int .i64 (if 2<k+1 then v2 else 0)] 178):=⟨by
     obtain rfl | rfl | rfl:k=0∨k=1∨k=2:=by omega
     all_goals simpa using kc'⟩
    have Kr:=Bx.mk kr';clear kc kr kc' kr';generalize (if k=0 then v0 else if k=1 then v1 else v2)=vv at *;go_wp2_with fail
    go_roundw
    case rel=>exact ⟨k+1,by omega,by go_num,Kr.out,Kc.out,hB.setCell (by simp) _,by rw [zq];omega⟩
    case measure=>simp [intOf];omega
  · obtain rfl:k=3:=by omega
    obtain ⟨cc0,cc1,cc2⟩:=kc.c3;obtain ⟨cr0,cr1,cr2⟩:=kr.c3;obtain ⟨fr0,fr1,fr2⟩:=kr.f3;go_wp2_with fail;replace kr:=kr.put3 (.int .i64 v0) (.int .i64 v1) (.int .i64 v2);exact bodyPost_ret (v:=.agg #[v0,v1,v2]) (results_cell_row rfl _ _ _ 23 #[v0,v1,v2] (0,0) _ rfl kr Tryz.underlying23 rfl (by kernel_rfl)) rfl ⟨rfl,zF3 hB (by omega) _ _ _⟩
theorem each_2 (p1 p2 p3:Addr) (v0 v1 v2:Int) (w:World)
 (hf : ∀ (k v:Int),(k=0∧v=v0)∨(k=1∧v=v1)∨(k=2∧v=v2) → ∀ W,Below w.heap.size w W→Calls Tryz.prog 153 #[k,.pointer (some p1),.pointer (some p2),.pointer (some p3)] W fun e w'=>e = .returned (.int .i64 v)∧Below W.heap.size W w') :
 Calls Tryz.prog 151 #[.func (.func 153) #[] #[.pointer (some p1),.pointer (some p2),.pointer (some p3)]] w fun e w'=>e = .returned (.agg #[v0,v1,v2])∧Below w.heap.size w w':=by
 have f0:=Bx.mk fun W=>hf 0 v0 (by omega) W
 have f1:=Bx.mk fun W=>hf 1 v1 (by omega) W
 have f2:=Bx.mk fun W=>hf 2 v2 (by omega) W
 clear hf;go_enter Tryz.func151,Tryz.ntmps151;go_wp2_with fail;generalize hW:World.alloc (World.alloc w _) _=W;have hSz:=sz2 hW;have hB:=bl2 hW;have kr:Bk W (w.heap.size) #[(0:Int),(0:Int),(0:Int)] 23:=bk1 hW;have kc:Bk W (w.heap.size+1) #[(0:Int),(0:Int),(0:Int)] 178:=bk0 hW;clear hW
 go_loopw [5] (fun i wr => ∃ k:Nat,k≤3∧i = .int .i64 k∧Bk wr (w.heap.size) #[(0:Int),(0:Int),(0:Int)] 23∧Bk wr (w.heap.size+1) #[.int .i64 (if 0<k then v0 else 0),.int .i64 (if 1<k then v1 else 0),.int .i64 (if 2<k then v2 else 0)] 178∧Below w.heap.size w wr∧w.heap.size+1<wr.heap.size) (fun i _=>3 - (intOf i).toNat)
 case atStart=>exact ⟨0,by omega,rfl,kr,kc,hB,by omega⟩
 case round =>
  clear kr kc hB hSz;obtain ⟨k,hk,rfl,kr,kc,hB,hSz⟩:=hrel;by_cases hlt:k<3
  · have hcall:Bx (Calls Tryz.prog 153 #[(k:Int),.pointer (some p1),.pointer (some p2),.pointer (some p3)] wr fun e w'=>e = .returned (.int .i64 (if k=0 then v0 else if k=1 then v1 else v2))∧Below wr.heap.size wr w'):=⟨by
     obtain rfl | rfl | rfl:k=0∨k=1∨k=2:=by omega
     · exact f0.out wr hB
     · exact f1.out wr hB
     · exact f2.out wr hB⟩
    go_wp2_with fail;refine hcall.out.mono ?_;rintro e w1 ⟨rfl,hb⟩;replace hB:=hB.trans (hb.mono hB.size);replace kr:=kr.later hb;replace kc:=kc.later hb;replace hSz:=Nat.lt_of_lt_of_le hSz hb.size;clear hb hcall f0 f1 f2
    have hcc : ∃ v,w1.cell? ⟨w.heap.size+1,k,none⟩=some v:=by
     obtain rfl | rfl | rfl:k=0∨k=1∨k=2:=by omega
     · exact ⟨_,kc.cell 0 rfl⟩
     · exact ⟨_,kc.cell 1 rfl⟩
     · exact ⟨_,kc.cell 2 rfl⟩
    obtain ⟨vc,hcc⟩:=hcc;have hff:=kc.frozen k;have kc':=kc.set k (.int .i64 (if k=0 then v0 else if k=1 then v1 else v2));have kr':=kr.other ⟨w.heap.size+1,k,none⟩ (.int .i64 (if k=0 then v0 else if k=1 then v1 else v2)) (by simp)
    have Kc:Bx (Bk (w1.setCell ⟨w.heap.size+1,k,none⟩ (.int .i64 (if k=0 then v0 else if k=1 then v1 else v2))) (w.heap.size+1) #[.int .i64 (if 0<k+1 then v0 else 0),.int .i64 (if 1<k+1 then v1 else 0),.int .i64 (if 2<k+1 then v2 else 0)] 178):=⟨by
     obtain rfl | rfl | rfl:k=0∨k=1∨k=2:=by omega
     all_goals simpa using kc'⟩
    have Kr:=Bx.mk kr';clear kc kr kc' kr';generalize (if k=0 then v0 else if k=1 then v1 else v2)=vv at *;go_wp2_with fail
    go_roundw
    case rel=>exact ⟨k+1,by omega,by go_num,Kr.out,Kc.out,hB.setCell (by simp) _,by rw [zq];omega⟩
    case measure=>simp [intOf];omega
  · obtain rfl:k=3:=by omega
    obtain ⟨cc0,cc1,cc2⟩:=kc.c3;obtain ⟨cr0,cr1,cr2⟩:=kr.c3;obtain ⟨fr0,fr1,fr2⟩:=kr.f3;go_wp2_with fail;replace kr:=kr.put3 (.int .i64 v0) (.int .i64 v1) (.int .i64 v2);exact bodyPost_ret (v:=.agg #[v0,v1,v2]) (results_cell_row rfl _ _ _ 23 #[v0,v1,v2] (0,0) _ rfl kr Tryz.underlying23 rfl (by kernel_rfl)) rfl ⟨rfl,zF3 hB (by omega) _ _ _⟩
theorem clo_1 (ga gb gc:Nat) (a0 a1 a2 b0 b1 b2:Int) (k v:Int) (hk:(k=0∧v=max a0 b0)∨(k=1∧v=max a1 b1)∨(k=2∧v=max a2 b2)) (w:World)
 (hf:w.cell? ⟨ga,0,none⟩=some (.func (.func 121) #[] #[])) (ha:Bk w gb #[a0,a1,a2] 178) (hb:Bk w gc #[b0,b1,b2] 178) :
 Calls Tryz.prog 152 #[k,.pointer (some ⟨ga,0,none⟩),.pointer (some ⟨gb,0,none⟩),.pointer (some ⟨gc,0,none⟩)] w fun e w'=>e = .returned (.int .i64 v)∧Below w.heap.size w w':=by
 obtain ⟨i,x,y,hi,hi3,hv,hx,hy⟩ : ∃ (i:Nat) (x y:Int),k=(i:Int)∧i<3∧v=max x y∧w.cell? ⟨gb,i,none⟩=some (.int .i64 x)∧w.cell? ⟨gc,i,none⟩=some (.int .i64 y):=by
  rcases hk with ⟨rfl,rfl⟩ | ⟨rfl,rfl⟩ | ⟨rfl,rfl⟩
  · exact ⟨0,_,_,rfl,by omega,rfl,ha.cell 0 rfl,hb.cell 0 rfl⟩
  · exact ⟨1,_,_,rfl,by omega,rfl,ha.cell 1 rfl,hb.cell 1 rfl⟩
  · exact ⟨2,_,_,rfl,by omega,rfl,ha.cell 2 rfl,hb.cell 2 rfl⟩
 subst hi;clear hk ha hb;have Hv:=Bx.mk hv;clear hv;have b1:(0:Int)≤(i:Int):=by omega
 have b2:(i:Int)<3:=by omega
 have cf : ∀ dk osk,(grow (redrawn w dk) osk).cell? ⟨ga,0,none⟩=some (.func (.func 121) #[] #[]):=cell_regrown hf;have cx : ∀ dk osk,(grow (redrawn w dk) osk).cell? ⟨gb,i,none⟩=some (.int .i64 x):=cell_regrown hx;have cy : ∀ dk osk,(grow (redrawn w dk) osk).cell? ⟨gc,i,none⟩=some (.int .i64 y):=cell_regrown hy;have q0:=Bx.mk fun dk osk=>Calls.regrown_of ((zGf x y (grow (redrawn w dk) osk)).mono fun _ _ ⟨h1,h2⟩=>⟨h1,by subst h2;exact Below.refl _ _⟩)
 clear hf hx hy;go_enter Tryz.func152,Tryz.ntmps152;go_wp2_with fail;refine wp_region_quiet_below (by kernel_rfl) (by kernel_rfl) ?_
 repeat (first | go_big_quiet_step ((with_reducible exact q0.out _ _)) | quiet_step (with_reducible exact q0.out _ _))
 refine wpQuiet_nil ?_;rintro _ ⟨⟨dq,osq⟩,rfl⟩;have hb:=below_regrown w dq osq;clear cf cx cy q0;generalize grow (redrawn w dq) osq=W1 at *;go_wp2_with fail;go_ret;exact ⟨zY Hv.out.symm,hb⟩
theorem clo_2 (ga gb gc:Nat) (a0 a1 a2 b0 b1 b2:Int) (k v:Int) (hk:(k=0∧v=min a0 b0)∨(k=1∧v=min a1 b1)∨(k=2∧v=min a2 b2)) (w:World)
 (hf:w.cell? ⟨ga,0,none⟩=some (.func (.func 122) #[] #[])) (ha:Bk w gb #[a0,a1,a2] 178) (hb:Bk w gc #[b0,b1,b2] 178) :
 Calls Tryz.prog 153 #[k,.pointer (some ⟨ga,0,none⟩),.pointer (some ⟨gb,0,none⟩),.pointer (some ⟨gc,0,none⟩)] w fun e w'=>e = .returned (.int .i64 v)∧Below w.heap.size w w':=by
 obtain ⟨i,x,y,hi,hi3,hv,hx,hy⟩ : ∃ (i:Nat) (x y:Int),k=(i:Int)∧i<3∧v=min x y∧w.cell? ⟨gb,i,none⟩=some (.int .i64 x)∧w.cell? ⟨gc,i,none⟩=some (.int .i64 y):=by
  rcases hk with ⟨rfl,rfl⟩ | ⟨rfl,rfl⟩ | ⟨rfl,rfl⟩
  · exact ⟨0,_,_,rfl,by omega,rfl,ha.cell 0 rfl,hb.cell 0 rfl⟩
  · exact ⟨1,_,_,rfl,by omega,rfl,ha.cell 1 rfl,hb.cell 1 rfl⟩
  · exact ⟨2,_,_,rfl,by omega,rfl,ha.cell 2 rfl,hb.cell 2 rfl⟩
 subst hi;clear hk ha hb;have Hv:=Bx.mk hv;clear hv;have b1:(0:Int)≤(i:Int):=by omega
 have b2:(i:Int)<3:=by omega
 have cf : ∀ dk osk,(grow (redrawn w dk) osk).cell? ⟨ga,0,none⟩=some (.func (.func 122) #[] #[]):=cell_regrown hf;have cx : ∀ dk osk,(grow (redrawn w dk) osk).cell? ⟨gb,i,none⟩=some (.int .i64 x):=cell_regrown hx;have cy : ∀ dk osk,(grow (redrawn w dk) osk).cell? ⟨gc,i,none⟩=some (.int .i64 y):=cell_regrown hy;have q0:=Bx.mk fun dk osk=>Calls.regrown_of ((zIE x y (grow (redrawn w dk) osk)).mono fun _ _ ⟨h1,h2⟩=>⟨h1,by subst h2;exact Below.refl _ _⟩)
 clear hf hx hy;go_enter Tryz.func153,Tryz.ntmps153;go_wp2_with fail;refine wp_region_quiet_below (by kernel_rfl) (by kernel_rfl) ?_
 repeat (first | go_big_quiet_step ((with_reducible exact q0.out _ _)) | quiet_step (with_reducible exact q0.out _ _))
 refine wpQuiet_nil ?_;rintro _ ⟨⟨dq,osq⟩,rfl⟩;have hb:=below_regrown w dq osq;clear cf cx cy q0;generalize grow (redrawn w dq) osq=W1 at *;go_wp2_with fail;go_ret;exact ⟨zY Hv.out.symm,hb⟩
end
section
open Go.RowKit
theorem zN4 (a0 a1 a2 a3 a4 a5 b0 b1 b2 b3 b4 b5:Int) (w:World):(binOp .eql 25 (.agg #[a0,a1,a2,a3,a4,a5]) (.agg #[b0,b1,b2,b3,b4,b5])).run Tryz.prog w = .ok (.bool (decide ((⟨⟨a0,a1,a2⟩,⟨a3,a4,a5⟩⟩:Box)=⟨⟨b0,b1,b2⟩,⟨b3,b4,b5⟩⟩))) w:=by
 have h1 : Tryz.prog.stoodInHeld 25=false:=by kernel_rfl
 have h2 : Tryz.prog.stoodInHeld 23=false:=by kernel_rfl
 rw [run_eql_struct,run_equalIn_agg _ _ _ _ _ (by kernel_rfl) h1]
 go_simp;by_cases h3:a0=b0
 rotate_left
 · simp [h3]
 by_cases h4:a1=b1
 rotate_left
 · simp [h4]
 by_cases h5:a2=b2
 rotate_left
 · simp [h5]
 by_cases h6:a3=b3
 rotate_left
 · simp [h6]
 by_cases h7:a4=b4
 rotate_left
 · simp [h7]
 by_cases h8:a5=b5
 rotate_left
 · simp [h8]
 simp [h3,h4,h5,h6,h7,h8]
theorem zJl (a0 a1 a2 a3 a4 a5 b0 b1 b2 b3 b4 b5:Int) (w:World):(binOp .neq 25 (.agg #[a0,a1,a2,a3,a4,a5]) (.agg #[b0,b1,b2,b3,b4,b5])).run Tryz.prog w = .ok (.bool (!decide ((⟨⟨a0,a1,a2⟩,⟨a3,a4,a5⟩⟩:Box)=⟨⟨b0,b1,b2⟩,⟨b3,b4,b5⟩⟩))) w:=by
 have h1 : Tryz.prog.stoodInHeld 25=false:=by kernel_rfl
 have h2 : Tryz.prog.stoodInHeld 23=false:=by kernel_rfl
 rw [run_neq_struct,run_equalIn_agg _ _ _ _ _ (by kernel_rfl) h1]
 go_simp;by_cases h3:a0=b0
 rotate_left
 · simp [h3]
 by_cases h4:a1=b1
 rotate_left
 · simp [h4]
 by_cases h5:a2=b2
 rotate_left
 · simp [h5]
 by_cases h6:a3=b3
 rotate_left
 · simp [h6]
 by_cases h7:a4=b4
 rotate_left
 · simp [h7]
 by_cases h8:a5=b5
 rotate_left
 · simp [h8]
 simp [h3,h4,h5,h6,h7,h8]
end
section
open Go.RowKit Go.Sort
theorem zHD (a0 a1 a2 a3 a4 a5 b0 b1 b2 b3 b4 b5:Int) (w:World) :
 Calls Tryz.prog 120 #[.agg #[a0,a1,a2,a3,a4,a5],.agg #[b0,b1,b2,b3,b4,b5],.func (.func 121) #[] #[],.func (.func 122) #[] #[]] w fun e' w'=>e' = .returned (.agg #[.int .i64 (max a0 b0),.int .i64 (max a1 b1),.int .i64 (max a2 b2),.int .i64 (min a3 b3),.int .i64 (min a4 b4),.int .i64 (min a5 b5)])∧Below w.heap.size w w':=by
 go_enter Tryz.func120,Tryz.ntmps120;go_wp2_with fail;generalize hW:World.alloc (World.alloc (World.alloc (World.alloc (World.alloc w _) _) _) _) _=W;have hSz:w.heap.size+1+1+1+1+1≤W.heap.size:=by rw [←hW];simp
 have hB:Below w.heap.size w W:=by rw [←hW];exact (((((Below.refl _ _).alloc (Nat.le_refl _) _).alloc (by simp) _).alloc (by simp;omega) _).alloc (by simp;omega) _).alloc (by simp;omega) _
 have ka:Bk W (w.heap.size) #[a0,a1,a2,a3,a4,a5] 25:=by rw [←hW];exact zB (zB (zB (zB (zI _ _ _ (by simp)))))
 have kb:Bk W (w.heap.size+1) #[b0,b1,b2,b3,b4,b5] 25:=by rw [←hW];exact zB (zB (zB (zI _ _ _ (by simp))))
 have kl:Bk W (w.heap.size+1+1) #[.func (.func 121) #[] #[]] 163:=bk2 hW;have kh:Bk W (w.heap.size+1+1+1) #[.func (.func 122) #[] #[]] 163:=bk1 hW;have kr:Bk W (w.heap.size+1+1+1+1) #[(0:Int),(0:Int),(0:Int),(0:Int),(0:Int),(0:Int)] 25:=bk0 hW;clear hW;obtain ⟨ca0,ca1,ca2,ca3,ca4,ca5⟩:=ka.r6;obtain ⟨cb0,cb1,cb2,cb3,cb4,cb5⟩:=kb.r6;have q0:=Bx.mk fun dk osk=>(zDE a0 a1 a2 (grow (redrawn W dk) osk));have q1:=Bx.mk fun dk osk=>(zDE b0 b1 b2 (grow (redrawn W dk) osk));have q2:=Bx.mk fun dk osk=>(zDE a3 a4 a5 (grow (redrawn W dk) osk));have q3:=Bx.mk fun dk osk=>(zDE b3 b4 b5 (grow (redrawn W dk) osk));refine zg 12 4 (fun j=>[9,10,11,12].getD j 0) (fun j=>[15,18,21,24].getD j 0) (fun j=>[178,178,178,178].getD j 0) (fun _=>#[.int .i64 0,.int .i64 0,.int .i64 0]) (fun j=>[#[.int .i64 a0,.int .i64 a1,.int .i64 a2],#[.int .i64 b0,.int .i64 b1,.int .i64 b2],#[.int .i64 a3,.int .i64 a4,.int .i64 a5],#[.int .i64 b3,.int .i64 b4,.int .i64 b5]].getD j #[]) (by kernel_rfl) (by kernel_rfl) ⟨fun j hj=>?_,fun j hj=>?_⟩ 30 (by kernel_rfl) (by rfl) ?_
 · match j,hj with
   | 0,_=>exact ⟨_,rfl,rfl,rfl,zCQ _ rfl⟩
   | 1,_=>exact ⟨_,rfl,rfl,rfl,zCQ _ rfl⟩
   | 2,_=>exact ⟨_,rfl,rfl,rfl,zCQ _ rfl⟩
   | 3,_=>exact ⟨_,rfl,rfl,rfl,zCQ _ rfl⟩
   | j+4,hj=>omega
 · match j,hj with
   | 0,_=>exact ⟨_,rfl,rfl,rfl,fun ρ w g h1 h2 hb=>zCB _ 9 15 rfl _ _ _ _ _ _ ρ w g h1 h2 hb⟩
   | 1,_=>exact ⟨_,rfl,rfl,rfl,fun ρ w g h1 h2 hb=>zCB _ 10 18 rfl _ _ _ _ _ _ ρ w g h1 h2 hb⟩
   | 2,_=>exact ⟨_,rfl,rfl,rfl,fun ρ w g h1 h2 hb=>zCB _ 11 21 rfl _ _ _ _ _ _ ρ w g h1 h2 hb⟩
   | 3,_=>exact ⟨_,rfl,rfl,rfl,fun ρ w g h1 h2 hb=>zCB _ 12 24 rfl _ _ _ _ _ _ ρ w g h1 h2 hb⟩
   | j+4,hj=>omega
 simp only [List.take_succ_cons,List.take_zero]
 repeat (refine zAB (fun K hK=>?_);go_simp;first | (refine hK _ ?_;clear hK K) | (apply Exists.intro;refine ⟨fun _=>?_,hK _ ?_⟩;(first | ((with_reducible refine (q0.out _ _).mono ?_);exact fun _ _ h=>by simpa using h) | ((with_reducible refine (q1.out _ _).mono ?_);exact fun _ _ h=>by simpa using h) | ((with_reducible refine (q2.out _ _).mono ?_);exact fun _ _ h=>by simpa using h) | ((with_reducible refine (q3.out _ _).mono ?_);exact fun _ _ h=>by simpa using h));clear hK K))
 refine zAK ⟨fun j hj=>match j,hj with | 0,_=>rfl | 1,_=>rfl | 2,_=>rfl | 3,_=>rfl | j+4,hj=>absurd hj (by omega),fun g W1 hb hg hne=>?_⟩
 obtain ⟨hp,kp⟩:=hg 0 (by omega)
 obtain ⟨hq,kq⟩:=hg 1 (by omega)
 obtain ⟨hs,ks⟩:=hg 2 (by omega)
 obtain ⟨ht,kt⟩:=hg 3 (by omega)
 have npq:=hne 0 1 (by omega) (by omega) (by omega)
 have nps:=hne 0 2 (by omega) (by omega) (by omega)
 have npt:=hne 0 3 (by omega) (by omega) (by omega)
 have nqs:=hne 1 2 (by omega) (by omega) (by omega)
 have nqt:=hne 1 3 (by omega) (by omega) (by omega)
 have nst:=hne 2 3 (by omega) (by omega) (by omega)
 clear hg hne;clear ca0 ca1 ca2 ca3 ca4 ca5;clear cb0 cb1 cb2 cb3 cb4 cb5;clear q0;clear q1;clear q2;clear q3;replace hB:=hB.trans (hb.mono hB.size);replace ka:=ka.later hb;replace kb:=kb.later hb;replace kl:=kl.later hb;replace kh:=kh.later hb;replace kr:=kr.later hb;replace hSz:=Nat.le_trans hSz hb.size;clear hb;simp only [zAk,List.range_succ,List.range_zero,List.nil_append,List.cons_append,List.map_cons,List.map_nil,List.foldl_cons,List.foldl_nil,List.getD_cons_zero,List.getD_cons_succ];generalize g 0=gp at *;generalize g 1=gq at *;generalize g 2=gs at *;generalize g 3=gt at *;replace kp:Bk W1 gp #[a0,a1,a2] 178:=kp;replace kq:Bk W1 gq #[b0,b1,b2] 178:=kq;replace ks:Bk W1 gs #[a3,a4,a5] 178:=ks;replace kt:Bk W1 gt #[b3,b4,b5] 178:=kt;go_wp2_with fail;refine (each_1 ⟨w.heap.size+1+1,0,none⟩ ⟨gp,0,none⟩ ⟨gq,0,none⟩ (max a0 b0) (max a1 b1) (max a2 b2) _ (fun k v hkv W' hb'=>clo_1 _ _ _ a0 a1 a2 b0 b1 b2 k v hkv W' ((kl.later hb').cell 0 rfl) (kp.later hb') (kq.later hb'))).mono ?_;rintro e' w1 ⟨rfl,hb⟩;replace hB:=hB.trans (hb.mono hB.size);replace ka:=ka.later hb;replace kb:=kb.later hb;replace kl:=kl.later hb;replace kh:=kh.later hb;replace kr:=kr.later hb;replace kp:=kp.later hb;replace kq:=kq.later hb;replace ks:=ks.later hb;replace kt:=kt.later hb;replace hSz:=Nat.le_trans hSz hb.size;clear hb;go_wp2_with fail;refine (each_2 ⟨w.heap.size+1+1+1,0,none⟩ ⟨gs,0,none⟩ ⟨gt,0,none⟩ (min a3 b3) (min a4 b4) (min a5 b5) _ (fun k v hkv W' hb'=>clo_2 _ _ _ a3 a4 a5 b3 b4 b5 k v hkv W' ((kh.later hb').cell 0 rfl) (ks.later hb') (kt.later hb'))).mono ?_;rintro e' w2 ⟨rfl,hb⟩;replace hB:=hB.trans (hb.mono hB.size);replace ka:=ka.later hb;replace kb:=kb.later hb;replace kl:=kl.later hb;replace kh:=kh.later hb;replace kr:=kr.later hb;replace kp:=kp.later hb;replace kq:=kq.later hb;replace ks:=ks.later hb;replace kt:=kt.later hb;replace hSz:=Nat.le_trans hSz hb.size;clear hb;obtain ⟨cr0,cr1,cr2,cr3,cr4,cr5⟩:=kr.c6;obtain ⟨fr0,fr1,fr2,fr3,fr4,fr5⟩:=kr.f6;go_wp2_with fail;replace kr:=kr.put6 (.int .i64 (max a0 b0)) (.int .i64 (max a1 b1)) (.int .i64 (max a2 b2)) (.int .i64 (min a3 b3)) (.int .i64 (min a4 b4)) (.int .i64 (min a5 b5));exact bodyPost_ret (v:=.agg #[.int .i64 (max a0 b0),.int .i64 (max a1 b1),.int .i64 (max a2 b2),.int .i64 (min a3 b3),.int .i64 (min a4 b4),.int .i64 (min a5 b5)]) (results_cell_row rfl _ _ _ 25 #[.int .i64 (max a0 b0),.int .i64 (max a1 b1),.int .i64 (max a2 b2),.int .i64 (min a3 b3),.int .i64 (min a4 b4),.int .i64 (min a5 b5)] (0,0) _ rfl kr Tryz.underlying25 rfl (by kernel_rfl)) rfl ⟨rfl,zMO hB (by omega) _ _ _ _ _ _⟩
theorem zA1 (a0 a1 a2 a3 a4 a5 b0 b1 b2 b3 b4 b5:Int) (w:World) :
 Calls Tryz.prog 76 #[.agg #[a0,a1,a2,a3,a4,a5],.agg #[b0,b1,b2,b3,b4,b5]] w fun e' w'=>e' = .returned (.agg #[.int .i64 (zD ⟨⟨a0,a1,a2⟩,⟨a3,a4,a5⟩⟩ ⟨⟨b0,b1,b2⟩,⟨b3,b4,b5⟩⟩).lo.x,.int .i64 (zD ⟨⟨a0,a1,a2⟩,⟨a3,a4,a5⟩⟩ ⟨⟨b0,b1,b2⟩,⟨b3,b4,b5⟩⟩).lo.y,.int .i64 (zD ⟨⟨a0,a1,a2⟩,⟨a3,a4,a5⟩⟩ ⟨⟨b0,b1,b2⟩,⟨b3,b4,b5⟩⟩).lo.z,.int .i64 (zD ⟨⟨a0,a1,a2⟩,⟨a3,a4,a5⟩⟩ ⟨⟨b0,b1,b2⟩,⟨b3,b4,b5⟩⟩).hi.x,.int .i64 (zD ⟨⟨a0,a1,a2⟩,⟨a3,a4,a5⟩⟩ ⟨⟨b0,b1,b2⟩,⟨b3,b4,b5⟩⟩).hi.y,.int .i64 (zD ⟨⟨a0,a1,a2⟩,⟨a3,a4,a5⟩⟩ ⟨⟨b0,b1,b2⟩,⟨b3,b4,b5⟩⟩).hi.z])∧Below w.heap.size w w':=by
 have hM:=Bx.mk (show zD ⟨⟨a0,a1,a2⟩,⟨a3,a4,a5⟩⟩ ⟨⟨b0,b1,b2⟩,⟨b3,b4,b5⟩⟩=if zG (zBQ ⟨⟨a0,a1,a2⟩,⟨a3,a4,a5⟩⟩ ⟨⟨b0,b1,b2⟩,⟨b3,b4,b5⟩⟩)=true then Box.zero else zBQ ⟨⟨a0,a1,a2⟩,⟨a3,a4,a5⟩⟩ ⟨⟨b0,b1,b2⟩,⟨b3,b4,b5⟩⟩ from rfl);have hJ:=Bx.mk (show zBQ ⟨⟨a0,a1,a2⟩,⟨a3,a4,a5⟩⟩ ⟨⟨b0,b1,b2⟩,⟨b3,b4,b5⟩⟩=⟨⟨max a0 b0,max a1 b1,max a2 b2⟩,⟨min a3 b3,min a4 b4,min a5 b5⟩⟩ from rfl);rw [hJ.out] at hM;cases he:zG ⟨⟨max a0 b0,max a1 b1,max a2 b2⟩,⟨min a3 b3,min a4 b4,min a5 b5⟩⟩ with
 | false =>
   have He:=Bx.mk he;rw [he] at hM;rw [if_neg (by decide)] at hM
   clear he hJ;go_enter Tryz.func76,Tryz.ntmps76;go_wp2_with fail;generalize hW:World.alloc (World.alloc (World.alloc w _) _) _=W;have hSz:=sz3 hW;have hB:=bl3 hW;have ka:Bk W (w.heap.size) #[a0,a1,a2,a3,a4,a5] 25:=bk2 hW;have kb:Bk W (w.heap.size+1) #[b0,b1,b2,b3,b4,b5] 25:=bk1 hW;have kr:Bk W (w.heap.size+1+1) #[(0:Int),(0:Int),(0:Int),(0:Int),(0:Int),(0:Int)] 25:=bk0 hW;clear hW;refine (zHD _ _ _ _ _ _ _ _ _ _ _ _ _).mono ?_;rintro e' w1 ⟨rfl,hb⟩;replace hB:=hB.trans (hb.mono hB.size);replace ka:=ka.later hb;replace kb:=kb.later hb;replace kr:=kr.later hb;replace hSz:=Nat.le_trans hSz hb.size;clear hb;go_wp2_with fail;generalize hW1:World.alloc w1 _=W2;have kc:Bk W2 w1.heap.size #[.int .i64 (max a0 b0),.int .i64 (max a1 b1),.int .i64 (max a2 b2),.int .i64 (min a3 b3),.int .i64 (min a4 b4),.int .i64 (min a5 b5)] 25:=bk0 hW1 rfl;have hb:=bl1 hW1;clear hW1;replace hB:=hB.trans (hb.mono hB.size);replace ka:=ka.later hb;replace kb:=kb.later hb;replace kr:=kr.later hb;replace hSz:=Nat.le_trans hSz hb.size;clear hb;refine (zj _ _ _ _ _ _ _).mono ?_;rintro e' w3 ⟨rfl,hb⟩;rw [He.out];replace hB:=hB.trans (hb.mono hB.size);replace ka:=ka.later hb;replace kb:=kb.later hb;replace kr:=kr.later hb;replace kc:=kc.later hb;replace hSz:=Nat.le_trans hSz hb.size;clear hb;obtain ⟨cr0,cr1,cr2,cr3,cr4,cr5⟩:=kr.c6;obtain ⟨cc0,cc1,cc2,cc3,cc4,cc5⟩:=kc.c6;obtain ⟨fr0,fr1,fr2,fr3,fr4,fr5⟩:=kr.f6;go_wp2_with fail;replace kr:=kr.put6 (.int .i64 (max a0 b0)) (.int .i64 (max a1 b1)) (.int .i64 (max a2 b2)) (.int .i64 (min a3 b3)) (.int .i64 (min a4 b4)) (.int .i64 (min a5 b5));exact bodyPost_ret (v:=.agg #[.int .i64 (max a0 b0),.int .i64 (max a1 b1),.int .i64 (max a2 b2),.int .i64 (min a3 b3),.int .i64 (min a4 b4),.int .i64 (min a5 b5)]) (results_cell_row rfl _ _ _ 25 #[.int .i64 (max a0 b0),.int .i64 (max a1 b1),.int .i64 (max a2 b2),.int .i64 (min a3 b3),.int .i64 (min a4 b4),.int .i64 (min a5 b5)] (0,0) _ rfl kr Tryz.underlying25 rfl (by kernel_rfl)) rfl ⟨by rw [hM.out],zMO hB (by omega) _ _ _ _ _ _⟩
 | true =>
   have He:=Bx.mk he;rw [he] at hM;rw [if_pos rfl] at hM;clear he hJ;go_enter Tryz.func76,Tryz.ntmps76;go_wp2_with fail;generalize hW:World.alloc (World.alloc (World.alloc w _) _) _=W;have hSz:=sz3 hW;have hB:=bl3 hW;have ka:Bk W (w.heap.size) #[a0,a1,a2,a3,a4,a5] 25:=bk2 hW;have kb:Bk W (w.heap.size+1) #[b0,b1,b2,b3,b4,b5] 25:=bk1 hW;have kr:Bk W (w.heap.size+1+1) #[(0:Int),(0:Int),(0:Int),(0:Int),(0:Int),(0:Int)] 25:=bk0 hW;clear hW;refine (zHD _ _ _ _ _ _ _ _ _ _ _ _ _).mono ?_;rintro e' w1 ⟨rfl,hb⟩;replace hB:=hB.trans (hb.mono hB.size);replace ka:=ka.later hb;replace kb:=kb.later hb;replace kr:=kr.later hb;replace hSz:=Nat.le_trans hSz hb.size;clear hb;go_wp2_with fail;generalize hW1:World.alloc w1 _=W2;have kc:Bk W2 w1.heap.size #[.int .i64 (max a0 b0),.int .i64 (max a1 b1),.int .i64 (max a2 b2),.int .i64 (min a3 b3),.int .i64 (min a4 b4),.int .i64 (min a5 b5)] 25:=bk0 hW1 rfl;have hb:=bl1 hW1;clear hW1;replace hB:=hB.trans (hb.mono hB.size);replace ka:=ka.later hb;replace kb:=kb.later hb;replace kr:=kr.later hb;replace hSz:=Nat.le_trans hSz hb.size;clear hb;refine (zj _ _ _ _ _ _ _).mono ?_;rintro e' w3 ⟨rfl,hb⟩;rw [He.out];replace hB:=hB.trans (hb.mono hB.size);replace ka:=ka.later hb;replace kb:=kb.later hb;replace kr:=kr.later hb;replace kc:=kc.later hb;replace hSz:=Nat.le_trans hSz hb.size;clear hb;obtain ⟨cr0,cr1,cr2,cr3,cr4,cr5⟩:=kr.c6;obtain ⟨cc0,cc1,cc2,cc3,cc4,cc5⟩:=kc.c6;obtain ⟨fr0,fr1,fr2,fr3,fr4,fr5⟩:=kr.f6;go_wp2_with fail;replace kr:=kr.put6 (.int .i64 0) (.int .i64 0) (.int .i64 0) (.int .i64 0) (.int .i64 0) (.int .i64 0);exact bodyPost_ret (v:=.agg #[(0:Int),(0:Int),(0:Int),(0:Int),(0:Int),(0:Int)]) (results_cell_row rfl _ _ _ 25 #[(0:Int),(0:Int),(0:Int),(0:Int),(0:Int),(0:Int)] (0,0) _ rfl kr Tryz.underlying25 rfl (by kernel_rfl)) rfl ⟨by rw [hM.out];rfl,zMO hB (by omega) _ _ _ _ _ _⟩
theorem zA3 (a0 a1 a2 a3 a4 a5 b0 b1 b2 b3 b4 b5:Int) (w:World) :
 Calls Tryz.prog 66 #[.agg #[a0,a1,a2,a3,a4,a5],.agg #[b0,b1,b2,b3,b4,b5]] w fun e' w'=>e' = .returned (.bool (zQ ⟨⟨a0,a1,a2⟩,⟨a3,a4,a5⟩⟩ ⟨⟨b0,b1,b2⟩,⟨b3,b4,b5⟩⟩))∧Below w.heap.size w w':=by
 cases he:zG ⟨⟨b0,b1,b2⟩,⟨b3,b4,b5⟩⟩ with
 | true =>
   have hc:=Bx.mk (show zQ ⟨⟨a0,a1,a2⟩,⟨a3,a4,a5⟩⟩ ⟨⟨b0,b1,b2⟩,⟨b3,b4,b5⟩⟩=true by simp [zQ,he])
   have he':=Bx.mk fun W=>((zj b0 b1 b2 b3 b4 b5 W).mono (R':=fun e w'=>e = .returned (.bool true)∧Below W.heap.size W w') (by rw [he];exact fun _ _ h=>h))
   clear he;go_enter Tryz.func66,Tryz.ntmps66;go_wp2_with fail;generalize hW:World.alloc (World.alloc w _) _=W;have hSz:=sz2 hW;have hB:=bl2 hW;have ka:Bk W (w.heap.size) #[a0,a1,a2,a3,a4,a5] 25:=bk1 hW;have kb:Bk W (w.heap.size+1) #[b0,b1,b2,b3,b4,b5] 25:=bk0 hW;clear hW;obtain ⟨ca0,ca1,ca2,ca3,ca4,ca5⟩:=ka.r6;obtain ⟨cb0,cb1,cb2,cb3,cb4,cb5⟩:=kb.r6;have q0:=Bx.mk fun dk osk=>Calls.regrown_of (he'.out (grow (redrawn W dk) osk));refine wp_region_quiet_below (by kernel_rfl) (by kernel_rfl) ?_
   repeat (first | go_big_quiet_step ((first | with_reducible exact q0.out _ _)) | quiet_step (first | with_reducible exact q0.out _ _))
   refine wpQuiet_nil ?_;rintro _ ⟨⟨dq,osq⟩,rfl⟩;have hb:=below_regrown W dq osq;clear ca0 ca1 ca2 ca3 ca4 ca5;clear cb0 cb1 cb2 cb3 cb4 cb5;clear q0;replace hB:=hB.trans (hb.mono hB.size);replace ka:=ka.later hb;replace kb:=kb.later hb;replace hSz:=Nat.le_trans hSz hb.size;clear hb;generalize grow (redrawn W dq) osq=W1 at *;go_wp2_with fail;go_ret;exact ⟨zK hc.out.symm,hB⟩
 | false =>
   have hc:=Bx.mk (show zQ ⟨⟨a0,a1,a2⟩,⟨a3,a4,a5⟩⟩ ⟨⟨b0,b1,b2⟩,⟨b3,b4,b5⟩⟩=decide (zD ⟨⟨a0,a1,a2⟩,⟨a3,a4,a5⟩⟩ ⟨⟨b0,b1,b2⟩,⟨b3,b4,b5⟩⟩=⟨⟨b0,b1,b2⟩,⟨b3,b4,b5⟩⟩) by simp [zQ,he])
   have he':=Bx.mk fun W=>((zj b0 b1 b2 b3 b4 b5 W).mono (R':=fun e w'=>e = .returned (.bool false)∧Below W.heap.size W w') (by rw [he];exact fun _ _ h=>h))
   have hm:=Bx.mk fun W=>zA1 a0 a1 a2 a3 a4 a5 b0 b1 b2 b3 b4 b5 W;generalize zD ⟨⟨a0,a1,a2⟩,⟨a3,a4,a5⟩⟩ ⟨⟨b0,b1,b2⟩,⟨b3,b4,b5⟩⟩=m at *;obtain ⟨⟨m0,m1,m2⟩,⟨m3,m4,m5⟩⟩:=m;simp only [] at hm;have heq:=fun W=>zN4 m0 m1 m2 m3 m4 m5 b0 b1 b2 b3 b4 b5 W;generalize decide ((⟨⟨m0,m1,m2⟩,⟨m3,m4,m5⟩⟩:Box)=⟨⟨b0,b1,b2⟩,⟨b3,b4,b5⟩⟩)=r at *;clear he;go_enter Tryz.func66,Tryz.ntmps66;go_wp2_with fail;generalize hW:World.alloc (World.alloc w _) _=W;have hSz:=sz2 hW;have hB:=bl2 hW;have ka:Bk W (w.heap.size) #[a0,a1,a2,a3,a4,a5] 25:=bk1 hW;have kb:Bk W (w.heap.size+1) #[b0,b1,b2,b3,b4,b5] 25:=bk0 hW;clear hW;obtain ⟨ca0,ca1,ca2,ca3,ca4,ca5⟩:=ka.r6;obtain ⟨cb0,cb1,cb2,cb3,cb4,cb5⟩:=kb.r6;have q0:=Bx.mk fun dk osk=>Calls.regrown_of (he'.out (grow (redrawn W dk) osk));have q1:=Bx.mk fun dk osk=>Calls.regrown_of (hm.out (grow (redrawn W dk) osk));refine wp_region_quiet_below (by kernel_rfl) (by kernel_rfl) ?_
   repeat (first | go_big_quiet_step ((first | with_reducible exact q0.out _ _ | with_reducible exact q1.out _ _)) | quiet_step (first | with_reducible exact q0.out _ _ | with_reducible exact q1.out _ _))
   refine wpQuiet_nil ?_;rintro _ ⟨⟨dq,osq⟩,rfl⟩;have hb:=below_regrown W dq osq;clear ca0 ca1 ca2 ca3 ca4 ca5;clear cb0 cb1 cb2 cb3 cb4 cb5;clear q0;clear q1;replace hB:=hB.trans (hb.mono hB.size);replace ka:=ka.later hb;replace kb:=kb.later hb;replace hSz:=Nat.le_trans hSz hb.size;clear hb;generalize grow (redrawn W dq) osq=W1 at *;go_wp2_with fail;go_ret;exact ⟨zK hc.out.symm,hB⟩
end
end Go.Proofs.YtfcbajmjaifjlaaGreatDoor
