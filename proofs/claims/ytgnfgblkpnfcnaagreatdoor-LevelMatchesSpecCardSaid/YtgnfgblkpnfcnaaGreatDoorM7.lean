/- Pnt4, Bit: joined by program, for one claim. -/
import Derived.Test.YtgnfgblkpnfcnaaGreatDoorM6
import Derived.Laws.BitsLemmas
import Derived.IntWalk
set_option maxHeartbeats 1000000
set_option maxRecDepth 100000
set_option linter.unusedVariables false
set_option linter.unusedSimpArgs false
namespace Go.Proofs.YtgnfgblkpnfcnaaGreatDoor
section
open Go.RowKit Go.Sort
theorem zFo (a0 a1 a2 a3 a4 a5 b0 b1 b2 b3 b4 b5:Int) (w:World) :
 Calls Tryz.prog 128 #[.agg #[a0,a1,a2,a3,a4,a5],.agg #[b0,b1,b2,b3,b4,b5],.func (.func 129) #[] #[],.func (.func 130) #[] #[]] w fun e' w'=>e' = .returned (.agg #[.int .i64 (max a0 b0),.int .i64 (max a1 b1),.int .i64 (max a2 b2),.int .i64 (min a3 b3),.int .i64 (min a4 b4),.int .i64 (min a5 b5)])∧Below w.heap.size w w':=by
 go_enter Tryz.func128,Tryz.ntmps128;go_wp2_with fail;generalize hW:World.alloc (World.alloc (World.alloc (World.alloc (World.alloc w _) _) _) _) _=W;have hSz:w.heap.size+1+1+1+1+1≤W.heap.size:=by rw [←hW];simp
 have hB:Below w.heap.size w W:=by rw [←hW];exact (((((Below.refl _ _).alloc (Nat.le_refl _) _).alloc (by simp) _).alloc (by simp;omega) _).alloc (by simp;omega) _).alloc (by simp;omega) _
 have ka:Bk W (w.heap.size) #[a0,a1,a2,a3,a4,a5] 25:=by rw [←hW];exact zE (zE (zE (zE (zD _ _ _ (by simp)))))
 have kb:Bk W (w.heap.size+1) #[b0,b1,b2,b3,b4,b5] 25:=by rw [←hW];exact zE (zE (zE (zD _ _ _ (by simp))))
 have kl:Bk W (w.heap.size+1+1) #[.func (.func 129) #[] #[]] 152:=bk2 hW;have kh:Bk W (w.heap.size+1+1+1) #[.func (.func 130) #[] #[]] 152:=bk1 hW;have kr:Bk W (w.heap.size+1+1+1+1) #[(0:Int),(0:Int),(0:Int),(0:Int),(0:Int),(0:Int)] 25:=bk0 hW;clear hW;obtain ⟨ca0,ca1,ca2,ca3,ca4,ca5⟩:=ka.r6;obtain ⟨cb0,cb1,cb2,cb3,cb4,cb5⟩:=kb.r6;have q0:=Bx.mk fun dk osk=>(zGR a0 a1 a2 (grow (redrawn W dk) osk));have q1:=Bx.mk fun dk osk=>(zGR b0 b1 b2 (grow (redrawn W dk) osk));have q2:=Bx.mk fun dk osk=>(zGR a3 a4 a5 (grow (redrawn W dk) osk));have q3:=Bx.mk fun dk osk=>(zGR b3 b4 b5 (grow (redrawn W dk) osk));refine zAK 12 4 (fun j=>[9,10,11,12].getD j 0) (fun j=>[15,18,21,24].getD j 0) (fun j=>[93,93,93,93].getD j 0) (fun _=>#[.int .i64 0,.int .i64 0,.int .i64 0]) (fun j=>[#[.int .i64 a0,.int .i64 a1,.int .i64 a2],#[.int .i64 b0,.int .i64 b1,.int .i64 b2],#[.int .i64 a3,.int .i64 a4,.int .i64 a5],#[.int .i64 b3,.int .i64 b4,.int .i64 b5]].getD j #[]) (by kernel_rfl) (by kernel_rfl) ⟨fun j hj=>?_,fun j hj=>?_⟩ 30 (by kernel_rfl) (by rfl) ?_
 · match j,hj with
   | 0,_=>exact ⟨_,rfl,rfl,rfl,zBF _ rfl⟩
   | 1,_=>exact ⟨_,rfl,rfl,rfl,zBF _ rfl⟩
   | 2,_=>exact ⟨_,rfl,rfl,rfl,zBF _ rfl⟩
   | 3,_=>exact ⟨_,rfl,rfl,rfl,zBF _ rfl⟩
   | j+4,hj=>omega
 · match j,hj with
   | 0,_=>exact ⟨_,rfl,rfl,rfl,fun ρ w g h1 h2 hb=>zMi _ 9 15 rfl _ _ _ _ _ _ ρ w g h1 h2 hb⟩
   | 1,_=>exact ⟨_,rfl,rfl,rfl,fun ρ w g h1 h2 hb=>zMi _ 10 18 rfl _ _ _ _ _ _ ρ w g h1 h2 hb⟩
   | 2,_=>exact ⟨_,rfl,rfl,rfl,fun ρ w g h1 h2 hb=>zMi _ 11 21 rfl _ _ _ _ _ _ ρ w g h1 h2 hb⟩
   | 3,_=>exact ⟨_,rfl,rfl,rfl,fun ρ w g h1 h2 hb=>zMi _ 12 24 rfl _ _ _ _ _ _ ρ w g h1 h2 hb⟩
   | j+4,hj=>omega
 simp only [List.take_succ_cons,List.take_zero]
 repeat (refine zAE (fun K hK=>?_);go_simp;first | (refine hK _ ?_;clear hK K) | (apply Exists.intro;refine ⟨fun _=>?_,hK _ ?_⟩;(first | ((with_reducible refine (q0.out _ _).mono ?_);exact fun _ _ h=>by simpa using h) | ((with_reducible refine (q1.out _ _).mono ?_);exact fun _ _ h=>by simpa using h) | ((with_reducible refine (q2.out _ _).mono ?_);exact fun _ _ h=>by simpa using h) | ((with_reducible refine (q3.out _ _).mono ?_);exact fun _ _ h=>by simpa using h));clear hK K))
 refine zOJ ⟨fun j hj=>match j,hj with | 0,_=>rfl | 1,_=>rfl | 2,_=>rfl | 3,_=>rfl | j+4,hj=>absurd hj (by omega),fun g W1 hb hg hne=>?_⟩
 obtain ⟨hp,kp⟩:=hg 0 (by omega)
 obtain ⟨hq,kq⟩:=hg 1 (by omega)
 obtain ⟨hs,ks⟩:=hg 2 (by omega)
 obtain ⟨ht,kt⟩:=hg 3 (by omega)
 have npq:=hne 0 1 (by omega) (by omega) (by omega)
 have nps:=hne 0 2 (by omega) (by omega) (by omega)
 have npt:=hne 0 3 (by omega) (by omega) (by omega)
 have nqs:=hne 1 2 (by omega) (by omega) (by omega)
 have nqt:=hne 1 3 (by omega) (by omega) (by omega)
 have nst:=hne 2 3 (by omega) (by omega) (by omega)
 clear hg hne;clear ca0 ca1 ca2 ca3 ca4 ca5;clear cb0 cb1 cb2 cb3 cb4 cb5;clear q0;clear q1;clear q2;clear q3;replace hB:=hB.trans (hb.mono hB.size);replace ka:=ka.later hb;replace kb:=kb.later hb;replace kl:=kl.later hb;replace kh:=kh.later hb;replace kr:=kr.later hb;replace hSz:=Nat.le_trans hSz hb.size;clear hb;simp only [zKA,List.range_succ,List.range_zero,List.nil_append,List.cons_append,List.map_cons,List.map_nil,List.foldl_cons,List.foldl_nil,List.getD_cons_zero,List.getD_cons_succ];generalize g 0=gp at *;generalize g 1=gq at *;generalize g 2=gs at *;generalize g 3=gt at *;replace kp:Bk W1 gp #[a0,a1,a2] 93:=kp;replace kq:Bk W1 gq #[b0,b1,b2] 93:=kq;replace ks:Bk W1 gs #[a3,a4,a5] 93:=ks;replace kt:Bk W1 gt #[b3,b4,b5] 93:=kt;go_wp2_with fail;refine (each_1 ⟨w.heap.size+1+1,0,none⟩ ⟨gp,0,none⟩ ⟨gq,0,none⟩ (max a0 b0) (max a1 b1) (max a2 b2) _ (fun k v hkv W' hb'=>clo_1 _ _ _ a0 a1 a2 b0 b1 b2 k v hkv W' ((kl.later hb').cell 0 rfl) (kp.later hb') (kq.later hb'))).mono ?_;rintro e' w1 ⟨rfl,hb⟩;replace hB:=hB.trans (hb.mono hB.size);replace ka:=ka.later hb;replace kb:=kb.later hb;replace kl:=kl.later hb;replace kh:=kh.later hb;replace kr:=kr.later hb;replace kp:=kp.later hb;replace kq:=kq.later hb;replace ks:=ks.later hb;replace kt:=kt.later hb;replace hSz:=Nat.le_trans hSz hb.size;clear hb;go_wp2_with fail;refine (each_2 ⟨w.heap.size+1+1+1,0,none⟩ ⟨gs,0,none⟩ ⟨gt,0,none⟩ (min a3 b3) (min a4 b4) (min a5 b5) _ (fun k v hkv W' hb'=>clo_2 _ _ _ a3 a4 a5 b3 b4 b5 k v hkv W' ((kh.later hb').cell 0 rfl) (ks.later hb') (kt.later hb'))).mono ?_;rintro e' w2 ⟨rfl,hb⟩;replace hB:=hB.trans (hb.mono hB.size);replace ka:=ka.later hb;replace kb:=kb.later hb;replace kl:=kl.later hb;replace kh:=kh.later hb;replace kr:=kr.later hb;replace kp:=kp.later hb;replace kq:=kq.later hb;replace ks:=ks.later hb;replace kt:=kt.later hb;replace hSz:=Nat.le_trans hSz hb.size;clear hb;obtain ⟨cr0,cr1,cr2,cr3,cr4,cr5⟩:=kr.c6;obtain ⟨fr0,fr1,fr2,fr3,fr4,fr5⟩:=kr.f6;go_wp2_with fail;replace kr:=kr.put6 (.int .i64 (max a0 b0)) (.int .i64 (max a1 b1)) (.int .i64 (max a2 b2)) (.int .i64 (min a3 b3)) (.int .i64 (min a4 b4)) (.int .i64 (min a5 b5));exact bodyPost_ret (v:=.agg #[.int .i64 (max a0 b0),.int .i64 (max a1 b1),.int .i64 (max a2 b2),.int .i64 (min a3 b3),.int .i64 (min a4 b4),.int .i64 (min a5 b5)]) (results_cell_row rfl _ _ _ 25 #[.int .i64 (max a0 b0),.int .i64 (max a1 b1),.int .i64 (max a2 b2),.int .i64 (min a3 b3),.int .i64 (min a4 b4),.int .i64 (min a5 b5)] (0,0) _ rfl kr Tryz.underlying25 rfl (by kernel_rfl)) rfl ⟨rfl,zBi hB (by omega) _ _ _ _ _ _⟩
theorem zHr (a0 a1 a2 a3 a4 a5 b0 b1 b2 b3 b4 b5:Int) (w:World) :
 Calls Tryz.prog 83 #[.agg #[a0,a1,a2,a3,a4,a5],.agg #[b0,b1,b2,b3,b4,b5]] w fun e' w'=>e' = .returned (.agg #[.int .i64 (zf ⟨⟨a0,a1,a2⟩,⟨a3,a4,a5⟩⟩ ⟨⟨b0,b1,b2⟩,⟨b3,b4,b5⟩⟩).lo.x,.int .i64 (zf ⟨⟨a0,a1,a2⟩,⟨a3,a4,a5⟩⟩ ⟨⟨b0,b1,b2⟩,⟨b3,b4,b5⟩⟩).lo.y,.int .i64 (zf ⟨⟨a0,a1,a2⟩,⟨a3,a4,a5⟩⟩ ⟨⟨b0,b1,b2⟩,⟨b3,b4,b5⟩⟩).lo.z,.int .i64 (zf ⟨⟨a0,a1,a2⟩,⟨a3,a4,a5⟩⟩ ⟨⟨b0,b1,b2⟩,⟨b3,b4,b5⟩⟩).hi.x,.int .i64 (zf ⟨⟨a0,a1,a2⟩,⟨a3,a4,a5⟩⟩ ⟨⟨b0,b1,b2⟩,⟨b3,b4,b5⟩⟩).hi.y,.int .i64 (zf ⟨⟨a0,a1,a2⟩,⟨a3,a4,a5⟩⟩ ⟨⟨b0,b1,b2⟩,⟨b3,b4,b5⟩⟩).hi.z])∧Below w.heap.size w w':=by
 have hM:=Bx.mk (show zf ⟨⟨a0,a1,a2⟩,⟨a3,a4,a5⟩⟩ ⟨⟨b0,b1,b2⟩,⟨b3,b4,b5⟩⟩=if zN (zFn ⟨⟨a0,a1,a2⟩,⟨a3,a4,a5⟩⟩ ⟨⟨b0,b1,b2⟩,⟨b3,b4,b5⟩⟩)=true then Box.zero else zFn ⟨⟨a0,a1,a2⟩,⟨a3,a4,a5⟩⟩ ⟨⟨b0,b1,b2⟩,⟨b3,b4,b5⟩⟩ from rfl);have hJ:=Bx.mk (show zFn ⟨⟨a0,a1,a2⟩,⟨a3,a4,a5⟩⟩ ⟨⟨b0,b1,b2⟩,⟨b3,b4,b5⟩⟩=⟨⟨max a0 b0,max a1 b1,max a2 b2⟩,⟨min a3 b3,min a4 b4,min a5 b5⟩⟩ from rfl);rw [hJ.out] at hM;cases he:zN ⟨⟨max a0 b0,max a1 b1,max a2 b2⟩,⟨min a3 b3,min a4 b4,min a5 b5⟩⟩ with
 | false =>
   have He:=Bx.mk he;rw [he] at hM;rw [if_neg (by decide)] at hM
   clear he hJ;go_enter Tryz.func83,Tryz.ntmps83;go_wp2_with fail;generalize hW:World.alloc (World.alloc (World.alloc w _) _) _=W;have hSz:=sz3 hW;have hB:=bl3 hW;have ka:Bk W (w.heap.size) #[a0,a1,a2,a3,a4,a5] 25:=bk2 hW;have kb:Bk W (w.heap.size+1) #[b0,b1,b2,b3,b4,b5] 25:=bk1 hW;have kr:Bk W (w.heap.size+1+1) #[(0:Int),(0:Int),(0:Int),(0:Int),(0:Int),(0:Int)] 25:=bk0 hW;clear hW;refine (zFo _ _ _ _ _ _ _ _ _ _ _ _ _).mono ?_;rintro e' w1 ⟨rfl,hb⟩;replace hB:=hB.trans (hb.mono hB.size);replace ka:=ka.later hb;replace kb:=kb.later hb;replace kr:=kr.later hb;replace hSz:=Nat.le_trans hSz hb.size;clear hb;go_wp2_with fail;generalize hW1:World.alloc w1 _=W2;have kc:Bk W2 w1.heap.size #[.int .i64 (max a0 b0),.int .i64 (max a1 b1),.int .i64 (max a2 b2),.int .i64 (min a3 b3),.int .i64 (min a4 b4),.int .i64 (min a5 b5)] 25:=bk0 hW1 rfl;have hb:=bl1 hW1;clear hW1;replace hB:=hB.trans (hb.mono hB.size);replace ka:=ka.later hb;replace kb:=kb.later hb;replace kr:=kr.later hb;replace hSz:=Nat.le_trans hSz hb.size;clear hb;refine (zP _ _ _ _ _ _ _).mono ?_;rintro e' w3 ⟨rfl,hb⟩;rw [He.out];replace hB:=hB.trans (hb.mono hB.size);replace ka:=ka.later hb;replace kb:=kb.later hb;replace kr:=kr.later hb;replace kc:=kc.later hb;replace hSz:=Nat.le_trans hSz hb.size;clear hb;obtain ⟨cr0,cr1,cr2,cr3,cr4,cr5⟩:=kr.c6;obtain ⟨cc0,cc1,cc2,cc3,cc4,cc5⟩:=kc.c6;obtain ⟨fr0,fr1,fr2,fr3,fr4,fr5⟩:=kr.f6;go_wp2_with fail;replace kr:=kr.put6 (.int .i64 (max a0 b0)) (.int .i64 (max a1 b1)) (.int .i64 (max a2 b2)) (.int .i64 (min a3 b3)) (.int .i64 (min a4 b4)) (.int .i64 (min a5 b5));exact bodyPost_ret (v:=.agg #[.int .i64 (max a0 b0),.int .i64 (max a1 b1),.int .i64 (max a2 b2),.int .i64 (min a3 b3),.int .i64 (min a4 b4),.int .i64 (min a5 b5)]) (results_cell_row rfl _ _ _ 25 #[.int .i64 (max a0 b0),.int .i64 (max a1 b1),.int .i64 (max a2 b2),.int .i64 (min a3 b3),.int .i64 (min a4 b4),.int .i64 (min a5 b5)] (0,0) _ rfl kr Tryz.underlying25 rfl (by kernel_rfl)) rfl ⟨by rw [hM.out],zBi hB (by omega) _ _ _ _ _ _⟩
 | true =>
   have He:=Bx.mk he;rw [he] at hM;rw [if_pos rfl] at hM;clear he hJ;go_enter Tryz.func83,Tryz.ntmps83;go_wp2_with fail;generalize hW:World.alloc (World.alloc (World.alloc w _) _) _=W;have hSz:=sz3 hW;have hB:=bl3 hW;have ka:Bk W (w.heap.size) #[a0,a1,a2,a3,a4,a5] 25:=bk2 hW;have kb:Bk W (w.heap.size+1) #[b0,b1,b2,b3,b4,b5] 25:=bk1 hW;have kr:Bk W (w.heap.size+1+1) #[(0:Int),(0:Int),(0:Int),(0:Int),(0:Int),(0:Int)] 25:=bk0 hW;clear hW;refine (zFo _ _ _ _ _ _ _ _ _ _ _ _ _).mono ?_;rintro e' w1 ⟨rfl,hb⟩;replace hB:=hB.trans (hb.mono hB.size);replace ka:=ka.later hb;replace kb:=kb.later hb;replace kr:=kr.later hb;replace hSz:=Nat.le_trans hSz hb.size;clear hb;go_wp2_with fail;generalize hW1:World.alloc w1 _=W2;have kc:Bk W2 w1.heap.size #[.int .i64 (max a0 b0),.int .i64 (max a1 b1),.int .i64 (max a2 b2),.int .i64 (min a3 b3),.int .i64 (min a4 b4),.int .i64 (min a5 b5)] 25:=bk0 hW1 rfl;have hb:=bl1 hW1;clear hW1;replace hB:=hB.trans (hb.mono hB.size);replace ka:=ka.later hb;replace kb:=kb.later hb;replace kr:=kr.later hb;replace hSz:=Nat.le_trans hSz hb.size;clear hb;refine (zP _ _ _ _ _ _ _).mono ?_;rintro e' w3 ⟨rfl,hb⟩;rw [He.out];replace hB:=hB.trans (hb.mono hB.size);replace ka:=ka.later hb;replace kb:=kb.later hb;replace kr:=kr.later hb;replace kc:=kc.later hb;replace hSz:=Nat.le_trans hSz hb.size;clear hb;obtain ⟨cr0,cr1,cr2,cr3,cr4,cr5⟩:=kr.c6;obtain ⟨cc0,cc1,cc2,cc3,cc4,cc5⟩:=kc.c6;obtain ⟨fr0,fr1,fr2,fr3,fr4,fr5⟩:=kr.f6;go_wp2_with fail;replace kr:=kr.put6 (.int .i64 0) (.int .i64 0) (.int .i64 0) (.int .i64 0) (.int .i64 0) (.int .i64 0);exact bodyPost_ret (v:=.agg #[(0:Int),(0:Int),(0:Int),(0:Int),(0:Int),(0:Int)]) (results_cell_row rfl _ _ _ 25 #[(0:Int),(0:Int),(0:Int),(0:Int),(0:Int),(0:Int)] (0,0) _ rfl kr Tryz.underlying25 rfl (by kernel_rfl)) rfl ⟨by rw [hM.out];rfl,zBi hB (by omega) _ _ _ _ _ _⟩
theorem zCq (a0 a1 a2 a3 a4 a5 b0 b1 b2 b3 b4 b5:Int) (w:World) :
 Calls Tryz.prog 80 #[.agg #[a0,a1,a2,a3,a4,a5],.agg #[b0,b1,b2,b3,b4,b5]] w fun e' w'=>e' = .returned (.bool (zJ ⟨⟨a0,a1,a2⟩,⟨a3,a4,a5⟩⟩ ⟨⟨b0,b1,b2⟩,⟨b3,b4,b5⟩⟩))∧Below w.heap.size w w':=by
 cases he:zN ⟨⟨b0,b1,b2⟩,⟨b3,b4,b5⟩⟩ with
 | true =>
   have hc:=Bx.mk (show zJ ⟨⟨a0,a1,a2⟩,⟨a3,a4,a5⟩⟩ ⟨⟨b0,b1,b2⟩,⟨b3,b4,b5⟩⟩=true by simp [zJ,he])
   have he':=Bx.mk fun W=>((zP b0 b1 b2 b3 b4 b5 W).mono (R':=fun e w'=>e = .returned (.bool true)∧Below W.heap.size W w') (by rw [he];exact fun _ _ h=>h))
   clear he;go_enter Tryz.func80,Tryz.ntmps80;go_wp2_with fail;generalize hW:World.alloc (World.alloc w _) _=W;have hSz:=sz2 hW;have hB:=bl2 hW;have ka:Bk W (w.heap.size) #[a0,a1,a2,a3,a4,a5] 25:=bk1 hW;have kb:Bk W (w.heap.size+1) #[b0,b1,b2,b3,b4,b5] 25:=bk0 hW;clear hW;obtain ⟨ca0,ca1,ca2,ca3,ca4,ca5⟩:=ka.r6;obtain ⟨cb0,cb1,cb2,cb3,cb4,cb5⟩:=kb.r6;have q0:=Bx.mk fun dk osk=>Calls.regrown_of (he'.out (grow (redrawn W dk) osk));refine wp_region_quiet_below (by kernel_rfl) (by kernel_rfl) ?_
   repeat (first | go_big_quiet_step ((first | with_reducible exact q0.out _ _)) | quiet_step (first | with_reducible exact q0.out _ _))
   refine wpQuiet_nil ?_;rintro _ ⟨⟨dq,osq⟩,rfl⟩;have hb:=below_regrown W dq osq;clear ca0 ca1 ca2 ca3 ca4 ca5;clear cb0 cb1 cb2 cb3 cb4 cb5;clear q0;replace hB:=hB.trans (hb.mono hB.size);replace ka:=ka.later hb;replace kb:=kb.later hb;replace hSz:=Nat.le_trans hSz hb.size;clear hb;generalize grow (redrawn W dq) osq=W1 at *;go_wp2_with fail;go_ret;exact ⟨zr hc.out.symm,hB⟩
 | false =>
   have hc:=Bx.mk (show zJ ⟨⟨a0,a1,a2⟩,⟨a3,a4,a5⟩⟩ ⟨⟨b0,b1,b2⟩,⟨b3,b4,b5⟩⟩=decide (zf ⟨⟨a0,a1,a2⟩,⟨a3,a4,a5⟩⟩ ⟨⟨b0,b1,b2⟩,⟨b3,b4,b5⟩⟩=⟨⟨b0,b1,b2⟩,⟨b3,b4,b5⟩⟩) by simp [zJ,he])
   have he':=Bx.mk fun W=>((zP b0 b1 b2 b3 b4 b5 W).mono (R':=fun e w'=>e = .returned (.bool false)∧Below W.heap.size W w') (by rw [he];exact fun _ _ h=>h))
   have hm:=Bx.mk fun W=>zHr a0 a1 a2 a3 a4 a5 b0 b1 b2 b3 b4 b5 W;generalize zf ⟨⟨a0,a1,a2⟩,⟨a3,a4,a5⟩⟩ ⟨⟨b0,b1,b2⟩,⟨b3,b4,b5⟩⟩=m at *;obtain ⟨⟨m0,m1,m2⟩,⟨m3,m4,m5⟩⟩:=m;simp only [] at hm;have heq:=fun W=>zD4 m0 m1 m2 m3 m4 m5 b0 b1 b2 b3 b4 b5 W;generalize decide ((⟨⟨m0,m1,m2⟩,⟨m3,m4,m5⟩⟩:Box)=⟨⟨b0,b1,b2⟩,⟨b3,b4,b5⟩⟩)=r at *;clear he;go_enter Tryz.func80,Tryz.ntmps80;go_wp2_with fail;generalize hW:World.alloc (World.alloc w _) _=W;have hSz:=sz2 hW;have hB:=bl2 hW;have ka:Bk W (w.heap.size) #[a0,a1,a2,a3,a4,a5] 25:=bk1 hW;have kb:Bk W (w.heap.size+1) #[b0,b1,b2,b3,b4,b5] 25:=bk0 hW;clear hW;obtain ⟨ca0,ca1,ca2,ca3,ca4,ca5⟩:=ka.r6;obtain ⟨cb0,cb1,cb2,cb3,cb4,cb5⟩:=kb.r6;have q0:=Bx.mk fun dk osk=>Calls.regrown_of (he'.out (grow (redrawn W dk) osk));have q1:=Bx.mk fun dk osk=>Calls.regrown_of (hm.out (grow (redrawn W dk) osk));refine wp_region_quiet_below (by kernel_rfl) (by kernel_rfl) ?_
   repeat (first | go_big_quiet_step ((first | with_reducible exact q0.out _ _ | with_reducible exact q1.out _ _)) | quiet_step (first | with_reducible exact q0.out _ _ | with_reducible exact q1.out _ _))
   refine wpQuiet_nil ?_;rintro _ ⟨⟨dq,osq⟩,rfl⟩;have hb:=below_regrown W dq osq;clear ca0 ca1 ca2 ca3 ca4 ca5;clear cb0 cb1 cb2 cb3 cb4 cb5;clear q0;clear q1;replace hB:=hB.trans (hb.mono hB.size);replace ka:=ka.later hb;replace kb:=kb.later hb;replace hSz:=Nat.le_trans hSz hb.size;clear hb;generalize grow (redrawn W dq) osq=W1 at *;go_wp2_with fail;go_ret;exact ⟨zr hc.out.symm,hB⟩
end
section
open Go.RowKit
theorem zOY : ∀ n:Int,0≤n→n<2 ^ 62→IntKind.i64.wrap n=n:=fun n h0 h1=>by
 have:(2:Int) ^ 62=4611686018427387904:=by decide
 rw [IntKind.wrap_i64];omega
theorem zFA      (x : Int) (h0 : 0 ≤ x) (h1 : x ≤ 1000000000) : bits .and .i64 x 1 = x % 2 := bits_mask .i64 62 (by decide) zOY       1 (by decide) x h0 (by have : (2 : Int) ^ 62 = 4611686018427387904 := by decide
                                                                                                                                                             omega)
theorem zFB      (x : Int) (h0 : 0 ≤ x) (h1 : x ≤ 1000000000) : bits .and .i64 x 3 = x % 4 := bits_mask .i64 62 (by decide) zOY       2 (by decide) x h0 (by have : (2 : Int) ^ 62 = 4611686018427387904 := by decide
                                                                                                                                                             omega)
theorem zIv : ∀ u v t:Fin 2,bits .or .i64 (bits .or .i64 (u.val:Int) (IntKind.i64.wrap ((v.val:Int) * 2))) (IntKind.i64.wrap ((t.val:Int) * 4))=u.val+2 * v.val+4 * t.val:=by decide
theorem zIw : ∀ u v t:Fin 4,bits .or .i64 (bits .or .i64 (u.val:Int) (IntKind.i64.wrap ((v.val:Int) * 4))) (IntKind.i64.wrap ((t.val:Int) * 16))=u.val+4 * v.val+16 * t.val:=by decide +kernel
theorem or_two {u v t:Int} (hu:0≤u∧u<2) (hv:0≤v∧v<2) (ht:0≤t∧t<2):bits .or .i64 (bits .or .i64 u (IntKind.i64.wrap (v * 2))) (IntKind.i64.wrap (t * 4))=u+2 * v+4 * t:=by
 have:=zIv ⟨u.toNat,by omega⟩ ⟨v.toNat,by omega⟩ ⟨t.toNat,by omega⟩
 simp only [Int.toNat_of_nonneg hu.1,Int.toNat_of_nonneg hv.1,Int.toNat_of_nonneg ht.1] at this;exact this
theorem zIy {u v t:Int} (hu:0≤u∧u<4) (hv:0≤v∧v<4) (ht:0≤t∧t<4):bits .or .i64 (bits .or .i64 u (IntKind.i64.wrap (v * 4))) (IntKind.i64.wrap (t * 16))=u+4 * v+16 * t:=by
 have:=zIw ⟨u.toNat,by omega⟩ ⟨v.toNat,by omega⟩ ⟨t.toNat,by omega⟩
 simp only [Int.toNat_of_nonneg hu.1,Int.toNat_of_nonneg hv.1,Int.toNat_of_nonneg ht.1] at this;exact this
theorem zI2 {u v t:Int} (hu:0≤u∧u<2) (hv:0≤v∧v<2) (ht:0≤t∧t<2):bits .or .i64 (bits .or .i64 u (wrap64 (v * 2))) (wrap64 (t * 4))=u+2 * v+4 * t:=by
 have:=or_two hu hv ht;rwa [IntWalk.i64_left,IntWalk.i64_left] at this
theorem zIz {u v t:Int} (hu:0≤u∧u<4) (hv:0≤v∧v<4) (ht:0≤t∧t<4):bits .or .i64 (bits .or .i64 u (wrap64 (v * 4))) (wrap64 (t * 16))=u+4 * v+16 * t:=by
 have:=zIy hu hv ht;rwa [IntWalk.i64_left,IntWalk.i64_left] at this
end
end Go.Proofs.YtgnfgblkpnfcnaaGreatDoor
