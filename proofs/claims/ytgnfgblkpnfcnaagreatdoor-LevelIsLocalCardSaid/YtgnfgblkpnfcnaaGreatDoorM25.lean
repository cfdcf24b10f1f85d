/- Rst, Rse, Rsf, Rcr, Rtr: joined by program, for one claim. -/
import Derived.Test.YtgnfgblkpnfcnaaGreatDoorM23
import Derived.Test.YtgnfgblkpnfcnaaGreatDoorM24
import Derived.Test.YtgnfgblkpnfcnaaGreatDoorM22
import Derived.Deep.RegionHeld3
import Derived.Deep.AppendLies
import Derived.Deep.DrawnRows
set_option linter.unusedVariables false
set_option linter.unusedSimpArgs false
namespace Go.Proofs.YtgnfgblkpnfcnaaGreatDoor
section
open Go.RowKit Go.Sort Go.Maps
open Oct
set_option maxRecDepth 100000 in
theorem corner9_any (h:Nat) (hh:h≤14) (px py pz:Int) (i:Nat) (hi:i<8) (hx:0≤px∧px≤100000) (hy:0≤py∧py≤100000) (hz:0≤pz∧pz≤100000) (w:World) :
 Calls Tryz.prog 97 #[.agg #[px,py,pz],.int .i64 ((h:Int)+1),(i:Int)] w fun e w'=>e = .returned (.agg #[.int .i64 (px+chX i (2 ^ h)),.int .i64 (py+chY i (2 ^ h)),.int .i64 (pz+chZ i (2 ^ h))])∧Below w.heap.size w w':=by
 have hsd:=fun W=>side_any h hh W
 have hp:=pow_le hh
 generalize hm:(2:Int) ^ h=m at *
 obtain ⟨bx,by',bz⟩:=ch_bd hi (show 0≤m by omega)
 have e1:(i:Int) % 2 * m=chX i m:=by unfold chX;rw [Int.natCast_emod];rfl
 have e2:(i:Int) / 2 % 2 * m=chY i m:=by unfold chY;rw [Int.natCast_emod,Int.natCast_ediv];rfl
 have e3:(i:Int) / 4 * m=chZ i m:=by unfold chZ;rw [Int.natCast_ediv];rfl
 have w1:IntKind.i64.wrap ((i:Int) % 2 * m)=chX i m:=by rw [e1];exact IntWalk.i64_in _ (by omega)
 have w2:IntKind.i64.wrap ((i:Int) / 2 % 2 * m)=chY i m:=by rw [e2];exact IntWalk.i64_in _ (by omega)
 have w3:IntKind.i64.wrap ((i:Int) / 4 * m)=chZ i m:=by rw [e3];exact IntWalk.i64_in _ (by omega)
 generalize chX i m=cx at *
 generalize chY i m=cy at *
 generalize chZ i m=cz at *
 have hsub:IntKind.i64.wrap ((h:Int)+1 - 1)=(h:Int):=by rw [show (h:Int)+1 - 1=h by omega];exact IntWalk.i64_in _ (by omega)
 have hsd:=Bx.mk hsd
 have b1:(0:Int)≤(i:Int):=by omega
 have b2:(i:Int)<8:=by omega
 have t1:=IntWalk.i64_in (px+cx) (by omega)
 have t2:=IntWalk.i64_in (py+cy) (by omega)
 have t3:=IntWalk.i64_in (pz+cz) (by omega)
 clear hm e1 e2 e3 hx hy hz bx by' bz hi
 go_enter Tryz.func97,Tryz.ntmps97
 go_wp2_with fail
 generalize hW:World.alloc (World.alloc w _) _=W
 have hSz:=sz2 hW
 have hB:=bl2 hW
 have kp:Bk W (w.heap.size) #[px,py,pz] 23:=bk1 hW
 have kr:Bk W (w.heap.size+1) #[(0:Int),(0:Int),(0:Int)] 23:=bk0 hW
 clear hW
 refine (hsd.out _).mono ?_
 rintro _ _ ⟨rfl,rfl⟩
 obtain ⟨cp0,cp1,cp2⟩:=kp.c3
 obtain ⟨cr0,cr1,cr2⟩:=kr.c3
 obtain ⟨fr0,fr1,fr2⟩:=kr.f3
 go_wp2_with fail
 replace kr:=kr.put3 (.int .i64 (px+cx)) (.int .i64 (py+cy)) (.int .i64 (pz+cz))
 exact bodyPost_ret (v:=.agg #[.int .i64 (px+cx),.int .i64 (py+cy),.int .i64 (pz+cz)]) (results_cell_row rfl _ _ (w.heap.size+1) 23 #[.int .i64 (px+cx),.int .i64 (py+cy),.int .i64 (pz+cz)] (0,0) _ rfl kr Tryz.underlying23 rfl (by kernel_rfl)) rfl ⟨rfl,blw3 hB (by omega) _ _ _⟩
end
section
open Go.RowKit Go.Sort Go.Maps
open Oct
theorem small_can (f:Pt→Int) : ∀ (n:Nat) (a:Pt),Tr.small n (Tr.can f n a):=by
 have inn : ∀ (n d:Nat) (ch:Fin 8→Tr),(∀ i,Tr.small n (ch i))→Tr.small (n+1) (Tr.mkInner d ch):=by
  intro n d ch h
  unfold Tr.mkInner
  split
  · rename_i hc
    obtain ⟨c,hc⟩:=hc.1
    rw [hc];simp [Tr.small]
  · exact h
 intro n
 induction n with
 | zero =>
   intro a
   unfold Tr.can Tr.mkBrick
   split <;> simp [Tr.small]
 | succ n ih =>
   intro a
   unfold Tr.can
   exact inn n _ _ (fun i=>ih _)
theorem can_size {f:Pt→Int} (hf : ∀ p,0≤f p∧f p≤255) {n:Nat} (hn:n≤12) (a:Pt):(Tr.enc (Tr.can f n a)).length≤100000000000000:=by
 have h:=Tr.enc_small n _ (wf_can hf n a (by omega)) (small_can f n a)
 have:8 ^ n≤8 ^ 12:=Nat.pow_le_pow_right (by decide) hn
 omega
def cellsF (f:Pt→Int) (a:Pt):List Int:=(List.range 64).map fun k=>f (Tr.cellAt a k)
theorem cellsF_len (f:Pt→Int) (a:Pt):(cellsF f a).length=64:=by simp [cellsF]
theorem cellsF_all {f:Pt→Int} (hf : ∀ p,0≤f p∧f p≤255) (a:Pt):(cellsF f a).all Pal.cell=true:=by
 rw [List.all_eq_true]
 intro x hx
 obtain ⟨k,_,rfl⟩:=List.mem_map.1 hx
 rw [Pal.cell_eq]
 simpa using hf _
theorem can_cells (f:Pt→Int) (a:Pt):Tr.can f 0 a=Tr.mkBrick (cellsF f a):=rfl
end
section
open Go.RowKit Go.Sort Go.Maps
open Oct
theorem cube9_zero (L:Nat) (hL:L≤14) (w:World) :
 Calls Tryz.prog 27 #[.agg #[(0:Int),(0:Int),(0:Int)],(L:Int)] w fun e w'=>e = .returned (.agg #[(0:Int),(0:Int),(0:Int),.int .i64 (2 ^ L),.int .i64 (2 ^ L),.int .i64 (2 ^ L)])∧Below w.heap.size w w':=by
 have h:=cube9_any 0 0 0 L hL (by omega) (by omega) (by omega) w
 simpa only [Int.zero_add] using h
end
section
open Go.RowKit Go.Sort Go.Maps
open Oct
set_option maxRecDepth 100000 in
set_option maxHeartbeats 2000000 in
theorem ref_crop (a b c d e f a2 b2 c2 d2 e2 f2:Int) (n:Nat) (hb:Option Addr) (hcp2:Nat) (ys:List Int) (hok:okB ⟨⟨a,b,c⟩,⟨d,e,f⟩⟩=true) (he:emptyB ⟨⟨a,b,c⟩,⟨d,e,f⟩⟩=false) (hV:volB ⟨⟨a,b,c⟩,⟨d,e,f⟩⟩=n) (hle:n≤5000) (HX:GoodG ⟨⟨a2,b2,c2⟩,⟨d2,e2,f2⟩⟩ ys hcp2) (w:World) (hsm:Sl w .i64 hb ys) :
 Calls Tryz.prog 95 #[.agg #[a2,b2,c2,d2,e2,f2,.slice hb ys.length hcp2],.agg #[a,b,c,d,e,f]] w fun e' w' => ∃ g cap,e' = .returned (.tuple #[.agg #[a,b,c,d,e,f,.slice (some ⟨g,0,none⟩) n cap],(0:Int)])∧Sl w' .i64 (some ⟨g,0,none⟩) (cellsOf ⟨⟨a,b,c⟩,⟨d,e,f⟩⟩ (cellG ⟨⟨a2,b2,c2⟩,⟨d2,e2,f2⟩⟩ ys))∧Below w.heap.size w w':=by
 have hnew:=Bx.mk fun W=>ref_new a b c d e f hok he n hV hle W
 have hpos:0<n:=by have:=atB_pos he;omega
 have hpas:=Bx.mk fun (pb po cap:Nat) W (h:Sl W .i64 (some ⟨pb,po,none⟩) (List.replicate n 0)) (h':Sl W .i64 hb ys)=>ref_paste a b c d e f a2 b2 c2 d2 e2 f2 pb po n cap hb hcp2 ys (okB_small hok) hV hpos hle HX W h h'
 have Hsm:=Bx.mk hsm
 clear hok he hV HX hsm
 generalize cellsOf ⟨⟨a,b,c⟩,⟨d,e,f⟩⟩ (cellG ⟨⟨a2,b2,c2⟩,⟨d2,e2,f2⟩⟩ ys)=zs at *
 go_enter Tryz.func95,Tryz.ntmps95
 go_wp2_with fail
 generalize hW:World.alloc (World.alloc (World.alloc w _) _) _=W
 have hSz:=sz3 hW
 have hB:=bl3 hW
 have kg:Bk W (w.heap.size) #[a2,b2,c2,d2,e2,f2,.slice hb ys.length hcp2] 28:=bk2 hW
 have kc:Bk W (w.heap.size+1) #[a,b,c,d,e,f] 25:=bk1 hW
 have kr:Bk W (w.heap.size+1+1) #[(0:Int),(0:Int),(0:Int),(0:Int),(0:Int),(0:Int),.slice none 0 0] 28:=bk0 hW
 clear hW
 obtain ⟨cc0,cc1,cc2,cc3,cc4,cc5⟩:=kc.c6
 go_wp2_with fail
 refine (hnew.out _).mono ?_
 rintro _ w1 ⟨g1,cap,rfl,hown,hb1⟩
 have Hz:=Bx.mk hown.sl
 replace hB:=hB.trans (hb1.mono hB.size)
 replace kg:=kg.later hb1
 replace kc:=kc.later hb1
 replace kr:=kr.later hb1
 replace hSz:=Nat.le_trans hSz hb1.size
 clear hb1
 clear cc0 cc1 cc2 cc3 cc4 cc5
 clear hown
 have cg0 : ∀ o,(w1.alloc o).cell? ⟨w.heap.size,0,none⟩=some (.int .i64 a2):=fun o=>Bk.cell (blk_old kg) 0 rfl
 have cg1 : ∀ o,(w1.alloc o).cell? ⟨w.heap.size,1,none⟩=some (.int .i64 b2):=fun o=>Bk.cell (blk_old kg) 1 rfl
 have cg2 : ∀ o,(w1.alloc o).cell? ⟨w.heap.size,2,none⟩=some (.int .i64 c2):=fun o=>Bk.cell (blk_old kg) 2 rfl
 have cg3 : ∀ o,(w1.alloc o).cell? ⟨w.heap.size,3,none⟩=some (.int .i64 d2):=fun o=>Bk.cell (blk_old kg) 3 rfl
 have cg4 : ∀ o,(w1.alloc o).cell? ⟨w.heap.size,4,none⟩=some (.int .i64 e2):=fun o=>Bk.cell (blk_old kg) 4 rfl
 have cg5 : ∀ o,(w1.alloc o).cell? ⟨w.heap.size,5,none⟩=some (.int .i64 f2):=fun o=>Bk.cell (blk_old kg) 5 rfl
 have cg6 : ∀ o,(w1.alloc o).cell? ⟨w.heap.size,6,none⟩=some (.slice hb ys.length hcp2):=fun o=>Bk.cell (blk_old kg) 6 rfl
 go_wp2_with fail
 generalize hW3:World.alloc w1 _=V3
 have hb3:=bl1 hW3
 have Hz3:=Bx.mk (Hz.out.below hb3)
 replace hB:=hB.trans (hb3.mono hB.size)
 replace kg:=kg.later hb3
 replace kc:=kc.later hb3
 replace kr:=kr.later hb3
 replace hSz:=Nat.le_trans hSz hb3.size
 clear hb3
 clear hW3 cg0 cg1 cg2 cg3 cg4 cg5 cg6 Hz
 refine (hpas.out _ _ _ _ Hz3.out (Hsm.out.below hB)).mono ?_
 rintro _ w4 ⟨g2,cap2,rfl,hown,hb4⟩
 have hg2:=hown.lt g2 rfl
 have Hz4:=Bx.mk hown.sl
 have hSz4:=hSz
 replace hB:=hB.trans (hb4.mono hB.size)
 replace kg:=kg.later hb4
 replace kc:=kc.later hb4
 replace kr:=kr.later hb4
 replace hSz:=Nat.le_trans hSz hb4.size
 clear hb4
 obtain ⟨cr0,cr1,cr2,cr3,cr4,cr5,cr6⟩:=kr.c7
 obtain ⟨fr0,fr1,fr2,fr3,fr4,fr5,fr6⟩:=kr.f7
 clear hown Hz3
 go_wp2_with fail
 have kr2:=kr.put7 (.int .i64 a) (.int .i64 b) (.int .i64 c) (.int .i64 d) (.int .i64 e) (.int .i64 f) (.slice (some ⟨g2,0,none⟩) n cap2)
 have hB2:=Bx.mk (blw7 hB (show w.heap.size≤w.heap.size+1+1 by omega) (.int .i64 a) (.int .i64 b) (.int .i64 c) (.int .i64 d) (.int .i64 e) (.int .i64 f) (.slice (some ⟨g2,0,none⟩) n cap2))
 have hS2:=Bx.mk (sl_put7 Hz4.out (show g2 ≠ w.heap.size+1+1 by omega) (.int .i64 a) (.int .i64 b) (.int .i64 c) (.int .i64 d) (.int .i64 e) (.int .i64 f) (.slice (some ⟨g2,0,none⟩) n cap2))
 obtain ⟨z0,z1,z2,z3,z4,z5,z6⟩:=kr2.c7
 exact bodyPost_ret (v:=.tuple #[.agg #[a,b,c,d,e,f,.slice (some ⟨g2,0,none⟩) n cap2],(0:Int)]) (by simp [results,Tryz.results95,go_sem,z0,z1,z2,z3,z4,z5,z6]) rfl ⟨g2,cap2,rfl,hS2.out,hB2.out⟩
end
section
open Go.RowKit Go.Sort Go.Maps
open Oct
attribute [local go_sem ↓] Go.wp_at_zero Go.wp_at_succ
set_option maxRecDepth 100000 in
set_option maxHeartbeats 1000000 in
theorem tree_apart (a b c d e f:Int) (ha:Option Addr) (hcp:Nat) (xs:List Int) (ax ay az dd m:Int) (hcub:Bx (∀ W,Calls Tryz.prog 27 #[.agg #[ax,ay,az],dd] W fun e w'=>e = .returned (.agg #[ax,ay,az,.int .i64 (ax+m),.int .i64 (ay+m),.int .i64 (az+m)])∧Below W.heap.size W w')) (hem:emptyB (meetB ⟨⟨ax,ay,az⟩,⟨ax+m,ay+m,az+m⟩⟩ ⟨⟨a,b,c⟩,⟨d,e,f⟩⟩)=true) (w:World) :
 Calls Tryz.prog 41 #[.agg #[a,b,c,d,e,f,.slice ha xs.length hcp],.agg #[ax,ay,az],.int .i64 (dd)] w fun e' w'=>e' = .returned (.string (strOfNums (Tr.enc (.uni 0))))∧Below w.heap.size w w':=by
 have hmee:=Bx.mk fun W=>ref_meet ax ay az (ax+m) (ay+m) (az+m) a b c d e f W
 have hemp:=Bx.mk fun W=>ref_empty (meetB ⟨⟨ax,ay,az⟩,⟨ax+m,ay+m,az+m⟩⟩ ⟨⟨a,b,c⟩,⟨d,e,f⟩⟩).lo.x (meetB ⟨⟨ax,ay,az⟩,⟨ax+m,ay+m,az+m⟩⟩ ⟨⟨a,b,c⟩,⟨d,e,f⟩⟩).lo.y (meetB ⟨⟨ax,ay,az⟩,⟨ax+m,ay+m,az+m⟩⟩ ⟨⟨a,b,c⟩,⟨d,e,f⟩⟩).lo.z (meetB ⟨⟨ax,ay,az⟩,⟨ax+m,ay+m,az+m⟩⟩ ⟨⟨a,b,c⟩,⟨d,e,f⟩⟩).hi.x (meetB ⟨⟨ax,ay,az⟩,⟨ax+m,ay+m,az+m⟩⟩ ⟨⟨a,b,c⟩,⟨d,e,f⟩⟩).hi.y (meetB ⟨⟨ax,ay,az⟩,⟨ax+m,ay+m,az+m⟩⟩ ⟨⟨a,b,c⟩,⟨d,e,f⟩⟩).hi.z W
 rw [show emptyB (⟨⟨(meetB ⟨⟨ax,ay,az⟩,⟨ax+m,ay+m,az+m⟩⟩ ⟨⟨a,b,c⟩,⟨d,e,f⟩⟩).lo.x,(meetB ⟨⟨ax,ay,az⟩,⟨ax+m,ay+m,az+m⟩⟩ ⟨⟨a,b,c⟩,⟨d,e,f⟩⟩).lo.y,(meetB ⟨⟨ax,ay,az⟩,⟨ax+m,ay+m,az+m⟩⟩ ⟨⟨a,b,c⟩,⟨d,e,f⟩⟩).lo.z⟩,⟨(meetB ⟨⟨ax,ay,az⟩,⟨ax+m,ay+m,az+m⟩⟩ ⟨⟨a,b,c⟩,⟨d,e,f⟩⟩).hi.x,(meetB ⟨⟨ax,ay,az⟩,⟨ax+m,ay+m,az+m⟩⟩ ⟨⟨a,b,c⟩,⟨d,e,f⟩⟩).hi.y,(meetB ⟨⟨ax,ay,az⟩,⟨ax+m,ay+m,az+m⟩⟩ ⟨⟨a,b,c⟩,⟨d,e,f⟩⟩).hi.z⟩⟩:Box)=true from hem] at hemp
 generalize (meetB ⟨⟨ax,ay,az⟩,⟨ax+m,ay+m,az+m⟩⟩ ⟨⟨a,b,c⟩,⟨d,e,f⟩⟩)=M at *
 clear hem
 obtain ⟨⟨m0,m1,m2⟩,⟨m3,m4,m5⟩⟩:=M
 have hun:=Bx.mk fun W=>ref9_uniform 0 (by decide) W
 generalize strOfNums (Tr.enc (.uni 0))=S at *
 go_enter Tryz.func41,Tryz.ntmps41
 go_wp2_with fail
 generalize hW:World.alloc (World.alloc w _) _=W
 have hSz:=sz2 hW
 have hB:=bl2 hW
 have kg:Bk W (w.heap.size) #[a,b,c,d,e,f,.slice ha xs.length hcp] 28:=bk1 hW
 have kp:Bk W (w.heap.size+1) #[ax,ay,az] 23:=bk0 hW
 clear hW
 obtain ⟨cp0,cp1,cp2⟩:=kp.c3
 go_wp2_with fail
 refine (hcub.out _).mono ?_
 rintro _ w1 ⟨rfl,hb1⟩
 replace hB:=hB.trans (hb1.mono hB.size)
 replace kg:=kg.later hb1
 replace kp:=kp.later hb1
 replace hSz:=Nat.le_trans hSz hb1.size
 clear hb1
 clear cp0 cp1 cp2
 have n0 : ∀ o,(w1.alloc o).cell? ⟨w.heap.size,0,none⟩=some (.int .i64 a):=fun o=>Bk.cell (blk_old kg) 0 rfl
 have n1 : ∀ o,(w1.alloc o).cell? ⟨w.heap.size,1,none⟩=some (.int .i64 b):=fun o=>Bk.cell (blk_old kg) 1 rfl
 have n2 : ∀ o,(w1.alloc o).cell? ⟨w.heap.size,2,none⟩=some (.int .i64 c):=fun o=>Bk.cell (blk_old kg) 2 rfl
 have n3 : ∀ o,(w1.alloc o).cell? ⟨w.heap.size,3,none⟩=some (.int .i64 d):=fun o=>Bk.cell (blk_old kg) 3 rfl
 have n4 : ∀ o,(w1.alloc o).cell? ⟨w.heap.size,4,none⟩=some (.int .i64 e):=fun o=>Bk.cell (blk_old kg) 4 rfl
 have n5 : ∀ o,(w1.alloc o).cell? ⟨w.heap.size,5,none⟩=some (.int .i64 f):=fun o=>Bk.cell (blk_old kg) 5 rfl
 go_wp2_with fail
 generalize hW2:World.alloc w1 _=V2
 have hb2:=bl1 hW2
 have kc:Bk V2 w1.heap.size #[ax,ay,az,.int .i64 (ax+m),.int .i64 (ay+m),.int .i64 (az+m)] 25:=bk0 hW2 rfl
 replace hB:=hB.trans (hb2.mono hB.size)
 replace kg:=kg.later hb2
 replace kp:=kp.later hb2
 replace hSz:=Nat.le_trans hSz hb2.size
 clear hb2
 clear hW2 n0 n1 n2 n3 n4 n5
 generalize w1.heap.size=gc at *
 refine (hmee.out _).mono ?_
 rintro _ w3 ⟨rfl,hb3⟩
 replace hB:=hB.trans (hb3.mono hB.size)
 replace kg:=kg.later hb3
 replace kp:=kp.later hb3
 replace kc:=kc.later hb3
 replace hSz:=Nat.le_trans hSz hb3.size
 clear hb3
 go_wp2_with fail
 refine (hemp.out _).mono ?_
 rintro _ w4 ⟨rfl,hb4⟩
 replace hB:=hB.trans (hb4.mono hB.size)
 replace kg:=kg.later hb4
 replace kp:=kp.later hb4
 replace kc:=kc.later hb4
 replace hSz:=Nat.le_trans hSz hb4.size
 clear hb4
 clear hcub hmee hemp
 go_wp2_with fail
 refine (hun.out _).mono ?_
 rintro _ w5 ⟨rfl,hb5⟩
 replace hB:=hB.trans (hb5.mono hB.size)
 clear hb5
 go_wp2_with fail
 go_ret
 exact ⟨rfl,hB⟩
set_option maxRecDepth 100000 in
set_option maxHeartbeats 2000000 in
theorem tree_leaf (a b c d e f:Int) (ha:Option Addr) (hcp:Nat) (xs:List Int) (HX:GoodG ⟨⟨a,b,c⟩,⟨d,e,f⟩⟩ xs hcp) (ax ay az m:Int) (hm:m=4) (hx:0≤ax∧ax≤16384) (hy:0≤ay∧ay≤16384) (hz:0≤az∧az≤16384) (hcub:Bx (∀ W,Calls Tryz.prog 27 #[.agg #[ax,ay,az],(2:Int)] W fun e w'=>e = .returned (.agg #[ax,ay,az,.int .i64 (ax+m),.int .i64 (ay+m),.int .i64 (az+m)])∧Below W.heap.size W w')) (hem:emptyB (meetB ⟨⟨ax,ay,az⟩,⟨ax+m,ay+m,az+m⟩⟩ ⟨⟨a,b,c⟩,⟨d,e,f⟩⟩)=false) (w:World) (hsl:Sl w .i64 ha xs) :
 Calls Tryz.prog 41 #[.agg #[a,b,c,d,e,f,.slice ha xs.length hcp],.agg #[ax,ay,az],.int .i64 (2)] w fun e' w'=>e' = .returned (.string (strOfNums (Tr.enc (Tr.can (cellG ⟨⟨a,b,c⟩,⟨d,e,f⟩⟩ xs) 0 ⟨ax,ay,az⟩))))∧Below w.heap.size w w':=by
 have hmee:=Bx.mk fun W=>ref_meet ax ay az (ax+m) (ay+m) (az+m) a b c d e f W
 have hemp:=Bx.mk fun W=>ref_empty (meetB ⟨⟨ax,ay,az⟩,⟨ax+m,ay+m,az+m⟩⟩ ⟨⟨a,b,c⟩,⟨d,e,f⟩⟩).lo.x (meetB ⟨⟨ax,ay,az⟩,⟨ax+m,ay+m,az+m⟩⟩ ⟨⟨a,b,c⟩,⟨d,e,f⟩⟩).lo.y (meetB ⟨⟨ax,ay,az⟩,⟨ax+m,ay+m,az+m⟩⟩ ⟨⟨a,b,c⟩,⟨d,e,f⟩⟩).lo.z (meetB ⟨⟨ax,ay,az⟩,⟨ax+m,ay+m,az+m⟩⟩ ⟨⟨a,b,c⟩,⟨d,e,f⟩⟩).hi.x (meetB ⟨⟨ax,ay,az⟩,⟨ax+m,ay+m,az+m⟩⟩ ⟨⟨a,b,c⟩,⟨d,e,f⟩⟩).hi.y (meetB ⟨⟨ax,ay,az⟩,⟨ax+m,ay+m,az+m⟩⟩ ⟨⟨a,b,c⟩,⟨d,e,f⟩⟩).hi.z W
 rw [show emptyB (⟨⟨(meetB ⟨⟨ax,ay,az⟩,⟨ax+m,ay+m,az+m⟩⟩ ⟨⟨a,b,c⟩,⟨d,e,f⟩⟩).lo.x,(meetB ⟨⟨ax,ay,az⟩,⟨ax+m,ay+m,az+m⟩⟩ ⟨⟨a,b,c⟩,⟨d,e,f⟩⟩).lo.y,(meetB ⟨⟨ax,ay,az⟩,⟨ax+m,ay+m,az+m⟩⟩ ⟨⟨a,b,c⟩,⟨d,e,f⟩⟩).lo.z⟩,⟨(meetB ⟨⟨ax,ay,az⟩,⟨ax+m,ay+m,az+m⟩⟩ ⟨⟨a,b,c⟩,⟨d,e,f⟩⟩).hi.x,(meetB ⟨⟨ax,ay,az⟩,⟨ax+m,ay+m,az+m⟩⟩ ⟨⟨a,b,c⟩,⟨d,e,f⟩⟩).hi.y,(meetB ⟨⟨ax,ay,az⟩,⟨ax+m,ay+m,az+m⟩⟩ ⟨⟨a,b,c⟩,⟨d,e,f⟩⟩).hi.z⟩⟩:Box)=false from hem] at hemp
 generalize (meetB ⟨⟨ax,ay,az⟩,⟨ax+m,ay+m,az+m⟩⟩ ⟨⟨a,b,c⟩,⟨d,e,f⟩⟩)=M at *
 clear hem
 obtain ⟨⟨m0,m1,m2⟩,⟨m3,m4,m5⟩⟩:=M
 have h4:=cube4 ax ay az
 rw [←hm] at h4
 have hok:okB ⟨⟨ax,ay,az⟩,⟨ax+m,ay+m,az+m⟩⟩=true:=by
  simp only [okB,Bool.and_eq_true,okP_iff];omega
 have hcr:=Bx.mk fun W (h:Sl W .i64 ha xs)=>ref_crop ax ay az (ax+m) (ay+m) (az+m) a b c d e f 64 ha hcp xs hok h4.1 h4.2.2 (by omega) HX W h
 have hcc:=cells_cube ax ay az (cellG ⟨⟨a,b,c⟩,⟨d,e,f⟩⟩ xs)
 rw [←hm] at hcc
 rw [hcc] at hcr
 have hbr:=Bx.mk fun (pa:Option Addr) (pc:Nat) W (h:Sl W .i64 pa (cellsF (cellG ⟨⟨a,b,c⟩,⟨d,e,f⟩⟩ xs) ⟨ax,ay,az⟩))=>ref9_brick pa pc _ W (cellsF_len _ _) (cellsF_all HX.range _) h
 rw [←can_cells] at hbr
 replace hcr:Bx (∀ W,Sl W .i64 ha xs→Calls Tryz.prog 95 #[.agg #[a,b,c,d,e,f,.slice ha xs.length hcp],.agg #[ax,ay,az,.int .i64 (ax+m),.int .i64 (ay+m),.int .i64 (az+m)]] W fun e' w' => ∃ g cap,e' = .returned (.tuple #[.agg #[ax,ay,az,.int .i64 (ax+m),.int .i64 (ay+m),.int .i64 (az+m),.slice (some ⟨g,0,none⟩) 64 cap],(0:Int)])∧Sl w' .i64 (some ⟨g,0,none⟩) (cellsF (cellG ⟨⟨a,b,c⟩,⟨d,e,f⟩⟩ xs) ⟨ax,ay,az⟩)∧Below W.heap.size W w'):=hcr
 have Hsl:=Bx.mk hsl
 clear hsl hok hcc h4 HX hx hy hz hm
 generalize strOfNums (Tr.enc (Tr.can (cellG ⟨⟨a,b,c⟩,⟨d,e,f⟩⟩ xs) 0 ⟨ax,ay,az⟩))=S at *
 generalize cellsF (cellG ⟨⟨a,b,c⟩,⟨d,e,f⟩⟩ xs) ⟨ax,ay,az⟩=zs at *
 go_enter Tryz.func41,Tryz.ntmps41
 go_wp2_with fail
 generalize hW:World.alloc (World.alloc w _) _=W
 have hSz:=sz2 hW
 have hB:=bl2 hW
 have kg:Bk W (w.heap.size) #[a,b,c,d,e,f,.slice ha xs.length hcp] 28:=bk1 hW
 have kp:Bk W (w.heap.size+1) #[ax,ay,az] 23:=bk0 hW
 clear hW
 obtain ⟨cp0,cp1,cp2⟩:=kp.c3
 go_wp2_with fail
 refine (hcub.out _).mono ?_
 rintro _ w1 ⟨rfl,hb1⟩
 replace hB:=hB.trans (hb1.mono hB.size)
 replace kg:=kg.later hb1
 replace kp:=kp.later hb1
 replace hSz:=Nat.le_trans hSz hb1.size
 clear hb1
 clear cp0 cp1 cp2
 have n0 : ∀ o,(w1.alloc o).cell? ⟨w.heap.size,0,none⟩=some (.int .i64 a):=fun o=>Bk.cell (blk_old kg) 0 rfl
 have n1 : ∀ o,(w1.alloc o).cell? ⟨w.heap.size,1,none⟩=some (.int .i64 b):=fun o=>Bk.cell (blk_old kg) 1 rfl
 have n2 : ∀ o,(w1.alloc o).cell? ⟨w.heap.size,2,none⟩=some (.int .i64 c):=fun o=>Bk.cell (blk_old kg) 2 rfl
 have n3 : ∀ o,(w1.alloc o).cell? ⟨w.heap.size,3,none⟩=some (.int .i64 d):=fun o=>Bk.cell (blk_old kg) 3 rfl
 have n4 : ∀ o,(w1.alloc o).cell? ⟨w.heap.size,4,none⟩=some (.int .i64 e):=fun o=>Bk.cell (blk_old kg) 4 rfl
 have n5 : ∀ o,(w1.alloc o).cell? ⟨w.heap.size,5,none⟩=some (.int .i64 f):=fun o=>Bk.cell (blk_old kg) 5 rfl
 go_wp2_with fail
 generalize hW2:World.alloc w1 _=V2
 have hb2:=bl1 hW2
 have kc:Bk V2 w1.heap.size #[ax,ay,az,.int .i64 (ax+m),.int .i64 (ay+m),.int .i64 (az+m)] 25:=bk0 hW2 rfl
 replace hB:=hB.trans (hb2.mono hB.size)
 replace kg:=kg.later hb2
 replace kp:=kp.later hb2
 replace hSz:=Nat.le_trans hSz hb2.size
 clear hb2
 clear hW2 n0 n1 n2 n3 n4 n5
 generalize w1.heap.size=gc at *
 refine (hmee.out _).mono ?_
 rintro _ w3 ⟨rfl,hb3⟩
 replace hB:=hB.trans (hb3.mono hB.size)
 replace kg:=kg.later hb3
 replace kp:=kp.later hb3
 replace kc:=kc.later hb3
 replace hSz:=Nat.le_trans hSz hb3.size
 clear hb3
 go_wp2_with fail
 refine (hemp.out _).mono ?_
 rintro _ w4 ⟨rfl,hb4⟩
 replace hB:=hB.trans (hb4.mono hB.size)
 replace kg:=kg.later hb4
 replace kp:=kp.later hb4
 replace kc:=kc.later hb4
 replace hSz:=Nat.le_trans hSz hb4.size
 clear hb4
 clear hcub hmee hemp
 obtain ⟨cg0,cg1,cg2,cg3,cg4,cg5,cg6⟩:=kg.c7
 obtain ⟨cc0,cc1,cc2,cc3,cc4,cc5⟩:=kc.c6
 go_wp2_with fail
 refine (hcr.out _ (Hsl.out.below hB)).mono ?_
 rintro _ w5 ⟨g,cap,rfl,hz5,hb5⟩
 clear cg0 cg1 cg2 cg3 cg4 cg5 cg6 cc0 cc1 cc2 cc3 cc4 cc5
 replace hB:=hB.trans (hb5.mono hB.size)
 have Hz5:=Bx.mk hz5
 clear hb5 hcr hz5
 go_wp2_with fail
 generalize hW6:World.alloc w5 _=V6
 have hb6:=bl1 hW6
 have Hz6:=Bx.mk (Hz5.out.below hb6)
 replace hB:=hB.trans (hb6.mono hB.size)
 clear hW6 hb6 Hz5
 refine (hbr.out _ _ _ Hz6.out).mono ?_
 rintro _ w7 ⟨rfl,hb7⟩
 replace hB:=hB.trans (hb7.mono hB.size)
 clear hb7 Hz6
 go_wp2_with fail
 go_ret
 exact ⟨rfl,hB⟩
theorem one_news (w:World) (s:ByteArray) : ∀ j u,[Value.string s][j]? = some u→(w.alloc (.cells #[.string s] 9)).cell? ((⟨w.heap.size,0,none⟩:Addr).add j)=some u:=by
 intro j u hu
 match j with
 | 0=>simp at hu;subst hu;simp [Addr.add]
 | j+1=>simp at hu
theorem one_cell1 {s:ByteArray} : ∀ u∈[Value.string s],u.oneCell'=true:=by
 intro u hu
 rw [List.mem_singleton] at hu
 subst hu;rfl
structure TrI (w:World) (gv pv:Array Value) (ha:Option Addr) (xs:List Int) (v:Value) (vs:List Value) (wr:World):Prop where
 kg:Bk wr w.heap.size gv 28
 kp:Bk wr (w.heap.size+1) pv 23
 own:Ownv wr (w.heap.size+1+1) 9 v vs
 bel:Below w.heap.size w wr
 sl:Sl wr .i64 ha xs
theorem TrI.later {w wr w':World} {gv pv:Array Value} {ha:Option Addr} {xs:List Int} {v:Value} {vs:List Value} (H:TrI w gv pv ha xs v vs wr) (h:Below wr.heap.size wr w'):TrI w gv pv ha xs v vs w' :=
 ⟨H.kg.later h,H.kp.later h,H.own.below h,H.bel.trans (h.mono H.bel.size),H.sl.below h⟩
set_option maxRecDepth 100000 in
set_option maxHeartbeats 2000000 in
theorem tree_node (a b c d e f:Int) (ha:Option Addr) (hcp:Nat) (xs:List Int) (n:Nat) (hn:n≤11) (F:Pt→Int) (hF : ∀ p,0≤F p∧F p≤255) (ax ay az m:Int) (hx:0≤ax∧ax≤16384) (hy:0≤ay∧ay≤16384) (hz:0≤az∧az≤16384) (hcub:Bx (∀ W,Calls Tryz.prog 27 #[.agg #[ax,ay,az],.int .i64 ((n:Int)+3)] W fun e w'=>e = .returned (.agg #[ax,ay,az,.int .i64 (ax+m),.int .i64 (ay+m),.int .i64 (az+m)])∧Below W.heap.size W w')) (hem:emptyB (meetB ⟨⟨ax,ay,az⟩,⟨ax+m,ay+m,az+m⟩⟩ ⟨⟨a,b,c⟩,⟨d,e,f⟩⟩)=false)
 (hih:Bx (∀ (k:Nat),k<8 → ∀ W,Sl W .i64 ha xs→Calls Tryz.prog 41 #[.agg #[a,b,c,d,e,f,.slice ha xs.length hcp],.agg #[.int .i64 (ax+chX k (2 ^ (n+2))),.int .i64 (ay+chY k (2 ^ (n+2))),.int .i64 (az+chZ k (2 ^ (n+2)))],.int .i64 ((n:Int)+2)] W fun e' w'=>e' = .returned (.string (strOfNums (Tr.enc (Tr.can F n (Tr.cor ⟨ax,ay,az⟩ n k)))))∧Below W.heap.size W w')) (w:World) (hsl:Sl w .i64 ha xs) :
 Calls Tryz.prog 41 #[.agg #[a,b,c,d,e,f,.slice ha xs.length hcp],.agg #[ax,ay,az],.int .i64 ((n:Int)+3)] w fun e' w'=>e' = .returned (.string (strOfNums (Tr.enc (Tr.can F (n+1) ⟨ax,ay,az⟩))))∧Below w.heap.size w w':=by
 obtain ⟨K,hK⟩ : ∃ K:Fin 8→Tr,K=fun i=>Tr.can F n (Tr.cor ⟨ax,ay,az⟩ n i.val):=⟨_,rfl⟩
 obtain ⟨TK,hTK⟩ : ∃ TK:Nat→ByteArray,TK=fun k=>strOfNums (Tr.enc (Tr.can F n (Tr.cor ⟨ax,ay,az⟩ n k))):=⟨_,rfl⟩
 have hres:Tr.can F (n+1) ⟨ax,ay,az⟩=Tr.mkInner (n+3) K:=by rw [hK];rfl
 have hKw : ∀ i,Tr.WF (K i):=fun i=>by rw [hK];exact wf_can hF n _ (by omega)
 have hKs:(Tr.enc (.node (n+3) K)).length≤1000000000000000:=by
  have hk:=fun i=>(show (Tr.enc (K i)).length≤100000000000000 by rw [hK];exact can_size hF (by omega) _)
  rw [←Tr.pos_all (n+3) K]
  have key : ∀ k,k≤8→Tr.pos K k≤2+k * 100000000000000:=by
   intro k
   induction k with
   | zero=>intro _;rw [Tr.pos_zero];omega
   | succ k ih=>intro hk8;rw [Tr.pos_succ K (by omega)];have h1:=ih (by omega);have h2:=hk ⟨k,by omega⟩;omega
  have:=key 8 (Nat.le_refl _)
  omega
 obtain ⟨i0,hi0,hz0,hz1,hz2⟩:=info_parts (show (Tryz.prog.info? 9).map (fun i=>(i.zero,i.size,i.bytes))=some (some (.string ByteArray.empty),1,16) by kernel_rfl)
 have hinr:=Bx.mk fun (a:Option Addr) (cap:Nat) W (h:Slv W a (strs (kidsE K)))=>ref9_inner (n+3) (by omega) K hKw hKs a cap W h
 rw [←hres,show ((n+3:Nat):Int)=(n:Int)+3 by omega] at hinr
 have hKat:=Bx.mk fun k (hk:k<8)=>(show strs ((kidsE K).take (k+1))=strs ((kidsE K).take k)++[.string (TK k)] by
  rw [kidsE_take K hk,strs_snoc,hTK,hK])
 have hcor:=Bx.mk fun W (k:Nat) (hk:k<8)=>corner9_any (n+2) (by omega) ax ay az k hk (by omega) (by omega) (by omega) W
 rw [show ((n+2:Nat):Int)+1=(n:Int)+3 by omega] at hcor
 have hsub:IntKind.i64.wrap ((n:Int)+3 - 1)=(n:Int)+2:=by rw [show (n:Int)+3 - 1=(n:Int)+2 by omega];exact IntWalk.i64_in _ (by omega)
 have h2:((n:Int)+3 == 2)=false:=by simp;omega
 have hih2:=hih
 clear hih
 have hih:=Bx.mk fun (k:Nat) (hk:k<8) W (h:Sl W .i64 ha xs)=>(show Calls Tryz.prog 41 #[.agg #[a,b,c,d,e,f,.slice ha xs.length hcp],.agg #[.int .i64 (ax+chX k (2 ^ (n+2))),.int .i64 (ay+chY k (2 ^ (n+2))),.int .i64 (az+chZ k (2 ^ (n+2)))],.int .i64 ((n:Int)+2)] W fun e' w'=>e' = .returned (.string (TK k))∧Below W.heap.size W w' from by rw [hTK];exact hih2.out k hk W h)
 clear hih2
 have hmee:=Bx.mk fun W=>ref_meet ax ay az (ax+m) (ay+m) (az+m) a b c d e f W
 have hemp:=Bx.mk fun W=>ref_empty (meetB ⟨⟨ax,ay,az⟩,⟨ax+m,ay+m,az+m⟩⟩ ⟨⟨a,b,c⟩,⟨d,e,f⟩⟩).lo.x (meetB ⟨⟨ax,ay,az⟩,⟨ax+m,ay+m,az+m⟩⟩ ⟨⟨a,b,c⟩,⟨d,e,f⟩⟩).lo.y (meetB ⟨⟨ax,ay,az⟩,⟨ax+m,ay+m,az+m⟩⟩ ⟨⟨a,b,c⟩,⟨d,e,f⟩⟩).lo.z (meetB ⟨⟨ax,ay,az⟩,⟨ax+m,ay+m,az+m⟩⟩ ⟨⟨a,b,c⟩,⟨d,e,f⟩⟩).hi.x (meetB ⟨⟨ax,ay,az⟩,⟨ax+m,ay+m,az+m⟩⟩ ⟨⟨a,b,c⟩,⟨d,e,f⟩⟩).hi.y (meetB ⟨⟨ax,ay,az⟩,⟨ax+m,ay+m,az+m⟩⟩ ⟨⟨a,b,c⟩,⟨d,e,f⟩⟩).hi.z W
 rw [show emptyB (⟨⟨(meetB ⟨⟨ax,ay,az⟩,⟨ax+m,ay+m,az+m⟩⟩ ⟨⟨a,b,c⟩,⟨d,e,f⟩⟩).lo.x,(meetB ⟨⟨ax,ay,az⟩,⟨ax+m,ay+m,az+m⟩⟩ ⟨⟨a,b,c⟩,⟨d,e,f⟩⟩).lo.y,(meetB ⟨⟨ax,ay,az⟩,⟨ax+m,ay+m,az+m⟩⟩ ⟨⟨a,b,c⟩,⟨d,e,f⟩⟩).lo.z⟩,⟨(meetB ⟨⟨ax,ay,az⟩,⟨ax+m,ay+m,az+m⟩⟩ ⟨⟨a,b,c⟩,⟨d,e,f⟩⟩).hi.x,(meetB ⟨⟨ax,ay,az⟩,⟨ax+m,ay+m,az+m⟩⟩ ⟨⟨a,b,c⟩,⟨d,e,f⟩⟩).hi.y,(meetB ⟨⟨ax,ay,az⟩,⟨ax+m,ay+m,az+m⟩⟩ ⟨⟨a,b,c⟩,⟨d,e,f⟩⟩).hi.z⟩⟩:Box)=false from hem] at hemp
 generalize (meetB ⟨⟨ax,ay,az⟩,⟨ax+m,ay+m,az+m⟩⟩ ⟨⟨a,b,c⟩,⟨d,e,f⟩⟩)=M at *
 clear hem
 obtain ⟨⟨m0,m1,m2⟩,⟨m3,m4,m5⟩⟩:=M
 have Hsl:=Bx.mk hsl
 clear hK hTK hres hKw hKs hx hy hz hF hsl
 generalize strOfNums (Tr.enc (Tr.can F (n+1) ⟨ax,ay,az⟩))=S2 at *
 go_enter Tryz.func41,Tryz.ntmps41
 go_wp2_with fail
 generalize hW:World.alloc (World.alloc w _) _=W
 have hSz:=sz2 hW
 have hB:=bl2 hW
 have kg:Bk W (w.heap.size) #[a,b,c,d,e,f,.slice ha xs.length hcp] 28:=bk1 hW
 have kp:Bk W (w.heap.size+1) #[ax,ay,az] 23:=bk0 hW
 clear hW
 obtain ⟨cp0,cp1,cp2⟩:=kp.c3
 go_wp2_with fail
 refine (hcub.out _).mono ?_
 rintro _ w1 ⟨rfl,hb1⟩
 replace hB:=hB.trans (hb1.mono hB.size)
 replace kg:=kg.later hb1
 replace kp:=kp.later hb1
 replace hSz:=Nat.le_trans hSz hb1.size
 clear hb1
 clear cp0 cp1 cp2
 have n0 : ∀ o,(w1.alloc o).cell? ⟨w.heap.size,0,none⟩=some (.int .i64 a):=fun o=>Bk.cell (blk_old kg) 0 rfl
 have n1 : ∀ o,(w1.alloc o).cell? ⟨w.heap.size,1,none⟩=some (.int .i64 b):=fun o=>Bk.cell (blk_old kg) 1 rfl
 have n2 : ∀ o,(w1.alloc o).cell? ⟨w.heap.size,2,none⟩=some (.int .i64 c):=fun o=>Bk.cell (blk_old kg) 2 rfl
 have n3 : ∀ o,(w1.alloc o).cell? ⟨w.heap.size,3,none⟩=some (.int .i64 d):=fun o=>Bk.cell (blk_old kg) 3 rfl
 have n4 : ∀ o,(w1.alloc o).cell? ⟨w.heap.size,4,none⟩=some (.int .i64 e):=fun o=>Bk.cell (blk_old kg) 4 rfl
 have n5 : ∀ o,(w1.alloc o).cell? ⟨w.heap.size,5,none⟩=some (.int .i64 f):=fun o=>Bk.cell (blk_old kg) 5 rfl
 go_wp2_with fail
 generalize hW2:World.alloc w1 _=V2
 have hb2:=bl1 hW2
 have kc:Bk V2 w1.heap.size #[ax,ay,az,.int .i64 (ax+m),.int .i64 (ay+m),.int .i64 (az+m)] 25:=bk0 hW2 rfl
 replace hB:=hB.trans (hb2.mono hB.size)
 replace kg:=kg.later hb2
 replace kp:=kp.later hb2
 replace hSz:=Nat.le_trans hSz hb2.size
 clear hb2
 clear hW2 n0 n1 n2 n3 n4 n5
 generalize w1.heap.size=gc at *
 refine (hmee.out _).mono ?_
 rintro _ w3 ⟨rfl,hb3⟩
 replace hB:=hB.trans (hb3.mono hB.size)
 replace kg:=kg.later hb3
 replace kp:=kp.later hb3
 replace kc:=kc.later hb3
 replace hSz:=Nat.le_trans hSz hb3.size
 clear hb3
 go_wp2_with fail
 refine (hemp.out _).mono ?_
 rintro _ w4 ⟨rfl,hb4⟩
 replace hB:=hB.trans (hb4.mono hB.size)
 replace kg:=kg.later hb4
 replace kp:=kp.later hb4
 replace kc:=kc.later hb4
 replace hSz:=Nat.le_trans hSz hb4.size
 clear hb4
 clear hcub hmee hemp
 have HI:Bx (TrI w #[a,b,c,d,e,f,.slice ha xs.length hcp] #[ax,ay,az] ha xs (.slice none 0 0) (strs ((kidsE K).take 0)) w4):=⟨⟨kg,kp,Ownv.nil _ _ _,hB,Hsl.out.below hB⟩⟩
 clear kg kp kc hB hSz
 go_wp2_with fail
 go_loopw [11,12] (fun v11 v12 wr => ∃ k:Nat,k≤8∧v12 = .int .i64 k∧Bx (TrI w #[a,b,c,d,e,f,.slice ha xs.length hcp] #[ax,ay,az] ha xs v11 (strs ((kidsE K).take k)) wr)) (fun _ i _=>8 - (intOf i).toNat)
 case atStart=>exact ⟨0,Nat.zero_le _,rfl,HI⟩
 case round =>
  clear HI
  obtain ⟨k,hk,rfl,HI⟩:=hrel
  by_cases hlt:k<8
  · have t0:decide ((k:Int)<8)=true:=by simp;omega
    have b1:(0:Int)≤(k:Int):=by omega
    have b2:(k:Int)<8:=by omega
    have hnext:=Bx.mk (hKat.out k hlt)
    have Htl:=Bx.mk (show (strs ((kidsE K).take k)).length≤1000000000 by rw [strs_length,List.length_take];omega)
    obtain ⟨cg0,cg1,cg2,cg3,cg4,cg5,cg6⟩:=HI.out.kg.c7
    obtain ⟨cp0,cp1,cp2⟩:=HI.out.kp.c3
    have hle3:w.heap.size+1+1≤wr.heap.size:=HI.out.kp.lt
    go_wp2_with fail
    go_region_held3 (fun w'=>w'.cell? ⟨w.heap.size,0,none⟩=some (.int .i64 a)∧w'.cell? ⟨w.heap.size,1,none⟩=some (.int .i64 b)∧w'.cell? ⟨w.heap.size,2,none⟩=some (.int .i64 c)∧w'.cell? ⟨w.heap.size,3,none⟩=some (.int .i64 d)∧w'.cell? ⟨w.heap.size,4,none⟩=some (.int .i64 e)∧w'.cell? ⟨w.heap.size,5,none⟩=some (.int .i64 f)∧w'.cell? ⟨w.heap.size,6,none⟩=some (.slice ha xs.length hcp)∧w'.cell? ⟨w.heap.size+1,0,none⟩=some (.int .i64 ax)∧w'.cell? ⟨w.heap.size+1,1,none⟩=some (.int .i64 ay)∧w'.cell? ⟨w.heap.size+1,2,none⟩=some (.int .i64 az))
     (first | go_keep | (dsimp only;and_intros <;> assumption))
     (first
      | (go_at_call 41;refine (hih.out k hlt _ HI5.sl).mono ?_;rintro e6 w6 ⟨rfl,hb6⟩;have HI6:=HI5.later hb6;have d0:=HI6.kg.cell 0 rfl;have d1:=HI6.kg.cell 1 rfl;have d2:=HI6.kg.cell 2 rfl;have d3:=HI6.kg.cell 3 rfl;have d4:=HI6.kg.cell 4 rfl;have d5:=HI6.kg.cell 5 rfl;have d6:=HI6.kg.cell 6 rfl;have e0':=HI6.kp.cell 0 rfl;have e1':=HI6.kp.cell 1 rfl;have e2':=HI6.kp.cell 2 rfl)
      | (go_at_call 97;refine (hcor.out _ k hlt).mono ?_;rintro e5 w5 ⟨rfl,hb5⟩;have hB5:=(Below.refl wr.heap.size wr).drew.trans hb5;have HI5:=HI.out.later hB5;have d0':=HI5.kg.cell 0 rfl;have d1':=HI5.kg.cell 1 rfl;have d2':=HI5.kg.cell 2 rfl;have d3':=HI5.kg.cell 3 rfl;have d4':=HI5.kg.cell 4 rfl;have d5':=HI5.kg.cell 5 rfl;have d6':=HI5.kg.cell 6 rfl;have e0'':=HI5.kp.cell 0 rfl;have e1'':=HI5.kp.cell 1 rfl;have e2'':=HI5.kp.cell 2 rfl)
      | (refine step_append_lies _ (by rfl) (.tmp 38) (.tmp 47) 37 (by rfl) (w.heap.size+1+1) 9 i0 (.string ByteArray.empty) 1 16 Tryz.underlying37 hi0 hz0 hz1 hz2 rfl (by omega) _ _ _ (by simp [Act.eval,Act.put]) (HI6.own.alloc _) ⟨w6.heap.size,0,none⟩ 1 1 [.string (TK k)] (by simp [Act.eval,Act.put]) rfl (one_news w6 _) one_cell1 (by omega) (by have:=Htl.out;simp only [maxLen];omega) (by have:=Htl.out;omega) (by have:=HI6.kp.lt;simp;omega) (w6.heap.size+1) (by simp) ?_;intro g9 c9 w9 hown9 hg9 hat9 hlt9;have HI7:=HI6.later (below_lit w6 (.cells #[.string (TK k)] 9));have kg9:=Bk.grownO HI7.kg hg9 (fun e=>by have:=(HI7.own.lt _ e).1;omega);have kp9:=Bk.grownO HI7.kp hg9 (fun e=>by have:=(HI7.own.lt _ e).1;omega);have f0:=kg9.cell 0 rfl;have f1:=kg9.cell 1 rfl;have f2:=kg9.cell 2 rfl;have f3:=kg9.cell 3 rfl;have f4:=kg9.cell 4 rfl;have f5:=kg9.cell 5 rfl;have f6:=kg9.cell 6 rfl;have f0':=kp9.cell 0 rfl;have f1':=kp9.cell 1 rfl;have f2':=kp9.cell 2 rfl))
    have hO:Ownv w9 (w.heap.size+1+1) 9 (.slice (some ⟨g9,0,none⟩) ((strs (List.take k (kidsE K))).length+1) c9) (strs ((kidsE K).take (k+1))):=by
     unfold Ownv
     rw [hnext.out,List.length_append,List.length_singleton];exact hown9
    have hb9:=(HI7.bel).grown hg9 HI7.bel.size (fun g hg=>by have:=(HI7.own.lt g hg).1;omega)
    have HI3:=Bx.mk (show TrI w #[a,b,c,d,e,f,.slice ha xs.length hcp] #[ax,ay,az] ha xs _ (strs ((kidsE K).take (k+1))) w9 from ⟨kg9,kp9,hO,hb9,Hsl.out.below hb9⟩)
    clear hown9 hg9 hb9 hO kg9 kp9 hat9 hlt9 f0 f1 f2 f3 f4 f5 f6 f0' f1' f2' d0 d0' d1 d1' d2 d2' d3 d3' d4 d4' d5 d5' d6 d6' e0' e0'' e1' e1'' e2' e2'' HI7 HI6 HI5 cg0 cg1 cg2 cg3 cg4 cg5 cg6 cp0 cp1 cp2
    go_wp2_with fail
    go_roundw
    case rel=>exact ⟨k+1,by omega,by go_num,HI3⟩
    case measure=>simp [intOf];omega
  · obtain rfl:k=8:=by omega
    have t0:decide (((8:Nat):Int)<8)=false:=by decide
    have hown2:=HI.out.own
    rw [List.take_of_length_le (by rw [kidsE_len];exact Nat.le_refl _)] at hown2
    obtain ⟨pa,pc,rfl,hsl⟩:=hown2.form
    have hl8:(strs (kidsE K)).length=8:=by rw [strs_length,kidsE_len]
    rw [hl8]
    have Hsl:=Bx.mk hsl
    clear hsl hown2 hl8
    go_wp2_with fail
    refine (hinr.out pa pc _ Hsl.out).mono ?_
    rintro _ w9 ⟨rfl,hb9⟩
    have HB9:=Bx.mk (HI.out.bel.trans (hb9.mono HI.out.bel.size))
    clear hb9
    go_wp2_with fail
    go_ret
    exact ⟨rfl,HB9.out⟩
end
end Go.Proofs.YtgnfgblkpnfcnaaGreatDoor
