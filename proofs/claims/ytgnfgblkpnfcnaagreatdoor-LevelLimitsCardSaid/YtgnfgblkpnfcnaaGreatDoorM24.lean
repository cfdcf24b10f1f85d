/- Rtr: joined by program, for one claim. -/
import Derived.Test.YtgnfgblkpnfcnaaGreatDoorM23
import Derived.Deep.RegionHeld3
import Derived.Deep.AppendLies
import Derived.Deep.DrawnRows
set_option linter.unusedVariables false
set_option linter.unusedSimpArgs false
section
namespace Go.Proofs.YtgnfgblkpnfcnaaGreatDoor
open Go.RowKit Go.Sort Go.Maps
open Oct
attribute [local go_sem ↓] Go.wp_at_zero Go.wp_at_succ
set_option maxRecDepth 100000 in
set_option maxHeartbeats 1000000 in
theorem tree_apart (a b c d e f:Int) (ha:Option Addr) (hcp:Nat) (xs:List Int) (ax ay az dd m:Int) (hcub:Bx (∀ W,Calls Tryz.prog 27 #[.agg #[ax,ay,az],dd] W fun e w'=>e = .returned (.agg #[ax,ay,az,.int .i64 (ax+m),.int .i64 (ay+m),.int .i64 (az+m)])∧Below W.heap.size W w')) (hem:emptyB (meetB ⟨⟨ax,ay,az⟩,⟨ax+m,ay+m,az+m⟩⟩ ⟨⟨a,b,c⟩,⟨d,e,f⟩⟩)=true) (w:World) :
 Calls Tryz.prog 41 #[.agg #[a,b,c,d,e,f,.slice ha xs.length hcp],.agg #[ax,ay,az],.int .i64 (dd)] w fun e' w'=>e' = .returned (.string (strOfNums (Tr.enc (.uni 0))))∧Below w.heap.size w w':=by
 have hmee:=Bx.mk fun W=>ref_meet ax ay az (ax+m) (ay+m) (az+m) a b c d e f W
 have hemp:=Bx.mk fun W=>ref_empty (meetB ⟨⟨ax,ay,az⟩,⟨ax+m,ay+m,az+m⟩⟩ ⟨⟨a,b,c⟩,⟨d,e,f⟩⟩).lo.x (meetB ⟨⟨ax,ay,az⟩,⟨ax+m,ay+m,az+m⟩⟩ ⟨⟨a,b,c⟩,⟨d,e,f⟩⟩).lo.y (meetB ⟨⟨ax,ay,az⟩,⟨ax+m,ay+m,az+m⟩⟩ ⟨⟨a,b,c⟩,⟨d,e,f⟩⟩).lo.z (meetB ⟨⟨ax,ay,az⟩,⟨ax+m,ay+m,az+m⟩⟩ ⟨⟨a,b,c⟩,⟨d,e,f⟩⟩).hi.x (meetB ⟨⟨ax,ay,az⟩,⟨ax+m,ay+m,az+m⟩⟩ ⟨⟨a,b,c⟩,⟨d,e,f⟩⟩).hi.y (meetB ⟨⟨ax,ay,az⟩,⟨ax+m,ay+m,az+m⟩⟩ ⟨⟨a,b,c⟩,⟨d,e,f⟩⟩).hi.z W
 rw [show emptyB (⟨⟨(meetB ⟨⟨ax,ay,az⟩,⟨ax+m,ay+m,az+m⟩⟩ ⟨⟨a,b,c⟩,⟨d,e,f⟩⟩).lo.x,(meetB ⟨⟨ax,ay,az⟩,⟨ax+m,ay+m,az+m⟩⟩ ⟨⟨a,b,c⟩,⟨d,e,f⟩⟩).lo.y,(meetB ⟨⟨ax,ay,az⟩,⟨ax+m,ay+m,az+m⟩⟩ ⟨⟨a,b,c⟩,⟨d,e,f⟩⟩).lo.z⟩,⟨(meetB ⟨⟨ax,ay,az⟩,⟨ax+m,ay+m,az+m⟩⟩ ⟨⟨a,b,c⟩,⟨d,e,f⟩⟩).hi.x,(meetB ⟨⟨ax,ay,az⟩,⟨ax+m,ay+m,az+m⟩⟩ ⟨⟨a,b,c⟩,⟨d,e,f⟩⟩).hi.y,(meetB ⟨⟨ax,ay,az⟩,⟨ax+m,ay+m,az+m⟩⟩ ⟨⟨a,b,c⟩,⟨d,e,f⟩⟩).hi.z⟩⟩:Box)=true from hem] at hemp
 generalize (meetB ⟨⟨ax,ay,az⟩,⟨ax+m,ay+m,az+m⟩⟩ ⟨⟨a,b,c⟩,⟨d,e,f⟩⟩)=M at *
 clear hem
 obtain ⟨⟨m0,m1,m2⟩,⟨m3,m4,m5⟩⟩:=M
 have hun:=Bx.mk fun W=>ref9_uniform 0 (by decide) W
 generalize strOfNums (Tr.enc (.uni 0))=S at *
 go_enter Tryz.func41,Tryz.ntmps41
 go_wp2_with fail
 generalize hW:World.alloc (World.alloc w _) _=W
 have hSz:=sz2 hW
 have hB:=bl2 hW
 have kg:Bk W (w.heap.size) #[a,b,c,d,e,f,.slice ha xs.length hcp] 28:=bk1 hW
 have kp:Bk W (w.heap.size+1) #[ax,ay,az] 23:=bk0 hW
 clear hW
 obtain ⟨cp0,cp1,cp2⟩:=kp.c3
 go_wp2_with fail
 refine (hcub.out _).mono ?_
 rintro _ w1 ⟨rfl,hb1⟩
 replace hB:=hB.trans (hb1.mono hB.size)
 replace kg:=kg.later hb1
 replace kp:=kp.later hb1
 replace hSz:=Nat.le_trans hSz hb1.size
 clear hb1
 clear cp0 cp1 cp2
 have n0 : ∀ o,(w1.alloc o).cell? ⟨w.heap.size,0,none⟩=some (.int .i64 a):=fun o=>Bk.cell (blk_old kg) 0 rfl
 have n1 : ∀ o,(w1.alloc o).cell? ⟨w.heap.size,1,none⟩=some (.int .i64 b):=fun o=>Bk.cell (blk_old kg) 1 rfl
 have n2 : ∀ o,(w1.alloc o).cell? ⟨w.heap.size,2,none⟩=some (.int .i64 c):=fun o=>Bk.cell (blk_old kg) 2 rfl
 have n3 : ∀ o,(w1.alloc o).cell? ⟨w.heap.size,3,none⟩=some (.int .i64 d):=fun o=>Bk.cell (blk_old kg) 3 rfl
 have n4 : ∀ o,(w1.alloc o).cell? ⟨w.heap.size,4,none⟩=some (.int .i64 e):=fun o=>Bk.cell (blk_old kg) 4 rfl
 have n5 : ∀ o,(w1.alloc o).cell? ⟨w.heap.size,5,none⟩=some (.int .i64 f):=fun o=>Bk.cell (blk_old kg) 5 rfl
 go_wp2_with fail
 generalize hW2:World.alloc w1 _=V2
 have hb2:=bl1 hW2
 have kc:Bk V2 w1.heap.size #[ax,ay,az,.int .i64 (ax+m),.int .i64 (ay+m),.int .i64 (az+m)] 25:=bk0 hW2 rfl
 replace hB:=hB.trans (hb2.mono hB.size)
 replace kg:=kg.later hb2
 replace kp:=kp.later hb2
 replace hSz:=Nat.le_trans hSz hb2.size
 clear hb2
 clear hW2 n0 n1 n2 n3 n4 n5
 generalize w1.heap.size=gc at *
 refine (hmee.out _).mono ?_
 rintro _ w3 ⟨rfl,hb3⟩
 replace hB:=hB.trans (hb3.mono hB.size)
 replace kg:=kg.later hb3
 replace kp:=kp.later hb3
 replace kc:=kc.later hb3
 replace hSz:=Nat.le_trans hSz hb3.size
 clear hb3
 go_wp2_with fail
 refine (hemp.out _).mono ?_
 rintro _ w4 ⟨rfl,hb4⟩
 replace hB:=hB.trans (hb4.mono hB.size)
 replace kg:=kg.later hb4
 replace kp:=kp.later hb4
 replace kc:=kc.later hb4
 replace hSz:=Nat.le_trans hSz hb4.size
 clear hb4
 clear hcub hmee hemp
 go_wp2_with fail
 refine (hun.out _).mono ?_
 rintro _ w5 ⟨rfl,hb5⟩
 replace hB:=hB.trans (hb5.mono hB.size)
 clear hb5
 go_wp2_with fail
 go_ret
 exact ⟨rfl,hB⟩
set_option maxRecDepth 100000 in
set_option maxHeartbeats 2000000 in
theorem tree_leaf (a b c d e f:Int) (ha:Option Addr) (hcp:Nat) (xs:List Int) (HX:GoodG ⟨⟨a,b,c⟩,⟨d,e,f⟩⟩ xs hcp) (ax ay az m:Int) (hm:m=4) (hx:0≤ax∧ax≤16384) (hy:0≤ay∧ay≤16384) (hz:0≤az∧az≤16384) (hcub:Bx (∀ W,Calls Tryz.prog 27 #[.agg #[ax,ay,az],(2:Int)] W fun e w'=>e = .returned (.agg #[ax,ay,az,.int .i64 (ax+m),.int .i64 (ay+m),.int .i64 (az+m)])∧Below W.heap.size W w')) (hem:emptyB (meetB ⟨⟨ax,ay,az⟩,⟨ax+m,ay+m,az+m⟩⟩ ⟨⟨a,b,c⟩,⟨d,e,f⟩⟩)=false) (w:World) (hsl:Sl w .i64 ha xs) :
 Calls Tryz.prog 41 #[.agg #[a,b,c,d,e,f,.slice ha xs.length hcp],.agg #[ax,ay,az],.int .i64 (2)] w fun e' w'=>e' = .returned (.string (strOfNums (Tr.enc (Tr.can (cellG ⟨⟨a,b,c⟩,⟨d,e,f⟩⟩ xs) 0 ⟨ax,ay,az⟩))))∧Below w.heap.size w w':=by
 have hmee:=Bx.mk fun W=>ref_meet ax ay az (ax+m) (ay+m) (az+m) a b c d e f W
 have hemp:=Bx.mk fun W=>ref_empty (meetB ⟨⟨ax,ay,az⟩,⟨ax+m,ay+m,az+m⟩⟩ ⟨⟨a,b,c⟩,⟨d,e,f⟩⟩).lo.x (meetB ⟨⟨ax,ay,az⟩,⟨ax+m,ay+m,az+m⟩⟩ ⟨⟨a,b,c⟩,⟨d,e,f⟩⟩).lo.y (meetB ⟨⟨ax,ay,az⟩,⟨ax+m,ay+m,az+m⟩⟩ ⟨⟨a,b,c⟩,⟨d,e,f⟩⟩).lo.z (meetB ⟨⟨ax,ay,az⟩,⟨ax+m,ay+m,az+m⟩⟩ ⟨⟨a,b,c⟩,⟨d,e,f⟩⟩).hi.x (meetB ⟨⟨ax,ay,az⟩,⟨ax+m,ay+m,az+m⟩⟩ ⟨⟨a,b,c⟩,⟨d,e,f⟩⟩).hi.y (meetB ⟨⟨ax,ay,az⟩,⟨ax+m,ay+m,az+m⟩⟩ ⟨⟨a,b,c⟩,⟨d,e,f⟩⟩).hi.z W
 rw [show emptyB (⟨⟨(meetB ⟨⟨ax,ay,az⟩,⟨ax+m,ay+m,az+m⟩⟩ ⟨⟨a,b,c⟩,⟨d,e,f⟩⟩).lo.x,(meetB ⟨⟨ax,ay,az⟩,⟨ax+m,ay+m,az+m⟩⟩ ⟨⟨a,b,c⟩,⟨d,e,f⟩⟩).lo.y,(meetB ⟨⟨ax,ay,az⟩,⟨ax+m,ay+m,az+m⟩⟩ ⟨⟨a,b,c⟩,⟨d,e,f⟩⟩).lo.z⟩,⟨(meetB ⟨⟨ax,ay,az⟩,⟨ax+m,ay+m,az+m⟩⟩ ⟨⟨a,b,c⟩,⟨d,e,f⟩⟩).hi.x,(meetB ⟨⟨ax,ay,az⟩,⟨ax+m,ay+m,az+m⟩⟩ ⟨⟨a,b,c⟩,⟨d,e,f⟩⟩).hi.y,(meetB ⟨⟨ax,ay,az⟩,⟨ax+m,ay+m,az+m⟩⟩ ⟨⟨a,b,c⟩,⟨d,e,f⟩⟩).hi.z⟩⟩:Box)=false from hem] at hemp
 generalize (meetB ⟨⟨ax,ay,az⟩,⟨ax+m,ay+m,az+m⟩⟩ ⟨⟨a,b,c⟩,⟨d,e,f⟩⟩)=M at *
 clear hem
 obtain ⟨⟨m0,m1,m2⟩,⟨m3,m4,m5⟩⟩:=M
 have h4:=cube4 ax ay az
 rw [←hm] at h4
 have hok:okB ⟨⟨ax,ay,az⟩,⟨ax+m,ay+m,az+m⟩⟩=true:=by
  simp only [okB,Bool.and_eq_true,okP_iff];omega
 have hcr:=Bx.mk fun W (h:Sl W .i64 ha xs)=>ref_crop ax ay az (ax+m) (ay+m) (az+m) a b c d e f 64 ha hcp xs hok h4.1 h4.2.2 (by omega) HX W h
 have hcc:=cells_cube ax ay az (cellG ⟨⟨a,b,c⟩,⟨d,e,f⟩⟩ xs)
 rw [←hm] at hcc
 rw [hcc] at hcr
 have hbr:=Bx.mk fun (pa:Option Addr) (pc:Nat) W (h:Sl W .i64 pa (cellsF (cellG ⟨⟨a,b,c⟩,⟨d,e,f⟩⟩ xs) ⟨ax,ay,az⟩))=>ref9_brick pa pc _ W (cellsF_len _ _) (cellsF_all HX.range _) h
 rw [←can_cells] at hbr
 replace hcr:Bx (∀ W,Sl W .i64 ha xs→Calls Tryz.prog 95 #[.agg #[a,b,c,d,e,f,.slice ha xs.length hcp],.agg #[ax,ay,az,.int .i64 (ax+m),.int .i64 (ay+m),.int .i64 (az+m)]] W fun e' w' => ∃ g cap,e' = .returned (.tuple #[.agg #[ax,ay,az,.int .i64 (ax+m),.int .i64 (ay+m),.int .i64 (az+m),.slice (some ⟨g,0,none⟩) 64 cap],(0:Int)])∧Sl w' .i64 (some ⟨g,0,none⟩) (cellsF (cellG ⟨⟨a,b,c⟩,⟨d,e,f⟩⟩ xs) ⟨ax,ay,az⟩)∧Below W.heap.size W w'):=hcr
 have Hsl:=Bx.mk hsl
 clear hsl hok hcc h4 HX hx hy hz hm
 generalize strOfNums (Tr.enc (Tr.can (cellG ⟨⟨a,b,c⟩,⟨d,e,f⟩⟩ xs) 0 ⟨ax,ay,az⟩))=S at *
 generalize cellsF (cellG ⟨⟨a,b,c⟩,⟨d,e,f⟩⟩ xs) ⟨ax,ay,az⟩=zs at *
 go_enter Tryz.func41,Tryz.ntmps41
 go_wp2_with fail
 generalize hW:World.alloc (World.alloc w _) _=W
 have hSz:=sz2 hW
 have hB:=bl2 hW
 have kg:Bk W (w.heap.size) #[a,b,c,d,e,f,.slice ha xs.length hcp] 28:=bk1 hW
 have kp:Bk W (w.heap.size+1) #[ax,ay,az] 23:=bk0 hW
 clear hW
 obtain ⟨cp0,cp1,cp2⟩:=kp.c3
 go_wp2_with fail
 refine (hcub.out _).mono ?_
 rintro _ w1 ⟨rfl,hb1⟩
 replace hB:=hB.trans (hb1.mono hB.size)
 replace kg:=kg.later hb1
 replace kp:=kp.later hb1
 replace hSz:=Nat.le_trans hSz hb1.size
 clear hb1
 clear cp0 cp1 cp2
 have n0 : ∀ o,(w1.alloc o).cell? ⟨w.heap.size,0,none⟩=some (.int .i64 a):=fun o=>Bk.cell (blk_old kg) 0 rfl
 have n1 : ∀ o,(w1.alloc o).cell? ⟨w.heap.size,1,none⟩=some (.int .i64 b):=fun o=>Bk.cell (blk_old kg) 1 rfl
 have n2 : ∀ o,(w1.alloc o).cell? ⟨w.heap.size,2,none⟩=some (.int .i64 c):=fun o=>Bk.cell (blk_old kg) 2 rfl
 have n3 : ∀ o,(w1.alloc o).cell? ⟨w.heap.size,3,none⟩=some (.int .i64 d):=fun o=>Bk.cell (blk_old kg) 3 rfl
 have n4 : ∀ o,(w1.alloc o).cell? ⟨w.heap.size,4,none⟩=some (.int .i64 e):=fun o=>Bk.cell (blk_old kg) 4 rfl
 have n5 : ∀ o,(w1.alloc o).cell? ⟨w.heap.size,5,none⟩=some (.int .i64 f):=fun o=>Bk.cell (blk_old kg) 5 rfl
 go_wp2_with fail
 generalize hW2:World.alloc w1 _=V2
 have hb2:=bl1 hW2
 have kc:Bk V2 w1.heap.size #[ax,ay,az,.int .i64 (ax+m),.int .i64 (ay+m),.int .i64 (az+m)] 25:=bk0 hW2 rfl
 replace hB:=hB.trans (hb2.mono hB.size)
 replace kg:=kg.later hb2
 replace kp:=kp.later hb2
 replace hSz:=Nat.le_trans hSz hb2.size
 clear hb2
 clear hW2 n0 n1 n2 n3 n4 n5
 generalize w1.heap.size=gc at *
 refine (hmee.out _).mono ?_
 rintro _ w3 ⟨rfl,hb3⟩
 replace hB:=hB.trans (hb3.mono hB.size)
 replace kg:=kg.later hb3
 replace kp:=kp.later hb3
 replace kc:=kc.later hb3
 replace hSz:=Nat.le_trans hSz hb3.size
 clear hb3
 go_wp2_with fail
 refine (hemp.out _).mono ?_
 rintro _ w4 ⟨rfl,hb4⟩
 replace hB:=hB.trans (hb4.mono hB.size)
 replace kg:=kg.later hb4
 replace kp:=kp.later hb4
 replace kc:=kc.later hb4
 replace hSz:=Nat.le_trans hSz hb4.size
 clear hb4
 clear hcub hmee hemp
 obtain ⟨cg0,cg1,cg2,cg3,cg4,cg5,cg6⟩:=kg.c7
 obtain ⟨cc0,cc1,cc2,cc3,cc4,cc5⟩:=kc.c6
 go_wp2_with fail
 refine (hcr.out _ (Hsl.out.below hB)).mono ?_
 rintro _ w5 ⟨g,cap,rfl,hz5,hb5⟩
 clear cg0 cg1 cg2 cg3 cg4 cg5 cg6 cc0 cc1 cc2 cc3 cc4 cc5
 replace hB:=hB.trans (hb5.mono hB.size)
 have Hz5:=Bx.mk hz5
 clear hb5 hcr hz5
 go_wp2_with fail
 generalize hW6:World.alloc w5 _=V6
 have hb6:=bl1 hW6
 have Hz6:=Bx.mk (Hz5.out.below hb6)
 replace hB:=hB.trans (hb6.mono hB.size)
 clear hW6 hb6 Hz5
 refine (hbr.out _ _ _ Hz6.out).mono ?_
 rintro _ w7 ⟨rfl,hb7⟩
 replace hB:=hB.trans (hb7.mono hB.size)
 clear hb7 Hz6
 go_wp2_with fail
 go_ret
 exact ⟨rfl,hB⟩
theorem one_news (w:World) (s:ByteArray) : ∀ j u,[Value.string s][j]? = some u→(w.alloc (.cells #[.string s] 9)).cell? ((⟨w.heap.size,0,none⟩:Addr).add j)=some u:=by
 intro j u hu
 match j with
 | 0=>simp at hu;subst hu;simp [Addr.add]
 | j+1=>simp at hu
theorem one_cell1 {s:ByteArray} : ∀ u∈[Value.string s],u.oneCell'=true:=by
 intro u hu
 rw [List.mem_singleton] at hu
 subst hu;rfl
structure TrI (w:World) (gv pv:Array Value) (ha:Option Addr) (xs:List Int) (v:Value) (vs:List Value) (wr:World):Prop where
 kg:Bk wr w.heap.size gv 28
 kp:Bk wr (w.heap.size+1) pv 23
 own:Ownv wr (w.heap.size+1+1) 9 v vs
 bel:Below w.heap.size w wr
 sl:Sl wr .i64 ha xs
theorem TrI.later {w wr w':World} {gv pv:Array Value} {ha:Option Addr} {xs:List Int} {v:Value} {vs:List Value} (H:TrI w gv pv ha xs v vs wr) (h:Below wr.heap.size wr w'):TrI w gv pv ha xs v vs w' :=
 ⟨H.kg.later h,H.kp.later h,H.own.below h,H.bel.trans (h.mono H.bel.size),H.sl.below h⟩
set_option maxRecDepth 100000 in
set_option maxHeartbeats 2000000 in
theorem tree_node (a b c d e f:Int) (ha:Option Addr) (hcp:Nat) (xs:List Int) (n:Nat) (hn:n≤11) (F:Pt→Int) (hF : ∀ p,0≤F p∧F p≤255) (ax ay az m:Int) (hx:0≤ax∧ax≤16384) (hy:0≤ay∧ay≤16384) (hz:0≤az∧az≤16384) (hcub:Bx (∀ W,Calls Tryz.prog 27 #[.agg #[ax,ay,az],.int .i64 ((n:Int)+3)] W fun e w'=>e = .returned (.agg #[ax,ay,az,.int .i64 (ax+m),.int .i64 (ay+m),.int .i64 (az+m)])∧Below W.heap.size W w')) (hem:emptyB (meetB ⟨⟨ax,ay,az⟩,⟨ax+m,ay+m,az+m⟩⟩ ⟨⟨a,b,c⟩,⟨d,e,f⟩⟩)=false)
 (hih:Bx (∀ (k:Nat),k<8 → ∀ W,Sl W .i64 ha xs→Calls Tryz.prog 41 #[.agg #[a,b,c,d,e,f,.slice ha xs.length hcp],.agg #[.int .i64 (ax+chX k (2 ^ (n+2))),.int .i64 (ay+chY k (2 ^ (n+2))),.int .i64 (az+chZ k (2 ^ (n+2)))],.int .i64 ((n:Int)+2)] W fun e' w'=>e' = .returned (.string (strOfNums (Tr.enc (Tr.can F n (Tr.cor ⟨ax,ay,az⟩ n k)))))∧Below W.heap.size W w')) (w:World) (hsl:Sl w .i64 ha xs) :
 Calls Tryz.prog 41 #[.agg #[a,b,c,d,e,f,.slice ha xs.length hcp],.agg #[ax,ay,az],.int .i64 ((n:Int)+3)] w fun e' w'=>e' = .returned (.string (strOfNums (Tr.enc (Tr.can F (n+1) ⟨ax,ay,az⟩))))∧Below w.heap.size w w':=by
 obtain ⟨K,hK⟩ : ∃ K:Fin 8→Tr,K=fun i=>Tr.can F n (Tr.cor ⟨ax,ay,az⟩ n i.val):=⟨_,rfl⟩
 obtain ⟨TK,hTK⟩ : ∃ TK:Nat→ByteArray,TK=fun k=>strOfNums (Tr.enc (Tr.can F n (Tr.cor ⟨ax,ay,az⟩ n k))):=⟨_,rfl⟩
 have hres:Tr.can F (n+1) ⟨ax,ay,az⟩=Tr.mkInner (n+3) K:=by rw [hK];rfl
 have hKw : ∀ i,Tr.WF (K i):=fun i=>by rw [hK];exact wf_can hF n _ (by omega)
 have hKs:(Tr.enc (.node (n+3) K)).length≤1000000000000000:=by
  have hk:=fun i=>(show (Tr.enc (K i)).length≤100000000000000 by rw [hK];exact can_size hF (by omega) _)
  rw [←Tr.pos_all (n+3) K]
  have key : ∀ k,k≤8→Tr.pos K k≤2+k * 100000000000000:=by
   intro k
   induction k with
   | zero=>intro _;rw [Tr.pos_zero];omega
   | succ k ih=>intro hk8;rw [Tr.pos_succ K (by omega)];have h1:=ih (by omega);have h2:=hk ⟨k,by omega⟩;omega
  have:=key 8 (Nat.le_refl _)
  omega
 obtain ⟨i0,hi0,hz0,hz1,hz2⟩:=info_parts (show (Tryz.prog.info? 9).map (fun i=>(i.zero,i.size,i.bytes))=some (some (.string ByteArray.empty),1,16) by kernel_rfl)
 have hinr:=Bx.mk fun (a:Option Addr) (cap:Nat) W (h:Slv W a (strs (kidsE K)))=>ref9_inner (n+3) (by omega) K hKw hKs a cap W h
 rw [←hres,show ((n+3:Nat):Int)=(n:Int)+3 by omega] at hinr
 have hKat:=Bx.mk fun k (hk:k<8)=>(show strs ((kidsE K).take (k+1))=strs ((kidsE K).take k)++[.string (TK k)] by
  rw [kidsE_take K hk,strs_snoc,hTK,hK])
 have hcor:=Bx.mk fun W (k:Nat) (hk:k<8)=>corner9_any (n+2) (by omega) ax ay az k hk (by omega) (by omega) (by omega) W
 rw [show ((n+2:Nat):Int)+1=(n:Int)+3 by omega] at hcor
 have hsub:IntKind.i64.wrap ((n:Int)+3 - 1)=(n:Int)+2:=by rw [show (n:Int)+3 - 1=(n:Int)+2 by omega];exact IntWalk.i64_in _ (by omega)
 have h2:((n:Int)+3 == 2)=false:=by simp;omega
 have hih2:=hih
 clear hih
 have hih:=Bx.mk fun (k:Nat) (hk:k<8) W (h:Sl W .i64 ha xs)=>(show Calls Tryz.prog 41 #[.agg #[a,b,c,d,e,f,.slice ha xs.length hcp],.agg #[.int .i64 (ax+chX k (2 ^ (n+2))),.int .i64 (ay+chY k (2 ^ (n+2))),.int .i64 (az+chZ k (2 ^ (n+2)))],.int .i64 ((n:Int)+2)] W fun e' w'=>e' = .returned (.string (TK k))∧Below W.heap.size W w' from by rw [hTK];exact hih2.out k hk W h)
 clear hih2
 have hmee:=Bx.mk fun W=>ref_meet ax ay az (ax+m) (ay+m) (az+m) a b c d e f W
 have hemp:=Bx.mk fun W=>ref_empty (meetB ⟨⟨ax,ay,az⟩,⟨ax+m,ay+m,az+m⟩⟩ ⟨⟨a,b,c⟩,⟨d,e,f⟩⟩).lo.x (meetB ⟨⟨ax,ay,az⟩,⟨ax+m,ay+m,az+m⟩⟩ ⟨⟨a,b,c⟩,⟨d,e,f⟩⟩).lo.y (meetB ⟨⟨ax,ay,az⟩,⟨ax+m,ay+m,az+m⟩⟩ ⟨⟨a,b,c⟩,⟨d,e,f⟩⟩).lo.z (meetB ⟨⟨ax,ay,az⟩,⟨ax+m,ay+m,az+m⟩⟩ ⟨⟨a,b,c⟩,⟨d,e,f⟩⟩).hi.x (meetB ⟨⟨ax,ay,az⟩,⟨ax+m,ay+m,az+m⟩⟩ ⟨⟨a,b,c⟩,⟨d,e,f⟩⟩).hi.y (meetB ⟨⟨ax,ay,az⟩,⟨ax+m,ay+m,az+m⟩⟩ ⟨⟨a,b,c⟩,⟨d,e,f⟩⟩).hi.z W
 rw [show emptyB (⟨⟨(meetB ⟨⟨ax,ay,az⟩,⟨ax+m,ay+m,az+m⟩⟩ ⟨⟨a,b,c⟩,⟨d,e,f⟩⟩).lo.x,(meetB ⟨⟨ax,ay,az⟩,⟨ax+m,ay+m,az+m⟩⟩ ⟨⟨a,b,c⟩,⟨d,e,f⟩⟩).lo.y,(meetB ⟨⟨ax,ay,az⟩,⟨ax+m,ay+m,az+m⟩⟩ ⟨⟨a,b,c⟩,⟨d,e,f⟩⟩).lo.z⟩,⟨(meetB ⟨⟨ax,ay,az⟩,⟨ax+m,ay+m,az+m⟩⟩ ⟨⟨a,b,c⟩,⟨d,e,f⟩⟩).hi.x,(meetB ⟨⟨ax,ay,az⟩,⟨ax+m,ay+m,az+m⟩⟩ ⟨⟨a,b,c⟩,⟨d,e,f⟩⟩).hi.y,(meetB ⟨⟨ax,ay,az⟩,⟨ax+m,ay+m,az+m⟩⟩ ⟨⟨a,b,c⟩,⟨d,e,f⟩⟩).hi.z⟩⟩:Box)=false from hem] at hemp
 generalize (meetB ⟨⟨ax,ay,az⟩,⟨ax+m,ay+m,az+m⟩⟩ ⟨⟨a,b,c⟩,⟨d,e,f⟩⟩)=M at *
 clear hem
 obtain ⟨⟨m0,m1,m2⟩,⟨m3,m4,m5⟩⟩:=M
 have Hsl:=Bx.mk hsl
 clear hK hTK hres hKw hKs hx hy hz hF hsl
 generalize strOfNums (Tr.enc (Tr.can F (n+1) ⟨ax,ay,az⟩))=S2 at *
 go_enter Tryz.func41,Tryz.ntmps41
 go_wp2_with fail
 generalize hW:World.alloc (World.alloc w _) _=W
 have hSz:=sz2 hW
 have hB:=bl2 hW
 have kg:Bk W (w.heap.size) #[a,b,c,d,e,f,.slice ha xs.length hcp] 28:=bk1 hW
 have kp:Bk W (w.heap.size+1) #[ax,ay,az] 23:=bk0 hW
 clear hW
 obtain ⟨cp0,cp1,cp2⟩:=kp.c3
 go_wp2_with fail
 refine (hcub.out _).mono ?_
 rintro _ w1 ⟨rfl,hb1⟩
 replace hB:=hB.trans (hb1.mono hB.size)
 replace kg:=kg.later hb1
 replace kp:=kp.later hb1
 replace hSz:=Nat.le_trans hSz hb1.size
 clear hb1
 clear cp0 cp1 cp2
 have n0 : ∀ o,(w1.alloc o).cell? ⟨w.heap.size,0,none⟩=some (.int .i64 a):=fun o=>Bk.cell (blk_old kg) 0 rfl
 have n1 : ∀ o,(w1.alloc o).cell? ⟨w.heap.size,1,none⟩=some (.int .i64 b):=fun o=>Bk.cell (blk_old kg) 1 rfl
 have n2 : ∀ o,(w1.alloc o).cell? ⟨w.heap.size,2,none⟩=some (.int .i64 c):=fun o=>Bk.cell (blk_old kg) 2 rfl
 have n3 : ∀ o,(w1.alloc o).cell? ⟨w.heap.size,3,none⟩=some (.int .i64 d):=fun o=>Bk.cell (blk_old kg) 3 rfl
 have n4 : ∀ o,(w1.alloc o).cell? ⟨w.heap.size,4,none⟩=some (.int .i64 e):=fun o=>Bk.cell (blk_old kg) 4 rfl
 have n5 : ∀ o,(w1.alloc o).cell? ⟨w.heap.size,5,none⟩=some (.int .i64 f):=fun o=>Bk.cell (blk_old kg) 5 rfl
 go_wp2_with fail
 generalize hW2:World.alloc w1 _=V2
 have hb2:=bl1 hW2
 have kc:Bk V2 w1.heap.size #[ax,ay,az,.int .i64 (ax+m),.int .i64 (ay+m),.int .i64 (az+m)] 25:=bk0 hW2 rfl
 replace hB:=hB.trans (hb2.mono hB.size)
 replace kg:=kg.later hb2
 replace kp:=kp.later hb2
 replace hSz:=Nat.le_trans hSz hb2.size
 clear hb2
 clear hW2 n0 n1 n2 n3 n4 n5
 generalize w1.heap.size=gc at *
 refine (hmee.out _).mono ?_
 rintro _ w3 ⟨rfl,hb3⟩
 replace hB:=hB.trans (hb3.mono hB.size)
 replace kg:=kg.later hb3
 replace kp:=kp.later hb3
 replace kc:=kc.later hb3
 replace hSz:=Nat.le_trans hSz hb3.size
 clear hb3
 go_wp2_with fail
 refine (hemp.out _).mono ?_
 rintro _ w4 ⟨rfl,hb4⟩
 replace hB:=hB.trans (hb4.mono hB.size)
 replace kg:=kg.later hb4
 replace kp:=kp.later hb4
 replace kc:=kc.later hb4
 replace hSz:=Nat.le_trans hSz hb4.size
 clear hb4
 clear hcub hmee hemp
 have HI:Bx (TrI w #[a,b,c,d,e,f,.slice ha xs.length hcp] #[ax,ay,az] ha xs (.slice none 0 0) (strs ((kidsE K).take 0)) w4):=⟨⟨kg,kp,Ownv.nil _ _ _,hB,Hsl.out.below hB⟩⟩
 clear kg kp kc hB hSz
 go_wp2_with fail
 go_loopw [11,12] (fun v11 v12 wr => ∃ k:Nat,k≤8∧v12 = .int .i64 k∧Bx (TrI w #[a,b,c,d,e,f,.slice ha xs.length hcp] #[ax,ay,az] ha xs v11 (strs ((kidsE K).take k)) wr)) (fun _ i _=>8 - (intOf i).toNat)
 case atStart=>exact ⟨0,Nat.zero_le _,rfl,HI⟩
 case round =>
  clear HI
  obtain ⟨k,hk,rfl,HI⟩:=hrel
  by_cases hlt:k<8
  · have t0:decide ((k:Int)<8)=true:=by simp;omega
    have b1:(0:Int)≤(k:Int):=by omega
    have b2:(k:Int)<8:=by omega
    have hnext:=Bx.mk (hKat.out k hlt)
    have Htl:=Bx.mk (show (strs ((kidsE K).take k)).length≤1000000000 by rw [strs_length,List.length_take];omega)
    obtain ⟨cg0,cg1,cg2,cg3,cg4,cg5,cg6⟩:=HI.out.kg.c7
    obtain ⟨cp0,cp1,cp2⟩:=HI.out.kp.c3
    have hle3:w.heap.size+1+1≤wr.heap.size:=HI.out.kp.lt
    go_wp2_with fail
    go_region_held3 (fun w'=>w'.cell? ⟨w.heap.size,0,none⟩=some (.int .i64 a)∧w'.cell? ⟨w.heap.size,1,none⟩=some (.int .i64 b)∧w'.cell? ⟨w.heap.size,2,none⟩=some (.int .i64 c)∧w'.cell? ⟨w.heap.size,3,none⟩=some (.int .i64 d)∧w'.cell? ⟨w.heap.size,4,none⟩=some (.int .i64 e)∧w'.cell? ⟨w.heap.size,5,none⟩=some (.int .i64 f)∧w'.cell? ⟨w.heap.size,6,none⟩=some (.slice ha xs.length hcp)∧w'.cell? ⟨w.heap.size+1,0,none⟩=some (.int .i64 ax)∧w'.cell? ⟨w.heap.size+1,1,none⟩=some (.int .i64 ay)∧w'.cell? ⟨w.heap.size+1,2,none⟩=some (.int .i64 az))
     (first | go_keep | (dsimp only;and_intros <;> assumption))
     (first
      | (go_at_call 41;refine (hih.out k hlt _ HI5.sl).mono ?_;rintro e6 w6 ⟨rfl,hb6⟩;have HI6:=HI5.later hb6;have d0:=HI6.kg.cell 0 rfl;have d1:=HI6.kg.cell 1 rfl;have d2:=HI6.kg.cell 2 rfl;have d3:=HI6.kg.cell 3 rfl;have d4:=HI6.kg.cell 4 rfl;have d5:=HI6.kg.cell 5 rfl;have d6:=HI6.kg.cell 6 rfl;have e0':=HI6.kp.cell 0 rfl;have e1':=HI6.kp.cell 1 rfl;have e2':=HI6.kp.cell 2 rfl)
      | (go_at_call 97;refine (hcor.out _ k hlt).mono ?_;rintro e5 w5 ⟨rfl,hb5⟩;have hB5:=(Below.refl wr.heap.size wr).drew.trans hb5;have HI5:=HI.out.later hB5;have d0':=HI5.kg.cell 0 rfl;have d1':=HI5.kg.cell 1 rfl;have d2':=HI5.kg.cell 2 rfl;have d3':=HI5.kg.cell 3 rfl;have d4':=HI5.kg.cell 4 rfl;have d5':=HI5.kg.cell 5 rfl;have d6':=HI5.kg.cell 6 rfl;have e0'':=HI5.kp.cell 0 rfl;have e1'':=HI5.kp.cell 1 rfl;have e2'':=HI5.kp.cell 2 rfl)
      | (refine step_append_lies _ (by rfl) (.tmp 38) (.tmp 47) 37 (by rfl) (w.heap.size+1+1) 9 i0 (.string ByteArray.empty) 1 16 Tryz.underlying37 hi0 hz0 hz1 hz2 rfl (by omega) _ _ _ (by simp [Act.eval,Act.put]) (HI6.own.alloc _) ⟨w6.heap.size,0,none⟩ 1 1 [.string (TK k)] (by simp [Act.eval,Act.put]) rfl (one_news w6 _) one_cell1 (by omega) (by have:=Htl.out;simp only [maxLen];omega) (by have:=Htl.out;omega) (by have:=HI6.kp.lt;simp;omega) (w6.heap.size+1) (by simp) ?_;intro g9 c9 w9 hown9 hg9 hat9 hlt9;have HI7:=HI6.later (below_lit w6 (.cells #[.string (TK k)] 9));have kg9:=Bk.grownO HI7.kg hg9 (fun e=>by have:=(HI7.own.lt _ e).1;omega);have kp9:=Bk.grownO HI7.kp hg9 (fun e=>by have:=(HI7.own.lt _ e).1;omega);have f0:=kg9.cell 0 rfl;have f1:=kg9.cell 1 rfl;have f2:=kg9.cell 2 rfl;have f3:=kg9.cell 3 rfl;have f4:=kg9.cell 4 rfl;have f5:=kg9.cell 5 rfl;have f6:=kg9.cell 6 rfl;have f0':=kp9.cell 0 rfl;have f1':=kp9.cell 1 rfl;have f2':=kp9.cell 2 rfl))
    have hO:Ownv w9 (w.heap.size+1+1) 9 (.slice (some ⟨g9,0,none⟩) ((strs (List.take k (kidsE K))).length+1) c9) (strs ((kidsE K).take (k+1))):=by
     unfold Ownv
     rw [hnext.out,List.length_append,List.length_singleton];exact hown9
    have hb9:=(HI7.bel).grown hg9 HI7.bel.size (fun g hg=>by have:=(HI7.own.lt g hg).1;omega)
    have HI3:=Bx.mk (show TrI w #[a,b,c,d,e,f,.slice ha xs.length hcp] #[ax,ay,az] ha xs _ (strs ((kidsE K).take (k+1))) w9 from ⟨kg9,kp9,hO,hb9,Hsl.out.below hb9⟩)
    clear hown9 hg9 hb9 hO kg9 kp9 hat9 hlt9 f0 f1 f2 f3 f4 f5 f6 f0' f1' f2' d0 d0' d1 d1' d2 d2' d3 d3' d4 d4' d5 d5' d6 d6' e0' e0'' e1' e1'' e2' e2'' HI7 HI6 HI5 cg0 cg1 cg2 cg3 cg4 cg5 cg6 cp0 cp1 cp2
    go_wp2_with fail
    go_roundw
    case rel=>exact ⟨k+1,by omega,by go_num,HI3⟩
    case measure=>simp [intOf];omega
  · obtain rfl:k=8:=by omega
    have t0:decide (((8:Nat):Int)<8)=false:=by decide
    have hown2:=HI.out.own
    rw [List.take_of_length_le (by rw [kidsE_len];exact Nat.le_refl _)] at hown2
    obtain ⟨pa,pc,rfl,hsl⟩:=hown2.form
    have hl8:(strs (kidsE K)).length=8:=by rw [strs_length,kidsE_len]
    rw [hl8]
    have Hsl:=Bx.mk hsl
    clear hsl hown2 hl8
    go_wp2_with fail
    refine (hinr.out pa pc _ Hsl.out).mono ?_
    rintro _ w9 ⟨rfl,hb9⟩
    have HB9:=Bx.mk (HI.out.bel.trans (hb9.mono HI.out.bel.size))
    clear hb9
    go_wp2_with fail
    go_ret
    exact ⟨rfl,HB9.out⟩
end Go.Proofs.YtgnfgblkpnfcnaaGreatDoor
end
