/- Rm3, Rm4, Gp9: joined by program, for one claim. -/
import Derived.Test.YtfcbajmjaifjlaaGreatM43
import Derived.Test.YtfcbajmjaifjlaaGreatM41
import Derived.Test.YtfcbajmjaifjlaaGreatM30
import Derived.Test.YtfcbajmjaifjlaaGreatM40
import Derived.Test.YtfcbajmjaifjlaaGreatM3
import Derived.Test.YtfcbajmjaifjlaaGreatM19
import Derived.Test.YtfcbajmjaifjlaaGreatM17
set_option linter.unusedVariables false
set_option linter.unusedSimpArgs false
namespace Go.Proofs.YtfcbajmjaifjlaaGreat
section
open Go.RowKit Go.Sort Go.Maps
open Oct
structure MnI (w:World) (pv xv:Array Value) (v:Value) (vs:List Value) (wr:World):Prop where
 kp:Bk wr w.heap.size pv 23
 kx:Bk wr (w.heap.size+1) xv 164
 own:Ownv wr (w.heap.size+1+1) 9 v vs
 bel:Below w.heap.size w wr
theorem MnI.later {w wr w':World} {pv xv:Array Value} {v:Value} {vs:List Value} (H:MnI w pv xv v vs wr) (h:Below wr.heap.size wr w'):MnI w pv xv v vs w' :=
 ⟨H.kp.later h,H.kx.later h,H.own.below h,H.bel.trans (h.mono H.bel.size)⟩
set_option maxRecDepth 100000 in
set_option maxHeartbeats 8000000 in
theorem made_node (κ a b c d e f cell q1 q2 q3 q4 q5 q6:Int) (ha:Option Addr) (hcp:Nat) (ys:List Int) (S S0 R:ByteArray) (ax ay az m:Int) (hSm:Small ⟨⟨ax,ay,az⟩,⟨ax+m,ay+m,az+m⟩⟩ 1048575) (hne:emptyB ⟨⟨ax,ay,az⟩,⟨ax+m,ay+m,az+m⟩⟩=false)
 (hA:emptyB (meetB ⟨⟨ax,ay,az⟩,⟨ax+m,ay+m,az+m⟩⟩ ⟨⟨a,b,c⟩,⟨d,e,f⟩⟩)=true→R=S0)
 (hP:emptyB (meetB ⟨⟨ax,ay,az⟩,⟨ax+m,ay+m,az+m⟩⟩ ⟨⟨a,b,c⟩,⟨d,e,f⟩⟩)=false→(⟨⟨ax,ay,az⟩,⟨ax+m,ay+m,az+m⟩⟩:Box)=⟨⟨a,b,c⟩,⟨d,e,f⟩⟩→κ=3→R=S)
 (hU:emptyB (meetB ⟨⟨ax,ay,az⟩,⟨ax+m,ay+m,az+m⟩⟩ ⟨⟨a,b,c⟩,⟨d,e,f⟩⟩)=false → ¬((⟨⟨ax,ay,az⟩,⟨ax+m,ay+m,az+m⟩⟩:Box)=⟨⟨a,b,c⟩,⟨d,e,f⟩⟩∧κ=3)→containsB ⟨⟨a,b,c⟩,⟨d,e,f⟩⟩ ⟨⟨ax,ay,az⟩,⟨ax+m,ay+m,az+m⟩⟩=true→κ=1→(0≤cell∧cell≤255)∧R=strOfNums (Tr.enc (.uni cell)))
 (n:Nat) (hn:n≤11) (hx:0≤ax∧ax≤16384) (hy:0≤ay∧ay≤16384) (hz:0≤az∧az≤16384) 
 (hcub:Bx (∀ W,Calls Tryz.prog 35 #[.agg #[ax,ay,az],.int .i64 ((n:Int)+3)] W fun e w'=>e = .returned (.agg #[ax,ay,az,.int .i64 (ax+m),.int .i64 (ay+m),.int .i64 (az+m)])∧Below W.heap.size W w'))
 (K:Fin 8→Tr) (hKw : ∀ i,Tr.WF (K i)) (hKs:(Tr.enc (.node (n+3) K)).length≤1000000000000000) (SC:Nat→ByteArray)
 (hch:Bx (∀ (k:Nat),k<8 → ∀ W,Calls Tryz.prog 129 #[.string S0,(k:Int)] W fun e w'=>e = .returned (.string (SC k))∧Below W.heap.size W w'))
 (hZ:emptyB (meetB ⟨⟨ax,ay,az⟩,⟨ax+m,ay+m,az+m⟩⟩ ⟨⟨a,b,c⟩,⟨d,e,f⟩⟩)=false → ¬((⟨⟨ax,ay,az⟩,⟨ax+m,ay+m,az+m⟩⟩:Box)=⟨⟨a,b,c⟩,⟨d,e,f⟩⟩∧κ=3) → ¬(containsB ⟨⟨a,b,c⟩,⟨d,e,f⟩⟩ ⟨⟨ax,ay,az⟩,⟨ax+m,ay+m,az+m⟩⟩=true∧κ=1)→R=strOfNums (Tr.enc (Tr.mkInner (n+3) K)) ∧ ∀ (k:Nat) (hk:k<8),∀ W,Sl W .i64 ha ys→Calls Tryz.prog 124 #[.string (SC k),.agg #[.int .i64 (ax+chX k (2 ^ (n+2))),.int .i64 (ay+chY k (2 ^ (n+2))),.int .i64 (az+chZ k (2 ^ (n+2)))],.int .i64 ((n:Int)+2),.agg #[.int .i64 κ,a,b,c,d,e,f,cell,q1,q2,q3,q4,q5,q6,.slice ha ys.length hcp,.string S]] W fun e' w'=>e' = .returned (.string (strOfNums (Tr.enc (K ⟨k,hk⟩))))∧Below W.heap.size W w') (w:World) (hsl:Sl w .i64 ha ys) :
 Calls Tryz.prog 124 #[.string S0,.agg #[ax,ay,az],.int .i64 ((n:Int)+3),.agg #[.int .i64 κ,a,b,c,d,e,f,cell,q1,q2,q3,q4,q5,q6,.slice ha ys.length hcp,.string S]] w fun e' w'=>e' = .returned (.string R)∧Below w.heap.size w w':=by
 have hmee:=Bx.mk fun W=>ref_meet ax ay az (ax+m) (ay+m) (az+m) a b c d e f W
 generalize meetB ⟨⟨ax,ay,az⟩,⟨ax+m,ay+m,az+m⟩⟩ ⟨⟨a,b,c⟩,⟨d,e,f⟩⟩=M at *
 have hemp:=Bx.mk fun W=>ref_empty M.lo.x M.lo.y M.lo.z M.hi.x M.hi.y M.hi.z W
 rw [show (⟨⟨M.lo.x,M.lo.y,M.lo.z⟩,⟨M.hi.x,M.hi.y,M.hi.z⟩⟩:Box)=M from rfl] at hemp
 generalize emptyB M=em at *
 have hcon:=Bx.mk fun W=>ref_contains a b c d e f ax ay az (ax+m) (ay+m) (az+m) hSm W
 have hcv:containsB ⟨⟨a,b,c⟩,⟨d,e,f⟩⟩ ⟨⟨ax,ay,az⟩,⟨ax+m,ay+m,az+m⟩⟩=(volB (meetB ⟨⟨a,b,c⟩,⟨d,e,f⟩⟩ ⟨⟨ax,ay,az⟩,⟨ax+m,ay+m,az+m⟩⟩) == volB ⟨⟨ax,ay,az⟩,⟨ax+m,ay+m,az+m⟩⟩):=by rw [vol_meet hne];unfold containsB;rw [hne,Bool.false_or]
 rw [←hcv] at hcon
 clear hcv hne
 generalize containsB ⟨⟨a,b,c⟩,⟨d,e,f⟩⟩ ⟨⟨ax,ay,az⟩,⟨ax+m,ay+m,az+m⟩⟩=ins at *
 have heqb:=Bx.mk fun W:World=>eql_box ax ay az (ax+m) (ay+m) (az+m) a b c d e f W
 have hA:=Bx.mk hA
 have hP:=Bx.mk hP
 have hU:=Bx.mk hU
 have hZ:=Bx.mk hZ
 have HSL:=Bx.mk hsl
 obtain ⟨TK,hTK⟩ : ∃ TK:Nat→ByteArray,TK=fun k=>if h:k<8 then strOfNums (Tr.enc (K ⟨k,h⟩)) else ByteArray.empty:=⟨_,rfl⟩
 have HTK:=Bx.mk (fun k:Nat=>congrFun hTK k)
 obtain ⟨i0,hi0,hz0,hz1,hz2⟩:=info_parts (show (Tryz.prog.info? 9).map (fun i=>(i.zero,i.size,i.bytes))=some (some (.string ByteArray.empty),1,16) by kernel_rfl)
 have hinr:=Bx.mk fun (a:Option Addr) (cap:Nat) W (h:Slv W a (strs (kidsE K)))=>ref9_inner (n+3) (by omega) K hKw hKs a cap W h
 rw [show ((n+3:Nat):Int)=(n:Int)+3 by omega] at hinr
 have hKat:=Bx.mk fun k (hk:k<8)=>(show strs ((kidsE K).take (k+1))=strs ((kidsE K).take k)++[.string (TK k)] by
  rw [kidsE_take K hk,strs_snoc,hTK];simp only [];rw [dif_pos hk])
 have hcor:=Bx.mk fun W (k:Nat) (hk:k<8)=>corner10_any (n+2) (by omega) ax ay az k hk (by omega) (by omega) (by omega) W
 rw [show ((n+2:Nat):Int)+1=(n:Int)+3 by omega] at hcor
 have hsub:IntKind.i64.wrap ((n:Int)+3 - 1)=(n:Int)+2:=by rw [show (n:Int)+3 - 1=(n:Int)+2 by omega];exact IntWalk.i64_in _ (by omega)
 clear hSm hsl hTK hKw hKs hx hy hz
 go_enter Tryz.func124,Tryz.ntmps124
 go_upto_region 1 with fail
 generalize hW:World.alloc (World.alloc w _) _=W
 have hSz:W.heap.size=w.heap.size+1+1:=by rw [←hW];simp
 have hB:=bl2 hW
 have kp:Bk W w.heap.size #[ax,ay,az] 23:=bk1 hW
 have kx:Bk W (w.heap.size+1) #[.int .i64 κ,a,b,c,d,e,f,cell,q1,q2,q3,q4,q5,q6,.slice ha ys.length hcp,.string S] 164:=bk0 hW
 clear hW
 obtain ⟨cp0,cp1,cp2⟩:=kp.c3
 go_wp2_with fail
 refine (hcub.out _).mono ?_
 rintro _ w2 ⟨rfl,hb⟩
 have hB2:=hB.trans (hb.mono hB.size)
 have hs2:=hb.size
 replace kp:=kp.later hb
 replace kx:=kx.later hb
 clear cp0 cp1 cp2 hb hB
 go_upto_region 2 with fail
 generalize hW:World.alloc w2 _=W
 have hb:=bl1 hW
 have kc:Bk W w2.heap.size #[ax,ay,az,.int .i64 (ax+m),.int .i64 (ay+m),.int .i64 (az+m)] 25:=bk0 hW
 clear hW
 replace kp:=kp.later hb
 replace kx:=kx.later hb
 have hB3:=hB2.trans (hb.mono hB2.size)
 have hcb:w.heap.size+1+1≤w2.heap.size:=by omega
 clear hb hB2 hs2 hSz
 generalize w2.heap.size=cb at *
 obtain ⟨c0,c1,c2,c3,c4,c5⟩:=kc.c6
 have x1:=kx.cell 1 rfl
 have x2:=kx.cell 2 rfl
 have x3:=kx.cell 3 rfl
 have x4:=kx.cell 4 rfl
 have x5:=kx.cell 5 rfl
 have x6:=kx.cell 6 rfl
 go_wp2_with fail
 refine (hmee.out _).mono ?_
 rintro _ w4 ⟨rfl,hb⟩
 replace kp:=kp.later hb
 replace kx:=kx.later hb
 replace kc:=kc.later hb
 have hB4:=hB3.trans (hb.mono hB3.size)
 clear hb hB3 c0 c1 c2 c3 c4 c5 x1 x2 x3 x4 x5 x6
 go_wp2_with fail
 refine (hemp.out _).mono ?_
 rintro _ w5 ⟨rfl,hb⟩
 have KP:=Bx.mk (kp.later hb)
 have KX:=Bx.mk (kx.later hb)
 have KC:=Bx.mk (kc.later hb)
 have HB:=Bx.mk (hB4.trans (hb.mono hB4.size))
 clear hb hB4 kp kx kc hemp hmee hcub
 cases em with
 | true =>
   go_wp2_with fail
   go_ret
   exact ⟨by rw [hA.out (by first | rfl | trivial)];rfl,HB.out⟩
 | false =>
 go_upto_region 5 with fail
 by_cases hq:(⟨⟨ax,ay,az⟩,⟨ax+m,ay+m,az+m⟩⟩:Box)=⟨⟨a,b,c⟩,⟨d,e,f⟩⟩∧κ=3
 · have hR:Bx (R=S):=⟨hP.out (by first | rfl | trivial) hq.1 hq.2⟩
   have heq : ∀ W:World,(binOp .eql 25 (.agg #[ax,ay,az,.int .i64 (ax+m),.int .i64 (ay+m),.int .i64 (az+m)]) (.agg #[a,b,c,d,e,f])).run Tryz.prog W = .ok (.bool true) W:=fun W=>by rw [heqb.out,decide_eq_true hq.1]
   have t1:(κ == 3)=true:=by simp [hq.2]
   clear hq heqb
   obtain ⟨c0,c1,c2,c3,c4,c5⟩:=KC.out.c6
   obtain ⟨x0,x1,x2,x3,x4,x5,x6,x7,x8,x9,x10,x11⟩:=KX.out.c12
   have x12:=KX.out.cell 12 rfl
   have x13:=KX.out.cell 13 rfl
   have x14:=KX.out.cell 14 rfl
   have x15:=KX.out.cell 15 rfl
   go_wp2_with fail
   go_ret
   exact ⟨by rw [hR.out];rfl,HB.out⟩
 go_cut [37] from 29 to 37 (fun v wx=>v = .bool false∧wx=w5)
 case first =>
  obtain ⟨c0,c1,c2,c3,c4,c5⟩:=KC.out.c6
  obtain ⟨x0,x1,x2,x3,x4,x5,x6⟩:=KX.out.c7
  by_cases he:(⟨⟨ax,ay,az⟩,⟨ax+m,ay+m,az+m⟩⟩:Box)=⟨⟨a,b,c⟩,⟨d,e,f⟩⟩
  · have heq : ∀ W:World,(binOp .eql 25 (.agg #[ax,ay,az,.int .i64 (ax+m),.int .i64 (ay+m),.int .i64 (az+m)]) (.agg #[a,b,c,d,e,f])).run Tryz.prog W = .ok (.bool true) W:=fun W=>by rw [heqb.out,decide_eq_true he]
    have t1:(κ == 3)=false:=by simp;exact fun h=>hq ⟨he,h⟩
    clear hq heqb he
    go_wp2_with fail
    go_meet
    exact ⟨rfl,rfl⟩
  · have heq : ∀ W:World,(binOp .eql 25 (.agg #[ax,ay,az,.int .i64 (ax+m),.int .i64 (ay+m),.int .i64 (az+m)]) (.agg #[a,b,c,d,e,f])).run Tryz.prog W = .ok (.bool false) W:=fun W=>by rw [heqb.out,decide_eq_false he]
    clear hq heqb he
    go_wp2_with fail
    go_meet
    exact ⟨rfl,rfl⟩
 case rest =>
 obtain ⟨rfl,hw⟩:=hcut
 replace hw:=hw.symm
 subst hw
 have Hq:=Bx.mk hq
 clear hq heqb hP hA
 go_upto_region 7 with fail
 obtain ⟨c0,c1,c2,c3,c4,c5⟩:=KC.out.c6
 have x1:=KX.out.cell 1 rfl
 have x2:=KX.out.cell 2 rfl
 have x3:=KX.out.cell 3 rfl
 have x4:=KX.out.cell 4 rfl
 have x5:=KX.out.cell 5 rfl
 have x6:=KX.out.cell 6 rfl
 go_wp2_with fail
 refine (hcon.out _).mono ?_
 rintro _ w6 ⟨rfl,hb⟩
 replace KP:=Bx.mk (KP.out.later hb)
 replace KX:=Bx.mk (KX.out.later hb)
 replace KC:=Bx.mk (KC.out.later hb)
 replace HB:=Bx.mk (HB.out.trans (hb.mono HB.out.size))
 have hle6:=hb.size
 clear hb c0 c1 c2 c3 c4 c5 x1 x2 x3 x4 x5 x6 hcon
 go_upto_region 8 with fail
 by_cases hu:ins=true∧κ=1
 · obtain ⟨hcl,hR⟩:=hU.out (by first | rfl | trivial) Hq.out hu.1 hu.2
   have HR:=Bx.mk hR
   have huni:=Bx.mk fun W=>ref9_uniform cell hcl W
   obtain ⟨rfl,hk⟩:=hu
   have t1:(κ == 1)=true:=by simp [hk]
   have x0:=KX.out.cell 0 rfl
   have x7:=KX.out.cell 7 rfl
   clear hk hR hcl hU
   go_wp2_with fail
   refine (huni.out _).mono ?_
   rintro _ w7 ⟨rfl,hb⟩
   have HB7:=Bx.mk (HB.out.trans (hb.mono HB.out.size))
   clear hb
   go_wp2_with fail
   go_ret
   exact ⟨by rw [HR.out];rfl,HB7.out⟩
 go_cut [49] from 44 to 49 (fun v wx=>v = .bool false∧wx=w6)
 case first =>
  have x0:=KX.out.cell 0 rfl
  cases ins with
  | true =>
    have t1:(κ == 1)=false:=by simp;exact fun h=>hu ⟨rfl,h⟩
    clear hu
    go_wp2_with fail
    go_meet
    exact ⟨rfl,rfl⟩
  | false =>
    clear hu
    go_wp2_with fail
    go_meet
    exact ⟨rfl,rfl⟩
 case rest =>
 obtain ⟨rfl,hw⟩:=hcut
 replace hw:=hw.symm
 subst hw
 have Hu:=Bx.mk hu
 clear hu hU
 go_upto_region 10 with fail
 have t10:((n:Int)+3 == 2)=false:=by simp;omega
 obtain ⟨hR,hih⟩:=hZ.out (by first | rfl | trivial) Hq.out Hu.out
 have HR:=Bx.mk hR
 have hih:=Bx.mk hih
 clear hR hZ Hq Hu
 have HI:Bx (MnI w #[ax,ay,az] #[.int .i64 κ,a,b,c,d,e,f,cell,q1,q2,q3,q4,q5,q6,.slice ha ys.length hcp,.string S] (.slice none 0 0) (strs ((kidsE K).take 0)) w6):=⟨⟨KP.out,KX.out,Ownv.nil _ _ _,HB.out⟩⟩
 clear KP KX KC HB hle6
 go_wp2_with fail
 clear t10
 go_loopw [17,18] (fun v17 v18 wr => ∃ k:Nat,k≤8∧v18 = .int .i64 k∧Bx (MnI w #[ax,ay,az] #[.int .i64 κ,a,b,c,d,e,f,cell,q1,q2,q3,q4,q5,q6,.slice ha ys.length hcp,.string S] v17 (strs ((kidsE K).take k)) wr)) (fun _ i _=>8 - (intOf i).toNat)
 case atStart=>exact ⟨0,Nat.zero_le _,rfl,HI⟩
 case round =>
  clear HI
  obtain ⟨k,hk,rfl,HI⟩:=hrel
  by_cases hlt:k<8
  · have t0:decide ((k:Int)<8)=true:=by simp;omega
    have b1:(0:Int)≤(k:Int):=by omega
    have b2:(k:Int)<8:=by omega
    have hnext:=Bx.mk (hKat.out k hlt)
    have Htl:=Bx.mk (show (strs ((kidsE K).take k)).length≤1000000000 by rw [strs_length,List.length_take];omega)
    have hchk:=Bx.mk (hch.out k hlt)
    have hihk:=Bx.mk (hih.out k hlt)
    rw [show strOfNums (Tr.enc (K ⟨k,hlt⟩))=TK k by rw [HTK.out,dif_pos hlt]] at hihk
    obtain ⟨cp0,cp1,cp2⟩:=HI.out.kp.c3
    obtain ⟨cx0,cx1,cx2,cx3,cx4,cx5,cx6,cx7,cx8,cx9,cx10,cx11⟩:=HI.out.kx.c12
    have cx12:=HI.out.kx.cell 12 rfl
    have cx13:=HI.out.kx.cell 13 rfl
    have cx14:=HI.out.kx.cell 14 rfl
    have cx15:=HI.out.kx.cell 15 rfl
    have hle3:w.heap.size+1+1≤wr.heap.size:=HI.out.kx.lt
    go_wp2_with fail
    go_region_held3 (fun w'=>w'.cell? ⟨w.heap.size,0,none⟩=some (.int .i64 ax)∧w'.cell? ⟨w.heap.size,1,none⟩=some (.int .i64 ay)∧w'.cell? ⟨w.heap.size,2,none⟩=some (.int .i64 az)∧w'.cell? ⟨w.heap.size+1,0,none⟩=some (.int .i64 κ)∧w'.cell? ⟨w.heap.size+1,1,none⟩=some (.int .i64 a)∧w'.cell? ⟨w.heap.size+1,2,none⟩=some (.int .i64 b)∧w'.cell? ⟨w.heap.size+1,3,none⟩=some (.int .i64 c)∧w'.cell? ⟨w.heap.size+1,4,none⟩=some (.int .i64 d)∧w'.cell? ⟨w.heap.size+1,5,none⟩=some (.int .i64 e)∧w'.cell? ⟨w.heap.size+1,6,none⟩=some (.int .i64 f)∧w'.cell? ⟨w.heap.size+1,7,none⟩=some (.int .i64 cell)∧w'.cell? ⟨w.heap.size+1,8,none⟩=some (.int .i64 q1)∧w'.cell? ⟨w.heap.size+1,9,none⟩=some (.int .i64 q2)∧w'.cell? ⟨w.heap.size+1,10,none⟩=some (.int .i64 q3)∧w'.cell? ⟨w.heap.size+1,11,none⟩=some (.int .i64 q4)∧w'.cell? ⟨w.heap.size+1,12,none⟩=some (.int .i64 q5)∧w'.cell? ⟨w.heap.size+1,13,none⟩=some (.int .i64 q6)∧w'.cell? ⟨w.heap.size+1,14,none⟩=some (.slice ha ys.length hcp)∧w'.cell? ⟨w.heap.size+1,15,none⟩=some (.string S))
     (first | go_keep | (dsimp only;and_intros <;> assumption))
     (first
      | (go_at_call 124;refine (hihk.out _ (HSL.out.below HI5.bel)).mono ?_;rintro e6 w6 ⟨rfl,hb6⟩;have HI6:=HI5.later hb6;have dp0:=HI6.kp.cell 0 rfl;have dp1:=HI6.kp.cell 1 rfl;have dp2:=HI6.kp.cell 2 rfl;have dx0:=HI6.kx.cell 0 rfl;have dx1:=HI6.kx.cell 1 rfl;have dx2:=HI6.kx.cell 2 rfl;have dx3:=HI6.kx.cell 3 rfl;have dx4:=HI6.kx.cell 4 rfl;have dx5:=HI6.kx.cell 5 rfl;have dx6:=HI6.kx.cell 6 rfl;have dx7:=HI6.kx.cell 7 rfl;have dx8:=HI6.kx.cell 8 rfl;have dx9:=HI6.kx.cell 9 rfl;have dx10:=HI6.kx.cell 10 rfl;have dx11:=HI6.kx.cell 11 rfl;have dx12:=HI6.kx.cell 12 rfl;have dx13:=HI6.kx.cell 13 rfl;have dx14:=HI6.kx.cell 14 rfl;have dx15:=HI6.kx.cell 15 rfl)
      | (go_at_call 130;refine (hcor.out _ k hlt).mono ?_;rintro e5 w5 ⟨rfl,hb5⟩;have HI5:=HI4.later hb5;have ep0:=HI5.kp.cell 0 rfl;have ep1:=HI5.kp.cell 1 rfl;have ep2:=HI5.kp.cell 2 rfl;have ex0:=HI5.kx.cell 0 rfl;have ex1:=HI5.kx.cell 1 rfl;have ex2:=HI5.kx.cell 2 rfl;have ex3:=HI5.kx.cell 3 rfl;have ex4:=HI5.kx.cell 4 rfl;have ex5:=HI5.kx.cell 5 rfl;have ex6:=HI5.kx.cell 6 rfl;have ex7:=HI5.kx.cell 7 rfl;have ex8:=HI5.kx.cell 8 rfl;have ex9:=HI5.kx.cell 9 rfl;have ex10:=HI5.kx.cell 10 rfl;have ex11:=HI5.kx.cell 11 rfl;have ex12:=HI5.kx.cell 12 rfl;have ex13:=HI5.kx.cell 13 rfl;have ex14:=HI5.kx.cell 14 rfl;have ex15:=HI5.kx.cell 15 rfl)
      | (go_at_call 129;refine (hchk.out _).mono ?_;rintro e4 w4 ⟨rfl,hb4⟩;have hB4:=(Below.refl wr.heap.size wr).drew.trans hb4;have HI4:=HI.out.later hB4;have fp0:=HI4.kp.cell 0 rfl;have fp1:=HI4.kp.cell 1 rfl;have fp2:=HI4.kp.cell 2 rfl;have fx0:=HI4.kx.cell 0 rfl;have fx1:=HI4.kx.cell 1 rfl;have fx2:=HI4.kx.cell 2 rfl;have fx3:=HI4.kx.cell 3 rfl;have fx4:=HI4.kx.cell 4 rfl;have fx5:=HI4.kx.cell 5 rfl;have fx6:=HI4.kx.cell 6 rfl;have fx7:=HI4.kx.cell 7 rfl;have fx8:=HI4.kx.cell 8 rfl;have fx9:=HI4.kx.cell 9 rfl;have fx10:=HI4.kx.cell 10 rfl;have fx11:=HI4.kx.cell 11 rfl;have fx12:=HI4.kx.cell 12 rfl;have fx13:=HI4.kx.cell 13 rfl;have fx14:=HI4.kx.cell 14 rfl;have fx15:=HI4.kx.cell 15 rfl)
      | (refine step_append_lies _ (by rfl) (.tmp 101) (.tmp 113) 35 (by rfl) (w.heap.size+1+1) 9 i0 (.string ByteArray.empty) 1 16 Tryz.underlying35 hi0 hz0 hz1 hz2 rfl (by omega) _ _ _ (by simp [Act.eval,Act.put]) (HI6.own.alloc _) ⟨w6.heap.size,0,none⟩ 1 1 [.string (TK k)] (by simp [Act.eval,Act.put]) rfl (one_news w6 _) one_cell1 (by omega) (by have:=Htl.out;simp only [maxLen];omega) (by have:=Htl.out;omega) (by have:=HI6.kx.lt;simp;omega) (w6.heap.size+1) (by simp) ?_;intro g9 c9 w9 hown9 hg9 hat9 hlt9;have HI7:=HI6.later (below_lit w6 (.cells #[.string (TK k)] 9));have kp9:=Bk.grownO HI7.kp hg9 (fun e=>by have:=(HI7.own.lt _ e).1;omega);have kx9:=Bk.grownO HI7.kx hg9 (fun e=>by have:=(HI7.own.lt _ e).1;omega);have gp0:=kp9.cell 0 rfl;have gp1:=kp9.cell 1 rfl;have gp2:=kp9.cell 2 rfl;have gx0:=kx9.cell 0 rfl;have gx1:=kx9.cell 1 rfl;have gx2:=kx9.cell 2 rfl;have gx3:=kx9.cell 3 rfl;have gx4:=kx9.cell 4 rfl;have gx5:=kx9.cell 5 rfl;have gx6:=kx9.cell 6 rfl;have gx7:=kx9.cell 7 rfl;have gx8:=kx9.cell 8 rfl;have gx9:=kx9.cell 9 rfl;have gx10:=kx9.cell 10 rfl;have gx11:=kx9.cell 11 rfl;have gx12:=kx9.cell 12 rfl;have gx13:=kx9.cell 13 rfl;have gx14:=kx9.cell 14 rfl;have gx15:=kx9.cell 15 rfl))
    have hO:Ownv w9 (w.heap.size+1+1) 9 (.slice (some ⟨g9,0,none⟩) ((strs (List.take k (kidsE K))).length+1) c9) (strs ((kidsE K).take (k+1))):=by
     unfold Ownv
     rw [hnext.out,List.length_append,List.length_singleton];exact hown9
    have hb9:=(HI7.bel).grown hg9 HI7.bel.size (fun g hg=>by have:=(HI7.own.lt g hg).1;omega)
    have HI3:=Bx.mk (show MnI w #[ax,ay,az] #[.int .i64 κ,a,b,c,d,e,f,cell,q1,q2,q3,q4,q5,q6,.slice ha ys.length hcp,.string S] _ (strs ((kidsE K).take (k+1))) w9 from ⟨kp9,kx9,hO,hb9⟩)
    clear hown9 hg9 hb9 hO kp9 kx9 hat9 hlt9 gp0 gp1 gp2 gx0 gx1 gx2 gx3 gx4 gx5 gx6 gx7 gx8 gx9 gx10 gx11 gx12 gx13 gx14 gx15 dp0 dp1 dp2 dx0 dx1 dx2 dx3 dx4 dx5 dx6 dx7 dx8 dx9 dx10 dx11 dx12 dx13 dx14 dx15 ep0 ep1 ep2 ex0 ex1 ex2 ex3 ex4 ex5 ex6 ex7 ex8 ex9 ex10 ex11 ex12 ex13 ex14 ex15 fp0 fp1 fp2 fx0 fx1 fx2 fx3 fx4 fx5 fx6 fx7 fx8 fx9 fx10 fx11 fx12 fx13 fx14 fx15 cp0 cp1 cp2 cx0 cx1 cx2 cx3 cx4 cx5 cx6 cx7 cx8 cx9 cx10 cx11 cx12 cx13 cx14 cx15 HI7 HI6 HI5 HI4
    go_wp2_with fail
    go_roundw
    case rel=>exact ⟨k+1,by omega,by go_num,HI3⟩
    case measure=>simp [intOf];omega
  · obtain rfl:k=8:=by omega
    have t0:decide (((8:Nat):Int)<8)=false:=by decide
    have hown2:=HI.out.own
    rw [List.take_of_length_le (by rw [kidsE_len];exact Nat.le_refl _)] at hown2
    obtain ⟨pa,pc,rfl,hsl⟩:=hown2.form
    have hl8:(strs (kidsE K)).length=8:=by rw [strs_length,kidsE_len]
    rw [hl8]
    have Hsl:=Bx.mk hsl
    clear hsl hown2 hl8
    go_wp2_with fail
    refine (hinr.out pa pc _ Hsl.out).mono ?_
    rintro _ w9 ⟨rfl,hb9⟩
    have HB9:=Bx.mk (HI.out.bel.trans (hb9.mono HI.out.bel.size))
    clear hb9
    go_wp2_with fail
    go_ret
    exact ⟨by rw [HR.out];rfl,HB9.out⟩
end
section
open Go.RowKit Go.Sort Go.Maps
open Oct
structure MadeC (V:Nat→Pt→Prop) (N:Nat) (κ:Int) (b:Box) (cell:Int) (gb:Box) (ys:List Int) (S:ByteArray) (f f':Pt→Int):Prop where
 vtop:V N ⟨0,0,0⟩
 vkid : ∀ n a i,i<8→InT N (n+1) a→V (n+1) a→emptyB (meetB (cubeAtB (n+1) a) b)=false → ¬(cubeAtB (n+1) a=b∧κ=3)→V n (Tr.cor a n i)
 off : ∀ n a,InT N n a→V n a→emptyB (meetB (cubeAtB n a) b)=true→Tr.can f' n a=Tr.can f n a
 part : ∀ n a,InT N n a→κ=3→cubeAtB n a=b→S=strOfNums (Tr.enc (Tr.can f' n a))
 uni : ∀ n a,InT N n a→κ=1→containsB b (cubeAtB n a)=true→(0≤cell∧cell≤255)∧Tr.can f' n a = .uni cell
 cells : ∀ a,InT N 0 a→V 0 a→emptyB (meetB (cubeAtB 0 a) b)=false → ¬(cubeAtB 0 a=b∧κ=3) → ∀ p,inB p (cubeAtB 0 a)=true→f' p=if inB p b=true∧κ=1 then cell else if inB p b=true∧κ=2 then cellG gb ys p else f p
theorem cubeAt_ne (n:Nat) (a:Pt):emptyB (cubeAtB n a)=false:=by
 have hp:=Tr.pow_pos2 n
 exact emptyB_iff.2 (by simp only [];omega)
theorem InT.small {N n:Nat} {a:Pt} (hN:N≤12) (h:InT N n a):Small (cubeAtB n a) 1048575:=by
 obtain ⟨b1,b2,b3⟩:=h.bd hN
 have h1:=pow_le (show n+2≤14 by have:=h.le;omega)
 exact ⟨by simp only [];omega,by simp only [];omega,by simp only [];omega,by simp only [];omega,by simp only [];omega,by simp only [];omega⟩
theorem cells64_all {f:Pt→Int} (hf : ∀ p,0≤f p∧f p≤255) (a:Pt):(cells64 f a).all Pal.cell=true:=by
 rw [List.all_eq_true]
 intro x hx
 unfold cells64 at hx
 obtain ⟨k,-,rfl⟩:=List.mem_map.1 hx
 have:=hf (Tr.cellAt a k)
 rw [Pal.cell_eq];simpa using this
theorem cells64_at (f:Pt→Int) (a:Pt) {k:Nat} (hk:k<64):(cells64 f a)[k]? = some (f (atB (cubeAtB 0 a) (k:Int))):=by
 rw [cells64_of]
 have hv:volB (cube4B a)=64:=(cube4 a.x a.y a.z).2.2
 exact cellsOf_get (by rw [hv];exact hk)
theorem made_any {V:Nat→Pt→Prop} {N:Nat} {κ a b c d e f cell q1 q2 q3 q4 q5 q6:Int} {ys:List Int} {S:ByteArray} {g g':Pt→Int} (hN:N≤12) (C:MadeC V N κ ⟨⟨a,b,c⟩,⟨d,e,f⟩⟩ cell ⟨⟨q1,q2,q3⟩,⟨q4,q5,q6⟩⟩ ys S g g') (hg : ∀ p,0≤g p∧g p≤255) (hg' : ∀ p,0≤g' p∧g' p≤255) (ha:Option Addr) (hcp:Nat) (HX:GoodG ⟨⟨q1,q2,q3⟩,⟨q4,q5,q6⟩⟩ ys hcp) :
 ∀ (n : Nat) (p : Pt) (_hin : InT N n p) (_hV : V n p) (w : World) (_hsl : Sl w .i64 ha ys),
   Calls Tryz.prog 124 #[.string (strOfNums (Tr.enc (Tr.can g n p))),.agg #[p.x,p.y,p.z],.int .i64 ((n:Int)+2),.agg #[.int .i64 κ,a,b,c,d,e,f,cell,q1,q2,q3,q4,q5,q6,.slice ha ys.length hcp,.string S]] w
    fun e' w'=>e' = .returned (.string (strOfNums (Tr.enc (Tr.can g' n p))))∧Below w.heap.size w w':=by
 intro n
 induction n with
 | zero =>
   intro p hin hV w hsl
   have hsm:=hin.small hN
   have hne:=cubeAt_ne 0 p
   obtain ⟨b1,b2,b3⟩:=hin.bd hN
   have hcub:Bx (∀ W,Calls Tryz.prog 35 #[.agg #[p.x,p.y,p.z],(2:Int)] W fun e w'=>e = .returned (.agg #[p.x,p.y,p.z,.int .i64 (p.x+2 ^ (0+2)),.int .i64 (p.y+2 ^ (0+2)),.int .i64 (p.z+2 ^ (0+2))])∧Below W.heap.size W w'):=⟨fun W=>cube9_any p.x p.y p.z 2 (by omega) (by omega) (by omega) (by omega) W⟩
   rw [show (((0:Nat):Int)+2)=2 from rfl]
   refine made_brick κ a b c d e f cell q1 q2 q3 q4 q5 q6 ha hcp ys S _ _ p.x p.y p.z (2 ^ (0+2)) hsm hne ?_ ?_ ?_ hcub (cells64 g p) (cells64 g' p) (cells64_len _ _) (cells64_len _ _) (cube4 p.x p.y p.z).2.2 HX ⟨fun W=>cells9_mk _ (cells64_len _ _) (cells64_all hg p) W⟩ ⟨fun pa cap W h=>ref9_brick pa cap _ W (cells64_len _ _) (cells64_all hg' p) h⟩ ?_ w hsl
   · intro h;rw [C.off 0 p hin hV h];rfl
   · intro _ h1 h2;exact (C.part 0 p hin h2 h1).symm
   · intro _ _ h1 h2;obtain ⟨h3,h4⟩:=C.uni 0 p hin h2 h1;exact ⟨h3,by rw [h4]⟩
   · intro h1 h2 h3
     refine ⟨rfl,fun k hk=>?_⟩
     have hv:volB (cubeAtB 0 p)=64:=(cube4 p.x p.y p.z).2.2
     have hat:=(atB_in (b:=cubeAtB 0 p) (i:=(k:Int)) (by omega) (by rw [hv];omega)).1
     rw [cells64_at g' p hk,C.cells p hin hV h1 h2 _ hat,List.getD_eq_getElem?_getD,cells64_at g p hk]
     rfl
 | succ n ih =>
   intro p hin hV w hsl
   have hsm:=hin.small hN
   have hne:=cubeAt_ne (n+1) p
   obtain ⟨b1,b2,b3⟩:=hin.bd hN
   have hle:=hin.le
   have e3:(((n+1:Nat):Int)+2)=(n:Int)+3:=by omega
   have hcub:Bx (∀ W,Calls Tryz.prog 35 #[.agg #[p.x,p.y,p.z],.int .i64 ((n:Int)+3)] W fun e w'=>e = .returned (.agg #[p.x,p.y,p.z,.int .i64 (p.x+2 ^ (n+1+2)),.int .i64 (p.y+2 ^ (n+1+2)),.int .i64 (p.z+2 ^ (n+1+2))])∧Below W.heap.size W w'):=⟨fun W=>by
    have h:=cube9_any p.x p.y p.z (n+1+2) (by omega) (by omega) (by omega) (by omega) W
    rw [show ((n+1+2:Nat):Int)=(n:Int)+3 by omega] at h
    exact h⟩
   have hW : ∀ i:Fin 8,Tr.WF (Tr.can g' n (Tr.cor p n i.val)):=fun i=>wf_can hg' n _ (by omega)
   have hKs:(Tr.enc (.node (n+3) (fun i:Fin 8=>Tr.can g' n (Tr.cor p n i.val)))).length≤1000000000000000:=by
    have hk:=fun i:Fin 8=>can_size hg' (show n≤12 by omega) (Tr.cor p n i.val)
    rw [←Tr.pos_all (n+3) (fun i:Fin 8=>Tr.can g' n (Tr.cor p n i.val))]
    have key : ∀ k,k≤8→Tr.pos (fun i:Fin 8=>Tr.can g' n (Tr.cor p n i.val)) k≤2+k * 100000000000000:=by
     intro k
     induction k with
     | zero=>intro _;rw [Tr.pos_zero];omega
     | succ k ih2=>intro hk8;rw [Tr.pos_succ _ (by omega)];have h1:=ih2 (by omega);have h2:=hk ⟨k,by omega⟩;omega
    have:=key 8 (Nat.le_refl _)
    omega
   rw [e3]
   refine made_node κ a b c d e f cell q1 q2 q3 q4 q5 q6 ha hcp ys S _ _ p.x p.y p.z (2 ^ (n+1+2)) hsm hne ?_ ?_ ?_ n (by omega) b1 b2 b3 hcub (fun i:Fin 8=>Tr.can g' n (Tr.cor p n i.val)) hW hKs (fun k=>strOfNums (Tr.enc (Tr.can g n (Tr.cor p n k)))) ⟨fun k hk W=>?_⟩ ?_ w hsl
   · intro h;rw [C.off (n+1) p hin hV h]
   · intro _ h1 h2;exact (C.part (n+1) p hin h2 h1).symm
   · intro _ _ h1 h2;obtain ⟨h3,h4⟩:=C.uni (n+1) p hin h2 h1;exact ⟨h3,by rw [h4]⟩
   · have h:=child10_any (Tr.can g (n+1) p) (wf_can hg (n+1) p (by omega)) (by have:=can_size hg (show n+1≤12 by omega) p;omega) k hk W
     rw [can_kid] at h
     exact h
   · intro h1 h2 h3
     refine ⟨rfl,fun k hk W hs=>?_⟩
     have h:=ih (Tr.cor p n k) (hin.kid hk) (C.vkid n p k hk hin hV h1 h2) W hs
     exact h
end
section
open Go.RowKit Go.Sort Go.Maps
open Oct
theorem can_cases (f:Pt→Int) (n:Nat) (a:Pt):(∃ c,Tr.can f n a = .uni c)∨(n=0 ∧ ∃ l,Tr.can f n a = .brick l∧l.length=64) ∨ ∃ m ch,n=m+1∧Tr.can f n a = .node (m+3) ch ∧ ∀ i:Fin 8,ch i=Tr.can f m (Tr.cor a m i.val):=by
 cases n with
 | zero =>
   unfold Tr.can Tr.mkBrick
   split
   · exact .inl ⟨_,rfl⟩
   · exact .inr (.inl ⟨rfl,_,rfl,by simp⟩)
 | succ m =>
   have hc:Tr.can f (m+1) a=Tr.mkInner (m+3) fun i=>Tr.can f m (Tr.cor a m i.val):=rfl
   rw [hc]
   unfold Tr.mkInner
   split
   · rename_i h
     obtain ⟨c,hc⟩:=h.1
     exact .inl ⟨c,hc⟩
   · exact .inr (.inr ⟨m,_,rfl,rfl,fun _=>rfl⟩)
def ChOf (ch:Fin 8→Tr) (v:Value) (w:World):Prop := ∃ g pc,v = .slice (some ⟨g,0,none⟩) 8 pc∧Slv w (some ⟨g,0,none⟩) (strs (kidsE ch))
def PtrS (o:Nat) (S:ByteArray) (v:Value) (w:World):Prop := ∃ g,v = .pointer (some ⟨g,o,none⟩)∧w.cell? ⟨g,o,none⟩=some (.string S)
theorem pts2 {w W:World} {ax ay az px py pz:Int} (h:W=(w.alloc (.cells #[ax,ay,az] 23)).alloc (.cells #[px,py,pz] 23)) :
 Below w.heap.size w W∧Bk W (w.heap.size) #[ax,ay,az] 23∧Bk W (w.heap.size+1) #[px,py,pz] 23:=by
 rw [h]
 exact ⟨((Below.refl _ _).alloc (Nat.le_refl _) _).alloc (by simp) _,blk_old (blk_new _ _ _ (by simp)),blk_new _ _ _ (by simp)⟩
set_option maxRecDepth 100000 in
set_option maxHeartbeats 1000000 in
theorem part9_uni (c:Int) (hc:0≤c∧c≤255) (ax ay az px py pz dd lv:Int) (w:World) :
 Calls Tryz.prog 126 #[.string (strOfNums (Tr.enc (.uni c))),.agg #[ax,ay,az],dd,.agg #[px,py,pz],lv] w fun e w'=>e = .returned (.string (strOfNums (Tr.enc (.uni c))))∧Below w.heap.size w w':=by
 have hby:Byt (Tr.enc (.uni c)):=Tr.enc_byt _ hc
 have hi0:=fun W:World=>idx_str (P:=Tryz.prog) 9 Tryz.underlying9 hby (k:=0) (x:=117) (by simp [Tr.enc]) W
 rw [show ((0:Nat):Int)=0 from rfl] at hi0
 generalize strOfNums (Tr.enc (.uni c))=S at *
 clear hby
 go_enter Tryz.func126,Tryz.ntmps126
 go_wp2_with fail
 go_ret
 exact ⟨rfl,((Below.refl _ _).alloc (Nat.le_refl _) _).alloc (by simp) _⟩
set_option maxRecDepth 100000 in
set_option maxHeartbeats 1000000 in
theorem part9_stop (t:Tr) (hw:Tr.WF t) (hu : ∀ c,t ≠ .uni c) (ax ay az px py pz dd:Int) (lv:Int) (hdl:dd=lv) (w:World) :
 Calls Tryz.prog 126 #[.string (strOfNums (Tr.enc t)),.agg #[ax,ay,az],dd,.agg #[px,py,pz],lv] w fun e w'=>e = .returned (.string (strOfNums (Tr.enc t)))∧Below w.heap.size w w':=by
 subst hdl
 have hby:Byt (Tr.enc t):=Tr.enc_byt _ hw
 obtain ⟨x,hx,hx7⟩ : ∃ x,(Tr.enc t)[0]? = some x∧(x == 117)=false:=by
  cases t with
  | uni c=>exact absurd rfl (hu c)
  | brick l=>exact ⟨98,by simp [Tr.enc],by decide⟩
  | node d ch=>exact ⟨110,by simp [Tr.enc],by decide⟩
 have hi0:=fun W:World=>idx_str (P:=Tryz.prog) 9 Tryz.underlying9 hby (k:=0) (x:=x) hx W
 rw [show ((0:Nat):Int)=0 from rfl] at hi0
 generalize strOfNums (Tr.enc t)=S at *
 clear hby hx hu hw
 go_enter Tryz.func126,Tryz.ntmps126
 go_wp2_with fail
 go_ret
 exact ⟨rfl,((Below.refl _ _).alloc (Nat.le_refl _) _).alloc (by simp) _⟩
set_option maxRecDepth 100000 in
set_option maxHeartbeats 1000000 in
theorem part9_node (m:Nat) (hm:m≤11) (ch:Fin 8→Tr) (h:Tr.WF (.node (m+3) ch)) (hl:(Tr.enc (.node (m+3) ch)).length≤1000000000000000) (k:Nat) (hk:k<8) (ax ay az px py pz x y z lv:Int) (R:ByteArray) (hdl:(((m:Int)+3) == lv)=false)
 (hoc : ∀ W,Calls Tryz.prog 170 #[.agg #[ax,ay,az],.int .i64 ((m:Int)+3),.agg #[px,py,pz]] W fun e w'=>e = .returned (.int .i64 (k:Int))∧Below W.heap.size W w')
 (hcor : ∀ W,Calls Tryz.prog 152 #[.agg #[ax,ay,az],.int .i64 ((m:Int)+3),(k:Int)] W fun e w'=>e = .returned (.agg #[x,y,z])∧Below W.heap.size W w')
 (hih : ∀ W,Calls Tryz.prog 126 #[.string (strOfNums (Tr.enc (ch ⟨k,hk⟩))),.agg #[x,y,z],.int .i64 ((m:Int)+2),.agg #[px,py,pz],lv] W fun e w'=>e = .returned (.string R)∧Below W.heap.size W w') (w:World) :
 Calls Tryz.prog 126 #[.string (strOfNums (Tr.enc (.node (m+3) ch))),.agg #[ax,ay,az],.int .i64 ((m:Int)+3),.agg #[px,py,pz],lv] w fun e w'=>e = .returned (.string R)∧Below w.heap.size w w':=by
 have hby:=Tr.enc_byt _ h
 have hi0:=fun W:World=>idx_str (P:=Tryz.prog) 9 Tryz.underlying9 hby (k:=0) (x:=110) (by simp [Tr.enc]) W
 rw [show ((0:Nat):Int)=0 from rfl] at hi0
 have hch:=Bx.mk (ref9_children (m+3) ch h hl)
 have hkat:=Bx.mk (strs_at (kidsE_at ch hk))
 have hoc:=Bx.mk hoc
 have hcor:=Bx.mk hcor
 have hih:=Bx.mk hih
 have hsub:IntKind.i64.wrap ((m:Int)+3 - 1)=(m:Int)+2:=by rw [show (m:Int)+3 - 1=(m:Int)+2 by omega];exact IntWalk.i64_in _ (by omega)
 generalize strOfNums (Tr.enc (.node (m+3) ch))=S at *
 generalize strOfNums (Tr.enc (ch ⟨k,hk⟩))=Sk at *
 have b0:(0:Int)≤(k:Int):=by omega
 have b1:(k:Int)<8:=by omega
 clear hby h hl
 go_enter Tryz.func126,Tryz.ntmps126
 go_upto_region 1 with fail
 generalize hW:World.alloc (World.alloc w _) _=W
 have HP:=Bx.mk (pts2 hW.symm)
 clear hW
 obtain ⟨ca0,ca1,ca2⟩:=HP.out.2.1.c3
 obtain ⟨cp0,cp1,cp2⟩:=HP.out.2.2.c3
 go_wp2_with fail
 refine (hoc.out _).mono ?_
 rintro _ w1 ⟨rfl,hb1⟩
 have HP1:Bx (Below w.heap.size w w1∧Bk w1 (w.heap.size) #[ax,ay,az] 23∧Bk w1 (w.heap.size+1) #[px,py,pz] 23):=⟨HP.out.1.trans (hb1.mono HP.out.1.size),HP.out.2.1.later hb1,HP.out.2.2.later hb1⟩
 clear hb1 HP ca0 ca1 ca2 cp0 cp1 cp2 hoc
 go_upto_region 4 with fail
 refine wp_region_rel 14 (fun i v w'=>match i with
  | 0=>v = .string S
  | 1=>ChOf ch v w'
  | 2=>v = .int .i64 (k:Int)
  | 3=>PtrS k Sk v w'
  | 4=>v = .string Sk
  | 5=>v = .agg #[ax,ay,az]
  | 6=>v = .int .i64 ((m:Int)+3)
  | 7=>v = .int .i64 (k:Int)
  | 8=>v = .agg #[x,y,z]
  | 9=>v = .int .i64 ((m:Int)+3)
  | 10=>v = .int .i64 ((m:Int)+2)
  | 11=>v = .agg #[px,py,pz]
  | 12=>v = .int .i64 lv
  | _=>v = .string R) (by kernel_rfl) (by kernel_rfl) 39 (by kernel_rfl) (by rfl) ?_ ?_ ?_
 · intro i hi v u1 u2 hb h
   match i,hi with
   | 0,_=>exact h
   | 1,_=>obtain ⟨g,pc,h1,h2⟩:=h;exact ⟨g,pc,h1,h2.below hb⟩
   | 2,_=>exact h
   | 3,_=>obtain ⟨g,h1,h2⟩:=h;exact ⟨g,h1,cell_later hb h2⟩
   | 4,_=>exact h
   | 5,_=>exact h
   | 6,_=>exact h
   | 7,_=>exact h
   | 8,_=>exact h
   | 9,_=>exact h
   | 10,_=>exact h
   | 11,_=>exact h
   | 12,_=>exact h
   | 13,_=>exact h
 · intro i o hi ho ρ w2 hb hc1 hc2 hc3 hk
   match i,hi with
   | 0, _ =>
     obtain rfl:=Option.some.inj ho
     have h2:ρ (.tmp 0) = .string S:=hk 0 (by simp [Op.operands])
     clear hk hb
     go_simp
     exact Below.refl _ _
   | 1, _ =>
     obtain rfl:=Option.some.inj ho
     have h2:ρ (.tmp 25) = .string S:=hk 25 (by simp [Op.operands,Call.operands])
     have h4:=(hch.out w2).mono (R':=fun e w'' => ∃ v,e = .returned v∧Below w2.heap.size w2 w''∧ChOf ch v w'') (fun e w'' ⟨g,pc,x,y,_,z⟩=>⟨_,x,z,g,pc,rfl,y⟩)
     have H4:=Bx.mk h4
     clear hk hb h4
     go_simp
     all_goals exact H4.out
   | 2, _ =>
     obtain rfl:=Option.some.inj ho
     have h2:ρ (.tmp 11) = .int .i64 (k:Int):=hk 11 (by simp [Op.operands])
     clear hk hb
     go_simp
     exact Below.refl _ _
   | 3, _ =>
     obtain rfl:=Option.some.inj ho
     obtain ⟨g,pc,h2,h3⟩:ChOf ch (ρ (.tmp 26)) w2:=hk 26 (by simp [Op.operands])
     have h5:ρ (.tmp 27) = .int .i64 (k:Int):=hk 27 (by simp [Op.operands])
     obtain ⟨b',off,he,hck⟩:=h3 k _ hkat.out
     simp only [Option.some.injEq,Addr.mk.injEq,and_true] at he
     obtain ⟨rfl,rfl⟩:=he
     rw [Nat.zero_add] at hck
     have hck:=Bx.mk hck
     clear hk hb h3
     go_simp
     exact ⟨Below.refl _ _,_,rfl,hck.out⟩
   | 4, _ =>
     obtain rfl:=Option.some.inj ho
     obtain ⟨g,h2,h3⟩:PtrS k Sk (ρ (.tmp 28)) w2:=hk 28 (by simp [Op.operands])
     clear hk hb
     go_simp
     exact Below.refl _ _
   | 5, _ =>
     obtain rfl:=Option.some.inj ho
     have h2:ρ (.tmp 6) = .pointer (some ⟨w.heap.size,0,none⟩):=hk 6 (by simp [Op.operands])
     have kk:=HP1.out.2.1.later hb
     obtain ⟨c0,c1,c2⟩:=kk.c3
     clear hk hb kk
     go_simp
     exact Below.refl _ _
   | 6, _ =>
     obtain rfl:=Option.some.inj ho
     have h2:ρ (.tmp 2) = .int .i64 ((m:Int)+3):=hk 2 (by simp [Op.operands])
     clear hk hb
     go_simp
     exact Below.refl _ _
   | 7, _ =>
     obtain rfl:=Option.some.inj ho
     have h2:ρ (.tmp 11) = .int .i64 (k:Int):=hk 11 (by simp [Op.operands])
     clear hk hb
     go_simp
     exact Below.refl _ _
   | 8, _ =>
     obtain rfl:=Option.some.inj ho
     have h2:ρ (.tmp 30) = .agg #[ax,ay,az]:=hk 30 (by simp [Op.operands,Call.operands])
     have h3:ρ (.tmp 31) = .int .i64 ((m:Int)+3):=hk 31 (by simp [Op.operands,Call.operands])
     have h5:ρ (.tmp 32) = .int .i64 (k:Int):=hk 32 (by simp [Op.operands,Call.operands])
     have h4:=(hcor.out w2).mono (R':=fun e w'' => ∃ v,e = .returned v∧Below w2.heap.size w2 w''∧v = .agg #[x,y,z]) (fun e w'' ⟨x,y⟩=>⟨_,x,y,rfl⟩)
     have H4:=Bx.mk h4
     clear hk hb h4
     go_simp
     all_goals exact H4.out
   | 9, _ =>
     obtain rfl:=Option.some.inj ho
     have h2:ρ (.tmp 2) = .int .i64 ((m:Int)+3):=hk 2 (by simp [Op.operands])
     clear hk hb
     go_simp
     exact Below.refl _ _
   | 10, _ =>
     obtain rfl:=Option.some.inj ho
     have h2:ρ (.tmp 34) = .int .i64 ((m:Int)+3):=hk 34 (by simp [Op.operands])
     clear hk hb
     go_simp
     exact Below.refl _ _
   | 11, _ =>
     obtain rfl:=Option.some.inj ho
     have h2:ρ (.tmp 8) = .pointer (some ⟨w.heap.size+1,0,none⟩):=hk 8 (by simp [Op.operands])
     have kk:=HP1.out.2.2.later hb
     obtain ⟨c0,c1,c2⟩:=kk.c3
     clear hk hb kk
     go_simp
     exact Below.refl _ _
   | 12, _ =>
     obtain rfl:=Option.some.inj ho
     have h2:ρ (.tmp 4) = .int .i64 lv:=hk 4 (by simp [Op.operands])
     clear hk hb
     go_simp
     exact Below.refl _ _
   | 13, _ =>
     obtain rfl:=Option.some.inj ho
     have h2:ρ (.tmp 29) = .string Sk:=hk 29 (by simp [Op.operands,Call.operands])
     have h3:ρ (.tmp 33) = .agg #[x,y,z]:=hk 33 (by simp [Op.operands,Call.operands])
     have h5:ρ (.tmp 35) = .int .i64 ((m:Int)+2):=hk 35 (by simp [Op.operands,Call.operands])
     have h6:ρ (.tmp 36) = .agg #[px,py,pz]:=hk 36 (by simp [Op.operands,Call.operands])
     have h7:ρ (.tmp 37) = .int .i64 lv:=hk 37 (by simp [Op.operands,Call.operands])
     have h4:=(hih.out w2).mono (R':=fun e w'' => ∃ v,e = .returned v∧Below w2.heap.size w2 w''∧v = .string R) (fun e w'' ⟨x,y⟩=>⟨_,x,y,rfl⟩)
     have H4:=Bx.mk h4
     clear hk hb h4
     go_simp
     all_goals exact H4.out
 · intro vs W1 hlen hb hR
   match vs,hlen with
   | [v0, v1, v2, v3, v4, v5, v6, v7, v8, v9, v10, v11, v12, v13], _ =>
     have r0:v0 = .string S:=hR 0 v0 rfl
     obtain ⟨g1,pc1,r1,-⟩:ChOf ch v1 W1:=hR 1 v1 rfl
     have r2:v2 = .int .i64 (k:Int):=hR 2 v2 rfl
     obtain ⟨g3,r3,-⟩:PtrS k Sk v3 W1:=hR 3 v3 rfl
     have r4:v4 = .string Sk:=hR 4 v4 rfl
     have r5:v5 = .agg #[ax,ay,az]:=hR 5 v5 rfl
     have r6:v6 = .int .i64 ((m:Int)+3):=hR 6 v6 rfl
     have r7:v7 = .int .i64 (k:Int):=hR 7 v7 rfl
     have r8:v8 = .agg #[x,y,z]:=hR 8 v8 rfl
     have r9:v9 = .int .i64 ((m:Int)+3):=hR 9 v9 rfl
     have r10:v10 = .int .i64 ((m:Int)+2):=hR 10 v10 rfl
     have r11:v11 = .agg #[px,py,pz]:=hR 11 v11 rfl
     have r12:v12 = .int .i64 lv:=hR 12 v12 rfl
     have r13:v13 = .string R:=hR 13 v13 rfl
     subst r0 r1 r2 r3 r4 r5 r6 r7 r8 r9 r10 r11 r12 r13
     clear hR
     have HB:=Bx.mk (HP1.out.1.trans (hb.mono HP1.out.1.size))
     clear hb HP1 hch hcor hih hkat
     simp only [puts,List.take_succ_cons,List.take_zero,List.drop_succ_cons,List.drop_zero,List.map_cons,List.map_nil,List.zip_cons_cons,List.zip_nil_right,List.foldl_cons,List.foldl_nil]
     go_wp2_with fail
     go_ret
     exact ⟨rfl,HB.out⟩
end
end Go.Proofs.YtfcbajmjaifjlaaGreat
