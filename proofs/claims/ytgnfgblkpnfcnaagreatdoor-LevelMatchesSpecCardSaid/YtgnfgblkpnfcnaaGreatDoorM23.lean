/- Rst, Rse, Rsf, Rcr: joined by program, for one claim. -/
import Derived.Test.YtgnfgblkpnfcnaaGreatDoorM22
set_option maxHeartbeats 2000000
set_option maxRecDepth 100000
set_option linter.unusedVariables false
set_option linter.unusedSimpArgs false
namespace Go.Proofs.YtgnfgblkpnfcnaaGreatDoor
section
open Go.RowKit Go.Sort Go.Maps
open Oct
theorem zFS (ax ay az px py pz:Int) (hx:0≤ax∧ax≤px∧px≤100000) (hy:0≤ay∧ay≤py∧py≤100000) (hz:0≤az∧az≤pz∧pz≤100000) (w:World) :
 Calls Tryz.prog 148 #[.agg #[ax,ay,az],.agg #[px,py,pz]] w fun e w'=>e = .returned (.int .i64 (16 * (pz - az)+4 * (py - ay)+px - ax))∧Below w.heap.size w w':=by
 obtain ⟨x1,x2,x3⟩:=hx;obtain ⟨y1,y2,y3⟩:=hy;obtain ⟨z1,z2,z3⟩:=hz;go_enter Tryz.func148,Tryz.ntmps148;go_wp2_with fail;go_ret;exact ⟨rfl,((Below.refl _ _).alloc (Nat.le_refl _) _).alloc (by simp) _⟩
theorem zCw (h:Nat) (hh:h≤14) (px py pz:Int) (i:Nat) (hi:i<8) (hx:0≤px∧px≤100000) (hy:0≤py∧py≤100000) (hz:0≤pz∧pz≤100000) (w:World) :
 Calls Tryz.prog 97 #[.agg #[px,py,pz],.int .i64 ((h:Int)+1),(i:Int)] w fun e w'=>e = .returned (.agg #[.int .i64 (px+chX i (2 ^ h)),.int .i64 (py+chY i (2 ^ h)),.int .i64 (pz+chZ i (2 ^ h))])∧Below w.heap.size w w':=by
 have hsd:=fun W=>zL8 h hh W;have hp:=zn hh;generalize hm:(2:Int) ^ h=m at *;obtain ⟨bx,by',bz⟩:=zCd hi (show 0≤m by omega)
 have e1:(i:Int) % 2 * m=chX i m:=by unfold chX;rw [Int.natCast_emod];rfl
 have e2:(i:Int) / 2 % 2 * m=chY i m:=by unfold chY;rw [Int.natCast_emod,Int.natCast_ediv];rfl
 have e3:(i:Int) / 4 * m=chZ i m:=by unfold chZ;rw [Int.natCast_ediv];rfl
 have w1:IntKind.i64.wrap ((i:Int) % 2 * m)=chX i m:=by rw [e1];exact IntWalk.i64_in _ (by omega)
 have w2:IntKind.i64.wrap ((i:Int) / 2 % 2 * m)=chY i m:=by rw [e2];exact IntWalk.i64_in _ (by omega)
 have w3:IntKind.i64.wrap ((i:Int) / 4 * m)=chZ i m:=by rw [e3];exact IntWalk.i64_in _ (by omega)
 generalize chX i m=cx at *;generalize chY i m=cy at *;generalize chZ i m=cz at *;have hsub:IntKind.i64.wrap ((h:Int)+1 - 1)=(h:Int):=by rw [show (h:Int)+1 - 1=h by omega];exact IntWalk.i64_in _ (by omega)
 have hsd:=Bx.mk hsd;have b1:(0:Int)≤(i:Int):=by omega
 have b2:(i:Int)<8:=by omega
 have t1:=IntWalk.i64_in (px+cx) (by omega)
 have t2:=IntWalk.i64_in (py+cy) (by omega)
 have t3:=IntWalk.i64_in (pz+cz) (by omega)
 clear hm e1 e2 e3 hx hy hz bx by' bz hi
 go_enter Tryz.func97,Tryz.ntmps97;go_wp2_with fail;generalize hW:World.alloc (World.alloc w _) _=W;have hSz:=sz2 hW;have hB:=bl2 hW;have kp:Bk W (w.heap.size) #[px,py,pz] 23:=bk1 hW;have kr:Bk W (w.heap.size+1) #[(0:Int),(0:Int),(0:Int)] 23:=bk0 hW;clear hW;refine (hsd.out _).mono ?_;rintro _ _ ⟨rfl,rfl⟩;obtain ⟨cp0,cp1,cp2⟩:=kp.c3;obtain ⟨cr0,cr1,cr2⟩:=kr.c3;obtain ⟨fr0,fr1,fr2⟩:=kr.f3;go_wp2_with fail;replace kr:=kr.put3 (.int .i64 (px+cx)) (.int .i64 (py+cy)) (.int .i64 (pz+cz));exact bodyPost_ret (v:=.agg #[.int .i64 (px+cx),.int .i64 (py+cy),.int .i64 (pz+cz)]) (results_cell_row rfl _ _ (w.heap.size+1) 23 #[.int .i64 (px+cx),.int .i64 (py+cy),.int .i64 (pz+cz)] (0,0) _ rfl kr Tryz.underlying23 rfl (by kernel_rfl)) rfl ⟨rfl,zBh hB (by omega) _ _ _⟩
theorem zFI {n:Nat} {ax ay az m:Int} (hm:m=2 ^ (n+2)) (ha:Tr.Al n ⟨ax,ay,az⟩) {p:Pt}:inB p ⟨⟨ax,ay,az⟩,⟨ax+m,ay+m,az+m⟩⟩=true ↔ Tr.InC n ⟨ax,ay,az⟩ p:=by
 refine ⟨fun h=>?_,fun h=>zFJ hm ha h⟩;obtain ⟨a1,a2,a3⟩:=ha;have hp:=Tr.pow_pos2 n;rw [←hm] at a1 a2 a3 hp;simp only [] at a1 a2 a3;have h:=zX.1 h
 have key : ∀ p a:Int,a % m=0→a≤p→p<a+m→p / m=a / m:=by
  intro p a h2 h3 h4;have e2:=Int.mul_ediv_add_emod a m;rw [h2,Int.add_zero] at e2;obtain ⟨r,hr⟩ : ∃ r,r=p - a:=⟨_,rfl⟩;have hpe:p=r+m * (a / m):=by omega
  rw [hpe,Int.add_mul_ediv_left _ _ (by omega),Int.ediv_eq_zero_of_lt (by omega) (by omega),Int.zero_add]
 refine ⟨?_,?_,?_⟩
 · show p.x / 2 ^ (n+2)=ax / 2 ^ (n+2);rw [←hm];exact key _ _ a1 h.1 h.2.1
 · show p.y / 2 ^ (n+2)=ay / 2 ^ (n+2);rw [←hm];exact key _ _ a2 h.2.2.1 h.2.2.2.1
 · show p.z / 2 ^ (n+2)=az / 2 ^ (n+2);rw [←hm];exact key _ _ a3 h.2.2.2.2.1 h.2.2.2.2.2
theorem zIc (n:Nat) (hn:n≤11) (ax ay az px py pz:Int) (hal:Tr.Al (n+1) ⟨ax,ay,az⟩) (hin:Tr.InC (n+1) ⟨ax,ay,az⟩ ⟨px,py,pz⟩) (hx:0≤ax∧ax≤16384) (hy:0≤ay∧ay≤16384) (hz:0≤az∧az≤16384) (w:World) :
 Calls Tryz.prog 149 #[.agg #[ax,ay,az],.int .i64 ((n:Int)+3),.agg #[px,py,pz]] w fun e w'=>e = .returned (.int .i64 (Tr.octN n ⟨px,py,pz⟩:Int))∧Below w.heap.size w w':=by
 have hp:=zn (show n+2≤14 by omega)
 obtain ⟨m,hm⟩ : ∃ m:Int,m=2 ^ (n+2):=⟨_,rfl⟩;rw [←hm] at hp;have hcor:=Bx.mk fun W (k:Nat) (hk:k<8)=>zCw (n+2) (by omega) ax ay az k hk (by omega) (by omega) (by omega) W
 have hcub:=Bx.mk fun W (k:Nat) (hk:k<8)=>zDA (ax+chX k m) (ay+chY k m) (az+chZ k m) (n+2) (by omega) (by have:=zCd hk (show 0≤m by omega);omega) (by have:=zCd hk (show 0≤m by omega);omega) (by have:=zCd hk (show 0≤m by omega);omega) W
 have hrin:=Bx.mk fun W (k:Nat)=>zKk px py pz (ax+chX k m) (ay+chY k m) (az+chZ k m) (ax+chX k m+m) (ay+chY k m+m) (az+chZ k m+m) W;rw [←hm,show ((n+2:Nat):Int)+1=(n:Int)+3 by omega] at hcor
 rw [←hm,show ((n+2:Nat):Int)=(n:Int)+2 by omega] at hcub
 have hdec:=Bx.mk fun (k:Nat) (hk:k<8)=>(show inB ⟨px,py,pz⟩ ⟨⟨ax+chX k m,ay+chY k m,az+chZ k m⟩,⟨ax+chX k m+m,ay+chY k m+m,az+chZ k m+m⟩⟩=true ↔ k=Tr.octN n ⟨px,py,pz⟩ from by
  have hc:=zCv ax ay az n k;rw [←hm] at hc;have hal2:=Tr.al_cor hal k;rw [hc] at hal2;rw [zFI hm hal2,←hc];constructor
  · intro h;exact congrArg Fin.val (Tr.inC_other (i:=⟨k,hk⟩) hal h).1
  · intro h;rw [h];exact Tr.inC_step hal hin)
 have ho8:=Tr.octN_lt n ⟨px,py,pz⟩;generalize Tr.octN n ⟨px,py,pz⟩=o at *;have hsub:IntKind.i64.wrap ((n:Int)+3 - 1)=(n:Int)+2:=by rw [show (n:Int)+3 - 1=(n:Int)+2 by omega];exact IntWalk.i64_in _ (by omega)
 clear hm hal hin hx hy hz hp;go_enter Tryz.func149,Tryz.ntmps149;go_wp2_with fail;generalize hW:World.alloc (World.alloc w _) _=W;have hB:=bl2 hW;have ka:Bk W (w.heap.size) #[ax,ay,az] 23:=bk1 hW;have kp:Bk W (w.heap.size+1) #[px,py,pz] 23:=bk0 hW;have HI:=Bx.mk (show Bk W (w.heap.size) #[ax,ay,az] 23∧Bk W (w.heap.size+1) #[px,py,pz] 23∧Below w.heap.size w W from ⟨ka,kp,hB⟩);clear hW ka kp hB
 go_loopw [7] (fun v7 wr => ∃ k:Nat,k≤o∧v7 = .int .i64 k∧Bx (Bk wr (w.heap.size) #[ax,ay,az] 23∧Bk wr (w.heap.size+1) #[px,py,pz] 23∧Below w.heap.size w wr)) (fun i _=>8 - (intOf i).toNat)
 case atStart=>exact ⟨0,Nat.zero_le _,rfl,HI⟩
 case round =>
  clear HI;obtain ⟨k,hk,rfl,HI⟩:=hrel;have t0:decide ((k:Int)<8)=true:=by simp;omega
  have hk8:k<8:=by omega
  have hd:=hdec.out k hk8;obtain ⟨ca0,ca1,ca2⟩:=HI.out.1.r3;obtain ⟨cp0,cp1,cp2⟩:=HI.out.2.1.r3;have q0:=Bx.mk fun dk osk=>Calls.regrown_of (hcor.out (grow (redrawn wr dk) osk) k hk8);have q1:=Bx.mk fun dk osk=>Calls.regrown_of (hcub.out (grow (redrawn wr dk) osk) k hk8);have q2:=Bx.mk fun dk osk=>Calls.regrown_of (hrin.out (grow (redrawn wr dk) osk) k);have Hd:=Bx.mk hd;clear hd;generalize hbb:inB ⟨px,py,pz⟩ ⟨⟨ax+chX k m,ay+chY k m,az+chZ k m⟩,⟨ax+chX k m+m,ay+chY k m+m,az+chZ k m+m⟩⟩=bb at *;clear hbb;generalize ax+chX k m=x1 at *;generalize ay+chY k m=y1 at *;generalize az+chZ k m=z1 at *;go_wp2_with fail;refine wp_region_quiet_below (by kernel_rfl) (by kernel_rfl) ?_
  repeat (first | go_big_quiet_step ((first | with_reducible exact q0.out _ _ | with_reducible exact q1.out _ _ | with_reducible exact q2.out _ _)) | quiet_step (first | with_reducible exact q0.out _ _ | with_reducible exact q1.out _ _ | with_reducible exact q2.out _ _))
  refine wpQuiet_nil ?_;rintro _ ⟨⟨dq,osq⟩,rfl⟩;have hb0:=below_regrown wr dq osq;have HI2:=Bx.mk (show Bk (grow (redrawn wr dq) osq) (w.heap.size) #[ax,ay,az] 23∧Bk (grow (redrawn wr dq) osq) (w.heap.size+1) #[px,py,pz] 23∧Below w.heap.size w (grow (redrawn wr dq) osq) from ⟨HI.out.1.later hb0,HI.out.2.1.later hb0,HI.out.2.2.trans (hb0.mono HI.out.2.2.size)⟩);clear q0 q1 q2 ca0 ca1 ca2 cp0 cp1 cp2 hb0;generalize grow (redrawn wr dq) osq=w7 at *;by_cases he:k=o
  · obtain rfl:bb=true:=Hd.out.2 he;have He:=Bx.mk he;clear he;go_wp2_with fail;go_ret;exact ⟨by rw [←He.out];rfl,HI2.out.2.2⟩
  · have hbf:bb=false:=by
     cases hb:bb with
     | false=>rfl
     | true=>exact absurd (Hd.out.1 hb) he
    subst hbf;go_wp2_with fail
    go_roundw
    case rel=>exact ⟨k+1,by omega,by go_num,HI2⟩
    case measure=>simp [intOf];omega
theorem zCI (l:List Int) (hl:l.length=64) (hb : ∀ x∈l,0≤x∧x≤255) (w:World) :
 Calls Tryz.prog 50 #[.string (strOfNums (98::l))] w fun e w' => ∃ v,e = .returned v∧Own w' w.heap.size 3 .i64 v l∧Below w.heap.size w w':=by
 have hby:Byt (98::l):=fun x hx=>by
  rcases List.mem_cons.1 hx with rfl | hx
  · omega
  · exact hb x hx
 have Hby:=Bx.mk hby;have Hl:=Bx.mk hl;have Hb:=Bx.mk hb;have hi0:=fun W:World=>zW (P:=Tryz.prog) 9 Tryz.underlying9 hby (k:=0) (x:=98) rfl W;obtain ⟨S,hS⟩ : ∃ S,S=strOfNums (98::l):=⟨_,rfl⟩;have HS:=Bx.mk hS;rw [←hS] at hi0 ⊢;rw [show ((0:Nat):Int)=0 from rfl] at hi0;clear hl hb hby hS;go_enter Tryz.func50,Tryz.ntmps50;go_wp2_with fail
 go_loopw [3,4] (fun v i wr => ∃ k:Nat,k≤64∧i = .int .i64 k∧Bx (Own wr w.heap.size 3 .i64 v (l.take k))∧Bx (Below w.heap.size w wr)) (fun _ i _=>64 - (intOf i).toNat)
 case atStart=>exact ⟨0,Nat.zero_le _,rfl,⟨Own.nil _ _ _ _⟩,⟨Below.refl _ _⟩⟩
 case round =>
  obtain ⟨k,hk,rfl,hown,hbw⟩:=hrel;by_cases hlt:k<64
  · obtain ⟨x,hx⟩:=zBT Hl hlt;have hr:=Hb.out x (List.mem_of_getElem? hx);have hnext:=Bx.mk (zAA hx);have hik:=fun W:World=>zW (P:=Tryz.prog) 9 Tryz.underlying9 Hby.out (k:=k+1) (x:=x) (by simpa using hx) W
    rw [←HS.out,show ((k+1:Nat):Int)=1+(k:Int) by omega] at hik
    have b3:(0:Int)≤(k:Int):=by omega
    have b4:(k:Int)<64:=by omega
    have hw1:IntKind.i64.wrap (1+(k:Int))=1+(k:Int):=IntWalk.i64_in _ (by omega)
    have hwrap:IntKind.i64.wrap x=x:=IntWalk.i64_in _ (by omega)
    have hle:=hbw.out.size;have Htl:=Bx.mk (show (l.take k).length≤1000000000 by rw [List.length_take];omega)
    clear hx
    go_wp2_with (first
     | (at_builtin
        refine zAF rfl _ _ 26 rfl 3 .i64 (.int .i64 0) 8 (by omega) Tryz.underlying26 (by kernel_rfl) rfl w.heap.size _ (l.take k) rfl (hown.out.alloc _) x ⟨wr.heap.size,0,none⟩ 1 rfl (zH _ _ _) Htl.out (ze hle _) ?_
        intro v1 w1 hown1 hg1 _))
    have hown2:=Bx.mk hown1;rw [←hnext.out] at hown2;have hbw2:=Bx.mk ((hbw.out.alloc hle (.cells #[x] 3)).grown hg1 (ze hle _) (fun g hg=>(hown.out.lt g hg).1));clear hown1 hg1
    go_roundw
    case rel=>exact ⟨k+1,by omega,by go_num,hown2,hbw2⟩
    case measure=>simp [intOf];omega
  · obtain rfl:k=64:=by omega
    have hown2:=hown.out;rw [List.take_of_length_le (by rw [Hl.out];omega)] at hown2
    have Hown:=Bx.mk hown2;clear hown2 hown;go_wp2_with fail;go_ret;exact ⟨_,rfl,Hown.out,hbw.out⟩
theorem zML (f:Pt→Int) : ∀ (n:Nat) (a:Pt),Tr.small n (Tr.can f n a):=by
 have inn : ∀ (n d:Nat) (ch:Fin 8→Tr),(∀ i,Tr.small n (ch i))→Tr.small (n+1) (Tr.mkInner d ch):=by
  intro n d ch h;unfold Tr.mkInner;split
  · rename_i hc;obtain ⟨c,hc⟩:=hc.1;rw [hc];simp [Tr.small]
  · exact h
 intro n
 induction n with
 | zero =>
   intro a;unfold Tr.can Tr.mkBrick;split <;> simp [Tr.small]
 | succ n ih =>
   intro a;unfold Tr.can;exact inn n _ _ (fun i=>ih _)
theorem zCF {f:Pt→Int} (hf : ∀ p,0≤f p∧f p≤255) {n:Nat} (hn:n≤12) (a:Pt):(Tr.enc (Tr.can f n a)).length≤100000000000000:=by
 have h:=Tr.enc_small n _ (zAD hf n a (by omega)) (zML f n a)
 have:8 ^ n≤8 ^ 12:=Nat.pow_le_pow_right (by decide) hn
 omega
def zCM (f:Pt→Int) (a:Pt):List Int:=(List.range 64).map fun k=>f (Tr.cellAt a k)
theorem zCO (f:Pt→Int) (a:Pt):(zCM f a).length=64:=by simp [zCM]
theorem zCN {f:Pt→Int} (hf : ∀ p,0≤f p∧f p≤255) (a:Pt):(zCM f a).all Pal.cell=true:=by
 rw [List.all_eq_true];intro x hx;obtain ⟨k,_,rfl⟩:=List.mem_map.1 hx;rw [Pal.cell_eq];simpa using hf _
theorem zB7 (f:Pt→Int) (a:Pt):Tr.can f 0 a=Tr.mkBrick (zCM f a):=rfl
theorem idx_eq {ax ay az px py pz:Int} (ha:Tr.Al 0 ⟨ax,ay,az⟩) (h:Tr.InC 0 ⟨ax,ay,az⟩ ⟨px,py,pz⟩):16 * (pz - az)+4 * (py - ay)+px - ax=((Tr.idx ⟨px,py,pz⟩:Nat):Int):=by
 obtain ⟨a1,a2,a3⟩:=ha;obtain ⟨h1,h2,h3⟩:=h;simp only [] at a1 a2 a3 h1 h2 h3;have e4:(2:Int) ^ (0+2)=4:=by decide
 rw [e4] at a1 a2 a3 h1 h2 h3;unfold Tr.idx;simp only [];omega
theorem zFN {n:Nat} {ax ay az px py pz m:Int} (hm:m=2 ^ (n+2)) (ha:Tr.Al n ⟨ax,ay,az⟩) (h:Tr.InC n ⟨ax,ay,az⟩ ⟨px,py,pz⟩):(ax≤px∧px<ax+m)∧(ay≤py∧py<ay+m)∧(az≤pz∧pz<az+m):=by
 have:=zX.1 ((zFI hm ha).2 h);exact ⟨⟨this.1,this.2.1⟩,⟨this.2.2.1,this.2.2.2.1⟩,⟨this.2.2.2.2.1,this.2.2.2.2.2⟩⟩
theorem zDB (L:Nat) (hL:L≤14) (w:World) :
 Calls Tryz.prog 27 #[.agg #[(0:Int),(0:Int),(0:Int)],(L:Int)] w fun e w'=>e = .returned (.agg #[(0:Int),(0:Int),(0:Int),.int .i64 (2 ^ L),.int .i64 (2 ^ L),.int .i64 (2 ^ L)])∧Below w.heap.size w w':=by
 have h:=zDA 0 0 0 L hL (by omega) (by omega) (by omega) w
 simpa only [Int.zero_add] using h
theorem zKf (a b c d e f a2 b2 c2 d2 e2 f2:Int) (n:Nat) (hb:Option Addr) (hcp2:Nat) (ys:List Int) (hok:okB ⟨⟨a,b,c⟩,⟨d,e,f⟩⟩=true) (he:zN ⟨⟨a,b,c⟩,⟨d,e,f⟩⟩=false) (hV:zAC ⟨⟨a,b,c⟩,⟨d,e,f⟩⟩=n) (hle:n≤5000) (HX:GoodG ⟨⟨a2,b2,c2⟩,⟨d2,e2,f2⟩⟩ ys hcp2) (w:World) (hsm:Sl w .i64 hb ys) :
 Calls Tryz.prog 95 #[.agg #[a2,b2,c2,d2,e2,f2,.slice hb ys.length hcp2],.agg #[a,b,c,d,e,f]] w fun e' w' => ∃ g cap,e' = .returned (.tuple #[.agg #[a,b,c,d,e,f,.slice (some ⟨g,0,none⟩) n cap],(0:Int)])∧Sl w' .i64 (some ⟨g,0,none⟩) (cellsOf ⟨⟨a,b,c⟩,⟨d,e,f⟩⟩ (zF ⟨⟨a2,b2,c2⟩,⟨d2,e2,f2⟩⟩ ys))∧Below w.heap.size w w':=by
 have hnew:=Bx.mk fun W=>zKr a b c d e f hok he n hV hle W;have hpos:0<n:=by have:=zBR he;omega
 have hpas:=Bx.mk fun (pb po cap:Nat) W (h:Sl W .i64 (some ⟨pb,po,none⟩) (List.replicate n 0)) (h':Sl W .i64 hb ys)=>zKw a b c d e f a2 b2 c2 d2 e2 f2 pb po n cap hb hcp2 ys (zk hok) hV hpos hle HX W h h';have Hsm:=Bx.mk hsm;clear hok he hV HX hsm;generalize cellsOf ⟨⟨a,b,c⟩,⟨d,e,f⟩⟩ (zF ⟨⟨a2,b2,c2⟩,⟨d2,e2,f2⟩⟩ ys)=zs at *;go_enter Tryz.func95,Tryz.ntmps95;go_wp2_with fail;generalize hW:World.alloc (World.alloc (World.alloc w _) _) _=W;have hSz:=sz3 hW;have hB:=bl3 hW;have kg:Bk W (w.heap.size) #[a2,b2,c2,d2,e2,f2,.slice hb ys.length hcp2] 28:=bk2 hW;have kc:Bk W (w.heap.size+1) #[a,b,c,d,e,f] 25:=bk1 hW;have kr:Bk W (w.heap.size+1+1) #[(0:Int),(0:Int),(0:Int),(0:Int),(0:Int),(0:Int),.slice none 0 0] 28:=bk0 hW;clear hW;obtain ⟨cc0,cc1,cc2,cc3,cc4,cc5⟩:=kc.c6;go_wp2_with fail;refine (hnew.out _).mono ?_;rintro _ w1 ⟨g1,cap,rfl,hown,hb1⟩;have Hz:=Bx.mk hown.sl;replace hB:=hB.trans (hb1.mono hB.size);replace kg:=kg.later hb1;replace kc:=kc.later hb1;replace kr:=kr.later hb1;replace hSz:=Nat.le_trans hSz hb1.size;clear hb1;clear cc0 cc1 cc2 cc3 cc4 cc5;clear hown;have cg0 : ∀ o,(w1.alloc o).cell? ⟨w.heap.size,0,none⟩=some (.int .i64 a2):=fun o=>Bk.cell (zE kg) 0 rfl;have cg1 : ∀ o,(w1.alloc o).cell? ⟨w.heap.size,1,none⟩=some (.int .i64 b2):=fun o=>Bk.cell (zE kg) 1 rfl;have cg2 : ∀ o,(w1.alloc o).cell? ⟨w.heap.size,2,none⟩=some (.int .i64 c2):=fun o=>Bk.cell (zE kg) 2 rfl;have cg3 : ∀ o,(w1.alloc o).cell? ⟨w.heap.size,3,none⟩=some (.int .i64 d2):=fun o=>Bk.cell (zE kg) 3 rfl;have cg4 : ∀ o,(w1.alloc o).cell? ⟨w.heap.size,4,none⟩=some (.int .i64 e2):=fun o=>Bk.cell (zE kg) 4 rfl;have cg5 : ∀ o,(w1.alloc o).cell? ⟨w.heap.size,5,none⟩=some (.int .i64 f2):=fun o=>Bk.cell (zE kg) 5 rfl;have cg6 : ∀ o,(w1.alloc o).cell? ⟨w.heap.size,6,none⟩=some (.slice hb ys.length hcp2):=fun o=>Bk.cell (zE kg) 6 rfl;go_wp2_with fail;generalize hW3:World.alloc w1 _=V3;have hb3:=bl1 hW3;have Hz3:=Bx.mk (Hz.out.below hb3);replace hB:=hB.trans (hb3.mono hB.size);replace kg:=kg.later hb3;replace kc:=kc.later hb3;replace kr:=kr.later hb3;replace hSz:=Nat.le_trans hSz hb3.size;clear hb3;clear hW3 cg0 cg1 cg2 cg3 cg4 cg5 cg6 Hz;refine (hpas.out _ _ _ _ Hz3.out (Hsm.out.below hB)).mono ?_;rintro _ w4 ⟨g2,cap2,rfl,hown,hb4⟩;have hg2:=hown.lt g2 rfl;have Hz4:=Bx.mk hown.sl;have hSz4:=hSz;replace hB:=hB.trans (hb4.mono hB.size);replace kg:=kg.later hb4;replace kc:=kc.later hb4;replace kr:=kr.later hb4;replace hSz:=Nat.le_trans hSz hb4.size;clear hb4;obtain ⟨cr0,cr1,cr2,cr3,cr4,cr5,cr6⟩:=kr.c7;obtain ⟨fr0,fr1,fr2,fr3,fr4,fr5,fr6⟩:=kr.f7;clear hown Hz3;go_wp2_with fail;have kr2:=kr.put7 (.int .i64 a) (.int .i64 b) (.int .i64 c) (.int .i64 d) (.int .i64 e) (.int .i64 f) (.slice (some ⟨g2,0,none⟩) n cap2);have hB2:=Bx.mk (zBj hB (show w.heap.size≤w.heap.size+1+1 by omega) (.int .i64 a) (.int .i64 b) (.int .i64 c) (.int .i64 d) (.int .i64 e) (.int .i64 f) (.slice (some ⟨g2,0,none⟩) n cap2))
 have hS2:=Bx.mk (zME Hz4.out (show g2 ≠ w.heap.size+1+1 by omega) (.int .i64 a) (.int .i64 b) (.int .i64 c) (.int .i64 d) (.int .i64 e) (.int .i64 f) (.slice (some ⟨g2,0,none⟩) n cap2))
 obtain ⟨z0,z1,z2,z3,z4,z5,z6⟩:=kr2.c7;exact bodyPost_ret (v:=.tuple #[.agg #[a,b,c,d,e,f,.slice (some ⟨g2,0,none⟩) n cap2],(0:Int)]) (by simp [results,Tryz.results95,go_sem,z0,z1,z2,z3,z4,z5,z6]) rfl ⟨g2,cap2,rfl,hS2.out,hB2.out⟩
end
end Go.Proofs.YtgnfgblkpnfcnaaGreatDoor
