/- Rst, Tw5: joined by program, for one claim. -/
import Derived.Test.YtfcbajmjaifjlaaGreatMr
import Derived.Test.YtfcbajmjaifjlaaGreatM27
import Derived.Test.YtfcbajmjaifjlaaGreatM28
import Derived.Test.YtfcbajmjaifjlaaGreatM21
set_option linter.unusedVariables false
set_option linter.unusedSimpArgs false
namespace Go.Proofs.YtfcbajmjaifjlaaGreat
section
open Go.RowKit Go.Sort Go.Maps
open Oct
theorem index9_any (ax ay az px py pz:Int) (hx:0≤ax∧ax≤px∧px≤100000) (hy:0≤ay∧ay≤py∧py≤100000) (hz:0≤az∧az≤pz∧pz≤100000) (w:World) :
 Calls Tryz.prog 180 #[.agg #[ax,ay,az],.agg #[px,py,pz]] w fun e w'=>e = .returned (.int .i64 (16 * (pz - az)+4 * (py - ay)+px - ax))∧Below w.heap.size w w':=by
 obtain ⟨x1,x2,x3⟩:=hx
 obtain ⟨y1,y2,y3⟩:=hy
 obtain ⟨z1,z2,z3⟩:=hz
 go_enter Tryz.func180,Tryz.ntmps180
 go_wp2_with fail
 go_ret
 exact ⟨rfl,((Below.refl _ _).alloc (Nat.le_refl _) _).alloc (by simp) _⟩
set_option maxRecDepth 100000 in
theorem corner9_any (h:Nat) (hh:h≤14) (px py pz:Int) (i:Nat) (hi:i<8) (hx:0≤px∧px≤100000) (hy:0≤py∧py≤100000) (hz:0≤pz∧pz≤100000) (w:World) :
 Calls Tryz.prog 152 #[.agg #[px,py,pz],.int .i64 ((h:Int)+1),(i:Int)] w fun e w'=>e = .returned (.agg #[.int .i64 (px+chX i (2 ^ h)),.int .i64 (py+chY i (2 ^ h)),.int .i64 (pz+chZ i (2 ^ h))])∧Below w.heap.size w w':=by
 have hsd:=fun W=>side_any h hh W
 have hp:=pow_le hh
 generalize hm:(2:Int) ^ h=m at *
 obtain ⟨bx,by',bz⟩:=ch_bd hi (show 0≤m by omega)
 have e1:(i:Int) % 2 * m=chX i m:=by unfold chX;rw [Int.natCast_emod];rfl
 have e2:(i:Int) / 2 % 2 * m=chY i m:=by unfold chY;rw [Int.natCast_emod,Int.natCast_ediv];rfl
 have e3:(i:Int) / 4 * m=chZ i m:=by unfold chZ;rw [Int.natCast_ediv];rfl
 have w1:IntKind.i64.wrap ((i:Int) % 2 * m)=chX i m:=by rw [e1];exact IntWalk.i64_in _ (by omega)
 have w2:IntKind.i64.wrap ((i:Int) / 2 % 2 * m)=chY i m:=by rw [e2];exact IntWalk.i64_in _ (by omega)
 have w3:IntKind.i64.wrap ((i:Int) / 4 * m)=chZ i m:=by rw [e3];exact IntWalk.i64_in _ (by omega)
 generalize chX i m=cx at *
 generalize chY i m=cy at *
 generalize chZ i m=cz at *
 have hsub:IntKind.i64.wrap ((h:Int)+1 - 1)=(h:Int):=by rw [show (h:Int)+1 - 1=h by omega];exact IntWalk.i64_in _ (by omega)
 have hsd:=Bx.mk hsd
 have b1:(0:Int)≤(i:Int):=by omega
 have b2:(i:Int)<8:=by omega
 have t1:=IntWalk.i64_in (px+cx) (by omega)
 have t2:=IntWalk.i64_in (py+cy) (by omega)
 have t3:=IntWalk.i64_in (pz+cz) (by omega)
 clear hm e1 e2 e3 hx hy hz bx by' bz hi
 go_enter Tryz.func152,Tryz.ntmps152
 go_wp2_with fail
 generalize hW:World.alloc (World.alloc w _) _=W
 have hSz:=sz2 hW
 have hB:=bl2 hW
 have kp:Bk W (w.heap.size) #[px,py,pz] 23:=bk1 hW
 have kr:Bk W (w.heap.size+1) #[(0:Int),(0:Int),(0:Int)] 23:=bk0 hW
 clear hW
 refine (hsd.out _).mono ?_
 rintro _ _ ⟨rfl,rfl⟩
 obtain ⟨cp0,cp1,cp2⟩:=kp.c3
 obtain ⟨cr0,cr1,cr2⟩:=kr.c3
 obtain ⟨fr0,fr1,fr2⟩:=kr.f3
 go_wp2_with fail
 replace kr:=kr.put3 (.int .i64 (px+cx)) (.int .i64 (py+cy)) (.int .i64 (pz+cz))
 exact bodyPost_ret (v:=.agg #[.int .i64 (px+cx),.int .i64 (py+cy),.int .i64 (pz+cz)]) (results_cell_row rfl _ _ (w.heap.size+1) 23 #[.int .i64 (px+cx),.int .i64 (py+cy),.int .i64 (pz+cz)] (0,0) _ rfl kr Tryz.underlying23 rfl (by kernel_rfl)) rfl ⟨rfl,blw3 hB (by omega) _ _ _⟩
theorem inB_inC {n:Nat} {ax ay az m:Int} (hm:m=2 ^ (n+2)) (ha:Tr.Al n ⟨ax,ay,az⟩) {p:Pt}:inB p ⟨⟨ax,ay,az⟩,⟨ax+m,ay+m,az+m⟩⟩=true ↔ Tr.InC n ⟨ax,ay,az⟩ p:=by
 refine ⟨fun h=>?_,fun h=>inC_cube hm ha h⟩
 obtain ⟨a1,a2,a3⟩:=ha
 have hp:=Tr.pow_pos2 n
 rw [←hm] at a1 a2 a3 hp
 simp only [] at a1 a2 a3
 have h:=inB_iff.1 h
 have key : ∀ p a:Int,a % m=0→a≤p→p<a+m→p / m=a / m:=by
  intro p a h2 h3 h4
  have e2:=Int.mul_ediv_add_emod a m
  rw [h2,Int.add_zero] at e2
  obtain ⟨r,hr⟩ : ∃ r,r=p - a:=⟨_,rfl⟩
  have hpe:p=r+m * (a / m):=by omega
  rw [hpe,Int.add_mul_ediv_left _ _ (by omega),Int.ediv_eq_zero_of_lt (by omega) (by omega),Int.zero_add]
 refine ⟨?_,?_,?_⟩
 · show p.x / 2 ^ (n+2)=ax / 2 ^ (n+2);rw [←hm];exact key _ _ a1 h.1 h.2.1
 · show p.y / 2 ^ (n+2)=ay / 2 ^ (n+2);rw [←hm];exact key _ _ a2 h.2.2.1 h.2.2.2.1
 · show p.z / 2 ^ (n+2)=az / 2 ^ (n+2);rw [←hm];exact key _ _ a3 h.2.2.2.2.1 h.2.2.2.2.2
set_option maxRecDepth 100000 in
set_option maxHeartbeats 1000000 in
theorem octant9_any (n:Nat) (hn:n≤11) (ax ay az px py pz:Int) (hal:Tr.Al (n+1) ⟨ax,ay,az⟩) (hin:Tr.InC (n+1) ⟨ax,ay,az⟩ ⟨px,py,pz⟩) (hx:0≤ax∧ax≤16384) (hy:0≤ay∧ay≤16384) (hz:0≤az∧az≤16384) (w:World) :
 Calls Tryz.prog 170 #[.agg #[ax,ay,az],.int .i64 ((n:Int)+3),.agg #[px,py,pz]] w fun e w'=>e = .returned (.int .i64 (Tr.octN n ⟨px,py,pz⟩:Int))∧Below w.heap.size w w':=by
 have hp:=pow_le (show n+2≤14 by omega)
 obtain ⟨m,hm⟩ : ∃ m:Int,m=2 ^ (n+2):=⟨_,rfl⟩
 rw [←hm] at hp
 have hcor:=Bx.mk fun W (k:Nat) (hk:k<8)=>corner9_any (n+2) (by omega) ax ay az k hk (by omega) (by omega) (by omega) W
 have hcub:=Bx.mk fun W (k:Nat) (hk:k<8)=>cube9_any (ax+chX k m) (ay+chY k m) (az+chZ k m) (n+2) (by omega) (by have:=ch_bd hk (show 0≤m by omega);omega) (by have:=ch_bd hk (show 0≤m by omega);omega) (by have:=ch_bd hk (show 0≤m by omega);omega) W
 have hrin:=Bx.mk fun W (k:Nat)=>ref_in px py pz (ax+chX k m) (ay+chY k m) (az+chZ k m) (ax+chX k m+m) (ay+chY k m+m) (az+chZ k m+m) W
 rw [←hm,show ((n+2:Nat):Int)+1=(n:Int)+3 by omega] at hcor
 rw [←hm,show ((n+2:Nat):Int)=(n:Int)+2 by omega] at hcub
 have hdec:=Bx.mk fun (k:Nat) (hk:k<8)=>(show inB ⟨px,py,pz⟩ ⟨⟨ax+chX k m,ay+chY k m,az+chZ k m⟩,⟨ax+chX k m+m,ay+chY k m+m,az+chZ k m+m⟩⟩=true ↔ k=Tr.octN n ⟨px,py,pz⟩ from by
  have hc:=cor_at ax ay az n k
  rw [←hm] at hc
  have hal2:=Tr.al_cor hal k
  rw [hc] at hal2
  rw [inB_inC hm hal2,←hc]
  constructor
  · intro h
    exact congrArg Fin.val (Tr.inC_other (i:=⟨k,hk⟩) hal h).1
  · intro h
    rw [h]
    exact Tr.inC_step hal hin)
 have ho8:=Tr.octN_lt n ⟨px,py,pz⟩
 generalize Tr.octN n ⟨px,py,pz⟩=o at *
 have hsub:IntKind.i64.wrap ((n:Int)+3 - 1)=(n:Int)+2:=by rw [show (n:Int)+3 - 1=(n:Int)+2 by omega];exact IntWalk.i64_in _ (by omega)
 clear hm hal hin hx hy hz hp
 go_enter Tryz.func170,Tryz.ntmps170
 go_wp2_with fail
 generalize hW:World.alloc (World.alloc w _) _=W
 have hB:=bl2 hW
 have ka:Bk W (w.heap.size) #[ax,ay,az] 23:=bk1 hW
 have kp:Bk W (w.heap.size+1) #[px,py,pz] 23:=bk0 hW
 have HI:=Bx.mk (show Bk W (w.heap.size) #[ax,ay,az] 23∧Bk W (w.heap.size+1) #[px,py,pz] 23∧Below w.heap.size w W from ⟨ka,kp,hB⟩)
 clear hW ka kp hB
 go_loopw [7] (fun v7 wr => ∃ k:Nat,k≤o∧v7 = .int .i64 k∧Bx (Bk wr (w.heap.size) #[ax,ay,az] 23∧Bk wr (w.heap.size+1) #[px,py,pz] 23∧Below w.heap.size w wr)) (fun i _=>8 - (intOf i).toNat)
 case atStart=>exact ⟨0,Nat.zero_le _,rfl,HI⟩
 case round =>
  clear HI
  obtain ⟨k,hk,rfl,HI⟩:=hrel
  have t0:decide ((k:Int)<8)=true:=by simp;omega
  have hk8:k<8:=by omega
  have hd:=hdec.out k hk8
  obtain ⟨ca0,ca1,ca2⟩:=HI.out.1.r3
  obtain ⟨cp0,cp1,cp2⟩:=HI.out.2.1.r3
  have q0:=Bx.mk fun dk osk=>Calls.regrown_of (hcor.out (grow (redrawn wr dk) osk) k hk8)
  have q1:=Bx.mk fun dk osk=>Calls.regrown_of (hcub.out (grow (redrawn wr dk) osk) k hk8)
  have q2:=Bx.mk fun dk osk=>Calls.regrown_of (hrin.out (grow (redrawn wr dk) osk) k)
  have Hd:=Bx.mk hd
  clear hd
  generalize hbb:inB ⟨px,py,pz⟩ ⟨⟨ax+chX k m,ay+chY k m,az+chZ k m⟩,⟨ax+chX k m+m,ay+chY k m+m,az+chZ k m+m⟩⟩=bb at *
  clear hbb
  generalize ax+chX k m=x1 at *
  generalize ay+chY k m=y1 at *
  generalize az+chZ k m=z1 at *
  go_wp2_with fail
  refine wp_region_quiet_below (by kernel_rfl) (by kernel_rfl) ?_
  repeat (first | go_big_quiet_step ((first | with_reducible exact q0.out _ _ | with_reducible exact q1.out _ _ | with_reducible exact q2.out _ _)) | quiet_step (first | with_reducible exact q0.out _ _ | with_reducible exact q1.out _ _ | with_reducible exact q2.out _ _))
  refine wpQuiet_nil ?_
  rintro _ ⟨⟨dq,osq⟩,rfl⟩
  have hb0:=below_regrown wr dq osq
  have HI2:=Bx.mk (show Bk (grow (redrawn wr dq) osq) (w.heap.size) #[ax,ay,az] 23∧Bk (grow (redrawn wr dq) osq) (w.heap.size+1) #[px,py,pz] 23∧Below w.heap.size w (grow (redrawn wr dq) osq) from ⟨HI.out.1.later hb0,HI.out.2.1.later hb0,HI.out.2.2.trans (hb0.mono HI.out.2.2.size)⟩)
  clear q0 q1 q2 ca0 ca1 ca2 cp0 cp1 cp2 hb0
  generalize grow (redrawn wr dq) osq=w7 at *
  by_cases he:k=o
  · obtain rfl:bb=true:=Hd.out.2 he
    have He:=Bx.mk he
    clear he
    go_wp2_with fail
    go_ret
    exact ⟨by rw [←He.out];rfl,HI2.out.2.2⟩
  · have hbf:bb=false:=by
     cases hb:bb with
     | false=>rfl
     | true=>exact absurd (Hd.out.1 hb) he
    subst hbf
    go_wp2_with fail
    go_roundw
    case rel=>exact ⟨k+1,by omega,by go_num,HI2⟩
    case measure=>simp [intOf];omega
set_option maxRecDepth 100000 in
set_option maxHeartbeats 2000000 in
theorem cells9_brick (l:List Int) (hl:l.length=64) (hb : ∀ x∈l,0≤x∧x≤255) (w:World) :
 Calls Tryz.prog 168 #[.string (strOfNums (98::l))] w fun e w' => ∃ v,e = .returned v∧Own w' w.heap.size 3 .i64 v l∧Below w.heap.size w w':=by
 have hby:Byt (98::l):=fun x hx=>by
  rcases List.mem_cons.1 hx with rfl | hx
  · omega
  · exact hb x hx
 have Hby:=Bx.mk hby
 have Hl:=Bx.mk hl
 have Hb:=Bx.mk hb
 have hi0:=fun W:World=>idx_str (P:=Tryz.prog) 9 Tryz.underlying9 hby (k:=0) (x:=98) rfl W
 obtain ⟨S,hS⟩ : ∃ S,S=strOfNums (98::l):=⟨_,rfl⟩
 have HS:=Bx.mk hS
 rw [←hS] at hi0 ⊢
 rw [show ((0:Nat):Int)=0 from rfl] at hi0
 clear hl hb hby hS
 go_enter Tryz.func168,Tryz.ntmps168
 go_wp2_with fail
 go_loopw [3,4] (fun v i wr => ∃ k:Nat,k≤64∧i = .int .i64 k∧Bx (Own wr w.heap.size 3 .i64 v (l.take k))∧Bx (Below w.heap.size w wr)) (fun _ i _=>64 - (intOf i).toNat)
 case atStart=>exact ⟨0,Nat.zero_le _,rfl,⟨Own.nil _ _ _ _⟩,⟨Below.refl _ _⟩⟩
 case round =>
  obtain ⟨k,hk,rfl,hown,hbw⟩:=hrel
  by_cases hlt:k<64
  · obtain ⟨x,hx⟩:=at_lt Hl hlt
    have hr:=Hb.out x (List.mem_of_getElem? hx)
    have hnext:=Bx.mk (take_snoc_at hx)
    have hik:=fun W:World=>idx_str (P:=Tryz.prog) 9 Tryz.underlying9 Hby.out (k:=k+1) (x:=x) (by simpa using hx) W
    rw [←HS.out,show ((k+1:Nat):Int)=1+(k:Int) by omega] at hik
    have b3:(0:Int)≤(k:Int):=by omega
    have b4:(k:Int)<64:=by omega
    have hw1:IntKind.i64.wrap (1+(k:Int))=1+(k:Int):=IntWalk.i64_in _ (by omega)
    have hwrap:IntKind.i64.wrap x=x:=IntWalk.i64_in _ (by omega)
    have hle:=hbw.out.size
    have Htl:=Bx.mk (show (l.take k).length≤1000000000 by rw [List.length_take];omega)
    clear hx
    go_wp2_with (first
     | (at_builtin
        refine wpList_append_int rfl _ _ 26 rfl 3 .i64 (.int .i64 0) 8 (by omega) Tryz.underlying26 (by kernel_rfl) rfl w.heap.size _ (l.take k) rfl (hown.out.alloc _) x ⟨wr.heap.size,0,none⟩ 1 rfl (cell_new _ _ _) Htl.out (le_alloc hle _) ?_
        intro v1 w1 hown1 hg1 _))
    have hown2:=Bx.mk hown1
    rw [←hnext.out] at hown2
    have hbw2:=Bx.mk ((hbw.out.alloc hle (.cells #[x] 3)).grown hg1 (le_alloc hle _) (fun g hg=>(hown.out.lt g hg).1))
    clear hown1 hg1
    go_roundw
    case rel=>exact ⟨k+1,by omega,by go_num,hown2,hbw2⟩
    case measure=>simp [intOf];omega
  · obtain rfl:k=64:=by omega
    have hown2:=hown.out
    rw [List.take_of_length_le (by rw [Hl.out];omega)] at hown2
    have Hown:=Bx.mk hown2
    clear hown2 hown
    go_wp2_with fail
    go_ret
    exact ⟨_,rfl,Hown.out,hbw.out⟩
set_option maxRecDepth 100000 in
set_option maxHeartbeats 2000000 in
theorem cells9_uni (c:Int) (hc:0≤c∧c≤255) (w:World) :
 Calls Tryz.prog 168 #[.string (strOfNums [117,c])] w fun e w' => ∃ v,e = .returned v∧Own w' w.heap.size 3 .i64 v (List.replicate 64 c)∧Below w.heap.size w w':=by
 have hby:Byt [117,c]:=fun x hx=>by
  simp only [List.mem_cons,List.not_mem_nil,or_false] at hx
  omega
 have Hl:=Bx.mk (show (List.replicate 64 c).length=64 from List.length_replicate)
 have hi0:=fun W:World=>idx_str (P:=Tryz.prog) 9 Tryz.underlying9 hby (k:=0) (x:=117) rfl W
 have hi1:=fun W:World=>idx_str (P:=Tryz.prog) 9 Tryz.underlying9 hby (k:=1) (x:=c) rfl W
 have hrep:=Bx.mk fun k (hk:k<64)=>(show (List.replicate 64 c)[k]? = some c by rw [List.getElem?_replicate,if_pos hk])
 generalize List.replicate 64 c=l at *
 obtain ⟨S,hS⟩ : ∃ S,S=strOfNums [117,c]:=⟨_,rfl⟩
 have HS:=Bx.mk hS
 rw [←hS] at hi0 hi1 ⊢
 rw [show ((0:Nat):Int)=0 from rfl] at hi0
 rw [show ((1:Nat):Int)=1 from rfl] at hi1
 have hwrap:IntKind.i64.wrap c=c:=IntWalk.i64_in _ (by omega)
 clear hby hS hc
 go_enter Tryz.func168,Tryz.ntmps168
 go_wp2_with fail
 go_loopw [3,4] (fun v i wr => ∃ k:Nat,k≤64∧i = .int .i64 k∧Bx (Own wr w.heap.size 3 .i64 v (l.take k))∧Bx (Below w.heap.size w wr)) (fun _ i _=>64 - (intOf i).toNat)
 case atStart=>exact ⟨0,Nat.zero_le _,rfl,⟨Own.nil _ _ _ _⟩,⟨Below.refl _ _⟩⟩
 case round =>
  obtain ⟨k,hk,rfl,hown,hbw⟩:=hrel
  by_cases hlt:k<64
  · have hnext:=Bx.mk (take_snoc_at (hrep.out k hlt))
    have b3:(0:Int)≤(k:Int):=by omega
    have b4:(k:Int)<64:=by omega
    have hle:=hbw.out.size
    have Htl:=Bx.mk (show (l.take k).length≤1000000000 by rw [List.length_take];omega)
    go_wp2_with (first
     | (at_builtin
        refine wpList_append_int rfl _ _ 26 rfl 3 .i64 (.int .i64 0) 8 (by omega) Tryz.underlying26 (by kernel_rfl) rfl w.heap.size _ (l.take k) rfl (hown.out.alloc _) c ⟨wr.heap.size,0,none⟩ 1 rfl (cell_new _ _ _) Htl.out (le_alloc hle _) ?_
        intro v1 w1 hown1 hg1 _))
    have hown2:=Bx.mk hown1
    rw [←hnext.out] at hown2
    have hbw2:=Bx.mk ((hbw.out.alloc hle (.cells #[c] 3)).grown hg1 (le_alloc hle _) (fun g hg=>(hown.out.lt g hg).1))
    clear hown1 hg1
    go_roundw
    case rel=>exact ⟨k+1,by omega,by go_num,hown2,hbw2⟩
    case measure=>simp [intOf];omega
  · obtain rfl:k=64:=by omega
    have hown2:=hown.out
    rw [List.take_of_length_le (by rw [Hl.out];omega)] at hown2
    have Hown:=Bx.mk hown2
    clear hown2 hown
    go_wp2_with fail
    go_ret
    exact ⟨_,rfl,Hown.out,hbw.out⟩
theorem cells9_mk (xs:List Int) (hn:xs.length=64) (hb:xs.all Pal.cell=true) (w:World) :
 Calls Tryz.prog 168 #[.string (strOfNums (Tr.enc (Tr.mkBrick xs)))] w fun e w' => ∃ v,e = .returned v∧Own w' w.heap.size 3 .i64 v xs∧Below w.heap.size w w':=by
 have hc:=all_cell hb
 unfold Tr.mkBrick
 split
 · rename_i h
   rw [show Tr.enc (.uni (xs.headD 0))=[117,xs.headD 0] by simp [Tr.enc]]
   have:=cells9_uni (xs.headD 0) (hc _ (by cases xs with
    | nil=>simp at hn
    | cons x r=>simp)) w
   rwa [show List.replicate 64 (xs.headD 0)=xs from (List.eq_replicate_iff.2 ⟨hn,h⟩).symm] at this
 · rw [show Tr.enc (.brick xs)=98::xs by simp [Tr.enc]]
   exact cells9_brick xs hn hc w
end
section
open Go.RowKit Go.Sort Go.Maps
open Oct
theorem wr1_cells (B:Box) (f:Pt→Int) (c:Chg):wr1 B (cellsOf B f) c=cellsOf B (Tr.upd f c.at c.n):=by
 unfold wr1
 by_cases h:inB c.at B=true
 · rw [if_pos h]
   have hb:=indexB_bd h
   apply List.ext_getElem?
   intro i
   rw [List.getElem?_set]
   by_cases hi:i<(volB B).toNat
   · obtain ⟨h1,h2⟩:=at_nat hi
     rw [cellsOf_get hi,cellsOf_get hi]
     by_cases e:(indexB B c.at).toNat=i
     · rw [if_pos e,if_pos (by rw [cellsOf_length];omega)]
       have:atB B (i:Int)=c.at:=by rw [←e,Int.toNat_of_nonneg hb.1];exact at_index h
       rw [this,upd_at]
     · rw [if_neg e,upd_off]
       intro e'
       rw [e'] at h2
       omega
   · rw [if_neg (by omega),List.getElem?_eq_none (by rw [cellsOf_length];omega),List.getElem?_eq_none (by rw [cellsOf_length];omega)]
 · rw [if_neg h]
   exact cellsOf_congr fun p hp=>(upd_off (fun e=>h (by rw [←e];exact hp))).symm
abbrev pts (cs:List Chg):List (Pt × Int):=cs.map fun c=>(c.at,c.n)
theorem write_cells {N:Nat} {a:Pt} (h:InT N 0 a) : ∀ (cs:List Chg) (g:Pt→Int),wrL (cube4B a) (inb cs a) (cells64 g a)=cells64 (writeF (pts cs) g) a
 | [],_=>rfl
 | c :: cs, g => by
   have ih:=write_cells h cs (Tr.upd g c.at c.n)
   rw [cells64_of,cells64_of] at *
   show wrL (cube4B a) (inb (c::cs) a) (cellsOf (cube4B a) g)=cellsOf (cube4B a) (writeF (pts cs) (Tr.upd g c.at c.n))
   rw [←ih]
   have hin:inB c.at (cube4B a)=true ↔ Tr.InC 0 a c.at:=inB_inC (n:=0) (m:=4) (by decide) (show Tr.Al 0 ⟨a.x,a.y,a.z⟩ from h.al)
   unfold inb
   rw [List.filter_cons]
   by_cases hc:Tr.InC 0 a c.at
   · rw [if_pos (by simpa using hc)]
     show wrL (cube4B a) _ (wr1 (cube4B a) (cellsOf (cube4B a) g) c)=_
     rw [wr1_cells]
   · rw [if_neg (by simpa using hc)]
     congr 1
     exact cellsOf_congr fun p hp=>(upd_off (fun e=>hc (hin.1 (by rw [←e];exact hp)))).symm
theorem write_off {N n:Nat} {a:Pt} (h:InT N n a) {cs:List Chg} {f:Pt→Int} (hc : ¬touT cs n a):Tr.can (writeF (pts cs) f) n a=Tr.can f n a :=
 Tr.can_congr n a h.al fun p hp=>upds_at _ _ _ fun x hx e=>hc (by
  obtain ⟨c,hc1,rfl⟩:=List.mem_map.1 hx
  exact ⟨c,hc1,by rw [show c.at=p from e];exact hp⟩)
def StayP (lo hi:Nat) (W0 W:World):Prop := ∀ k,lo≤k→k<hi→W.heap[k]? = W0.heap[k]?
theorem own_slc {W:World} {B:Nat} {v:Value} {l:List Chg} (h:W.ownsRow B 96 5 v l.length (ccells l)) : ∃ hc cap,v = .slice hc l.length cap∧l.length≤cap∧SlC W hc l:=by
 have hcell:=fun g (hg:v.ownBlock=some g)=>h.cells hg
 rcases h.2 with ⟨rfl,hn⟩ | ⟨g,cap,cur,rfl,-,-,hc,-⟩
 · exact ⟨none,0,by rw [hn],by omega,fun i c hi=>by rw [List.length_eq_zero_iff.1 hn] at hi;simp at hi⟩
 · refine ⟨_,cap,rfl,hc,fun i c hi=>⟨g,0,rfl,?_⟩⟩
   have hcell:=hcell g rfl
   have key : ∀ (l:List Chg) (i:Nat) (c:Chg) (j:Nat),l[i]? = some c→j<5→(ccells l)[i * 5+j]? = c.cells[j]? := by
    intro l
    induction l with
    | nil=>intro i c j hi;simp at hi
    | cons d r ih =>
      intro i c j hi hj
      show (d.cells++ccells r)[i * 5+j]? = _
      cases i with
      | zero =>
        obtain rfl:=Option.some.inj hi
        rw [Nat.zero_mul,Nat.zero_add,List.getElem?_append_left (by simpa [Chg.cells] using hj)]
      | succ i =>
        rw [List.getElem?_append_right (by simp [Chg.cells];omega)]
        have:=ih i c j hi hj
        rw [show (i+1) * 5+j - d.cells.length=i * 5+j by simp [Chg.cells];omega]
        exact this
   have get : ∀ j u,j<5→c.cells[j]? = some u→W.cell? ⟨g,0+i * 5+j,none⟩=some u:=fun j u hj hu=>by
    have:=hcell (i * 5+j) u ((key l i c j hi hj).trans hu)
    rw [Nat.zero_add]
    by_cases h0:i * 5+j=0
    · rw [h0] at this ⊢; exact this
    · unfold Addr.add at this
      rw [if_neg (by simpa using h0)] at this
      simpa using this
   exact ⟨get 0 _ (by omega) rfl,get 1 _ (by omega) rfl,get 2 _ (by omega) rfl,get 3 _ (by omega) rfl,get 4 _ (by omega) rfl⟩
theorem write_edit {w0 W0:World} {Av:Nat→Prop} {N vt vb tm bm m:Nat} {cs:List Chg} (hN:N≤12) (hC:cs.length≤4194304) (hK:WK w0 Av N vt vb tm bm m (touT cs) cs W0) (sb:Nat) (most:Int) (g:Pt→Int) :
 EditC [] (fun k=>w0.heap.size≤k∧k<W0.heap.size) (StayP w0.heap.size W0.heap.size W0) sb most N g (writeF (pts cs) g) (fun _ _=>True) (touT cs) 117 118
  #[.pointer (some ⟨vt,0,none⟩)] #[.pointer (some ⟨vb,0,none⟩)] (.func (.func 118) #[] #[.pointer (some ⟨vb,0,none⟩)]) where
 vtop:=trivial
 vkid:=fun _ _ _ _ _ _ _=>trivial
 stays:=fun a b hk hp k h1 h2=>by
  have h3:=hp k h1 h2
  have hl:k<a.heap.size:=by
   have hs:W0.heap[k]? = some W0.heap[k]:=Array.getElem?_eq_getElem h2
   rw [hs] at h3
   exact (Array.getElem?_eq_some_iff.1 h3).1
  exact (hk.block k ⟨h1,h2⟩ hl).trans h3
 en:=enters_of Tryz.func117 rfl rfl
 eb:=fun _ _=>⟨rfl,enters_of Tryz.func118 rfl rfl⟩
 node:=fun W Far us n a _ _ hin _ hP hG ht hlen hFar hS=>by
  obtain ⟨b1,b2,b3⟩:=hin.bd hN
  have hle:=hin.le
  obtain ⟨ft,t1,t2⟩:=hK.tmap
  obtain ⟨q1,q2⟩:=t2 n a hle hin.al
  have kt:Bk W vt #[.map (some tm)] 160:=(hP vt hK.ge.1 hK.kt.lt).trans hK.kt
  have hM:=t1.of_block (hP tm hK.ge.2.2.1 t1.lt)
  have hwf : ∀ q∈[a.x,a.y,a.z,(n:Int)+2],(Lit.int .i64 q).wf=true:=fun q hq=>wf_small q (by
   simp only [List.mem_cons,List.not_mem_nil,or_false] at hq
   rcases hq with rfl | rfl | rfl | rfl <;> omega)
  by_cases hc:touT cs n a
  · have h:=write1_any a.x a.y a.z ((n:Int)+2) (idT us (Tr.can g n a):Int) vt tm m ft true hwf (by rw [q1 hc];rfl) W kt hM
    refine h.mono ?_
    rintro e' w' ⟨rfl,hb⟩
    exact ⟨Keeps.below hb,.inr (.inr ⟨hc,⟨_,rfl⟩,hb⟩)⟩
  · have h:=write1_any a.x a.y a.z ((n:Int)+2) (idT us (Tr.can g n a):Int) vt tm m ft false hwf (by rw [q2 hc];rfl) W kt hM
    refine h.mono ?_
    rintro e' w' ⟨rfl,hb⟩
    rw [write_off hin hc]
    exact says_kept ht hS hb
 brick:=fun W B v a hin hu hP hF ho=>by
  obtain ⟨b1,b2,b3⟩:=hin.bd hN
  obtain ⟨g1,cap,rfl,-,-,-,-,-⟩:=ho.at (by rw [cells64_len];decide)
  obtain ⟨fb,m1,m2,m3⟩:=hK.bmap
  have hne:inb cs a ≠ []:=by
   obtain ⟨c,hc,hi⟩:=hu
   exact List.ne_nil_of_mem (List.mem_filter.2 ⟨hc,by simpa using hi⟩)
  obtain ⟨v,q1,q2,q3⟩:=(m2 a hin.al).2 hne
  obtain ⟨hc,hcp,rfl,hcap,hsl⟩:=own_slc q2
  have hlen:(inb cs a).length≤4194304:=Nat.le_trans (List.length_filter_le _ _) hC
  have kb:Bk W vb #[.map (some bm)] 159:=(hP vb hK.ge.2.1 hK.kb.lt).trans hK.kb
  have hM:=m1.of_block (hP bm hK.ge.2.2.2 m1.lt)
  have hs:SlC W hc (inb cs a):=hsl.of_block fun b hb _=>by
   have hob:(Value.slice hc (inb cs a).length hcp).ownBlock=some b:=by
    cases hc with
    | none=>cases hb
    | some ad=>exact hb
   have hl:=World.ownsRow.lt q2 b hob
   exact hP b hl.1 hl.2
  have h:=write_brick a.x a.y a.z b1 b2 b3 vb bm m g1 B cap fb hc hcp (cells64 g a) (inb cs a) (cells64_len _ _) hlen hcap (by rw [q1];rfl) W kb hM hs ho
  rw [show (⟨⟨a.x,a.y,a.z⟩,⟨a.x+4,a.y+4,a.z+4⟩⟩:Box)=cube4B a from rfl,write_cells hin] at h
  exact h
theorem twrite_any {N:Nat} (hN:N≤12) (sb:Nat) (ha:Option Addr) (hcp:Nat) (cs:List Chg) (hC:cs.length≤4194304) (hcap:cs.length≤hcp) (most:Int) (g:Pt→Int) (hg : ∀ p,0≤g p∧g p≤255) (w:World) (hcs:SlC w ha cs) (Far:Nat→Prop) (ts:List Tr) (hG:Good ts) (ht:Tr.can g N ⟨0,0,0⟩∈ts)
 (hok:(∀ c∈cs,okChg N c)→(∀ p,0≤writeF (pts cs) g p∧writeF (pts cs) g p≤255)∧(Tr.add (Tr.can (writeF (pts cs) g) N ⟨0,0,0⟩) ts).length≤4000000) (hFar : ∀ k,Far k→k<w.heap.size) (hS:StoreIs w Far sb most ts) :
 Calls Tryz.prog 52 #[.pointer (some ⟨sb,0,none⟩),(idT ts (Tr.can g N ⟨0,0,0⟩):Int),.int .i64 ((N:Int)+2),.slice ha cs.length hcp] w (WSays (∀ c∈cs,okChg N c) (Done Far sb most ts (Tr.add (Tr.can (writeF (pts cs) g) N ⟨0,0,0⟩) ts) (Tr.can (writeF (pts cs) g) N ⟨0,0,0⟩) w) w):=by
 by_cases hv : ∀ c∈cs,okChg N c
 · obtain ⟨hg',hlen⟩:=hok hv
   refine twrite_walk hN sb _ ha hcp cs hC hcap w hcs _ ⟨fun Av vt vb tm bm m W _ hK=>?_⟩
   refine (change_any hN (write_edit hN hC hK sb most g) hg hg' W (fun x=>Far x∨(w.heap.size≤x∧x<W.heap.size)) (fun k hk=>.inr hk) (fun k _ _=>rfl) ts List.nil_prefix hG ht hlen ?_ ?_).mono ?_
   · intro k hk
     rcases hk with hk | hk
     · exact Nat.lt_of_lt_of_le (hFar k hk) hK.bel.size
     · exact hk.2
   · exact (hS.widen (Far':=fun x=>Far x∨(w.heap.size≤x∧x<W.heap.size)) (fun k hk=>hk.imp (fun h=>h) (fun h=>h.1))).later hK.bel
   · intro e' w' hd
     refine ⟨hd.less (Far:=Far) (Keeps.below hK.bel) (fun k hk=>.inl hk),?_⟩
     obtain ⟨-,-,(⟨-,rfl,-⟩ | ⟨-,rfl,-⟩)⟩:=hd
     · exact ⟨_,_,rfl⟩
     · exact ⟨_,_,rfl⟩
 · refine (twrite_walk hN sb _ ha hcp cs hC hcap w hcs (fun _ _=>True) ⟨fun Av vt vb tm bm m W hv' _=>absurd hv' hv⟩).mono ?_
   intro e' w' h
   exact ⟨fun h'=>absurd h' hv,fun _=>h.bad hv⟩
end
end Go.Proofs.YtfcbajmjaifjlaaGreat
