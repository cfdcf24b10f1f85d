/- Lct: joined by program, for one claim. -/
import Derived.Test.YtgnfgblkpnfcnaaGreatDoorMr
import Derived.Test.YtgnfgblkpnfcnaaGreatDoorM45
import Derived.Test.YtgnfgblkpnfcnaaGreatDoorM22
import Derived.Test.YtgnfgblkpnfcnaaGreatDoorM25
set_option linter.unusedVariables false
set_option linter.unusedSimpArgs false
section
namespace Go.Proofs.YtgnfgblkpnfcnaaGreatDoor
open Go.RowKit Go.Sort Go.Maps
open Oct
attribute [local go_sem] Oper.semAt_some
def NoHit (h:Nat→Nat→Nat→Bool) (n x y z:Nat):Prop := ∀ a b c:Nat,a<n→b<n→c<n→(a<x∨(a=x∧(b<y∨(b=y∧c<z))))→h a b c=false
theorem bk3p {w:World} {g:Nat} {x0 x1 x2:Value} {t:TypeId} (h:Bk w g #[x0,x1,x2] t) (a b c:Value):Bk (((w.setCell ⟨g,0,none⟩ a).setCell ⟨g,1,none⟩ b).setCell ⟨g,2,none⟩ c) g #[a,b,c] t:=by
 simpa using ((h.set 0 a).set 1 b).set 2 c
theorem NoHit.start (h:Nat→Nat→Nat→Bool) (n:Nat):NoHit h n 0 0 0:=fun a b c _ _ _ hl=>by omega
theorem NoHit.z {h:Nat→Nat→Nat→Bool} {n x y z:Nat} (H:NoHit h n x y z) (hz:h x y z=false):NoHit h n x y (z+1):=fun a b c h1 h2 h3 hl=>by
 by_cases e:a=x∧b=y∧c=z
 · obtain ⟨rfl,rfl,rfl⟩:=e;exact hz
 · exact H a b c h1 h2 h3 (by omega)
theorem NoHit.y {h:Nat→Nat→Nat→Bool} {n x y:Nat} (H:NoHit h n x y n):NoHit h n x (y+1) 0:=fun a b c h1 h2 h3 hl=>H a b c h1 h2 h3 (by omega)
theorem NoHit.x {h:Nat→Nat→Nat→Bool} {n x:Nat} (H:NoHit h n x n 0):NoHit h n (x+1) 0 0:=fun a b c h1 h2 h3 hl=>H a b c h1 h2 h3 (by omega)
theorem lvl_hit (s:Int→Bool) (f:Pt→Int) (k:Nat) (p:Pt) (hp:0≤p.x∧0≤p.y∧0≤p.z) :
 ¬NoHit (fun x y z=>s (f ⟨p.x / 2 ^ k * 2 ^ k+(x:Int),p.y / 2 ^ k * 2 ^ k+(y:Int),p.z / 2 ^ k * 2 ^ k+(z:Int)⟩) == s (lvlF s f k ⟨p.x / 2 ^ k,p.y / 2 ^ k,p.z / 2 ^ k⟩)) (2 ^ k) (2 ^ k) 0 0:=by
 intro H
 obtain ⟨q,h1,h2,h3,h4⟩:=lvl_solid s f k ⟨p.x / 2 ^ k,p.y / 2 ^ k,p.z / 2 ^ k⟩
 have hpos:(0:Int)<2 ^ k:=Int.pow_pos (by decide)
 have hc:((2 ^ k:Nat):Int)=(2:Int) ^ k:=by simp
 have key : ∀ a b:Int,b / 2 ^ k=a / 2 ^ k→0≤b - a / 2 ^ k * 2 ^ k∧b - a / 2 ^ k * 2 ^ k<2 ^ k:=fun a b e=>by
  have e1:=Int.mul_ediv_add_emod b (2 ^ k)
  have e2:=Int.emod_nonneg b (show (2:Int) ^ k ≠ 0 by omega)
  have e3:=Int.emod_lt_of_pos b hpos
  rw [e,Int.mul_comm] at e1
  omega
 obtain ⟨x1,x2⟩:=key _ _ h2
 obtain ⟨y1,y2⟩:=key _ _ h3
 obtain ⟨z1,z2⟩:=key _ _ h4
 have h5:=H (q.x - p.x / 2 ^ k * 2 ^ k).toNat (q.y - p.y / 2 ^ k * 2 ^ k).toNat (q.z - p.z / 2 ^ k * 2 ^ k).toNat (by omega) (by omega) (by omega) (.inl (by omega))
 simp only at h5
 rw [Int.toNat_of_nonneg x1,Int.toNat_of_nonneg y1,Int.toNat_of_nonneg z1] at h5
 rw [show (⟨p.x / 2 ^ k * 2 ^ k+(q.x - p.x / 2 ^ k * 2 ^ k),p.y / 2 ^ k * 2 ^ k+(q.y - p.y / 2 ^ k * 2 ^ k),p.z / 2 ^ k * 2 ^ k+(q.z - p.z / 2 ^ k * 2 ^ k)⟩:Pt)=q by cases q;simp only [Pt.mk.injEq];omega,h1] at h5
 simp at h5
set_option maxRecDepth 100000 in
set_option maxHeartbeats 8000000 in
theorem contains_on (kc:List Int) (hk:kc.length=64) (a b c d e f:Int) (ha:Option Addr) (hcp:Nat) (xs:List Int) (hl:xs.length≤300) (N:Nat) (hN:N≤12) (HX:GoodG ⟨⟨a,b,c⟩,⟨d,e,f⟩⟩ xs hcp) (hE:fromE ⟨⟨a,b,c⟩,⟨d,e,f⟩⟩ xs ((N:Int)+2)=0) (hV:validG ⟨⟨a,b,c⟩,⟨d,e,f⟩⟩ xs=true) (hC:emptyB ⟨⟨a,b,c⟩,⟨d,e,f⟩⟩=true∨containsB ⟨⟨0,0,0⟩,⟨2 ^ (N+2),2 ^ (N+2),2 ^ (N+2)⟩⟩ ⟨⟨a,b,c⟩,⟨d,e,f⟩⟩=true)
 (ta:Option Addr) (tc:Nat) (L:List Mat) (hL:L.length≤300) (j:Nat) (hj:j≤3∧j≤N) (px py pz:Int) (hp3:W64 px∧W64 py∧W64 pz) (w:World) (hsl:Sl w .i64 ha xs) (hT:SlM w ta L) (hK:Krow w 1 kc) :
 Calls Tryz.prog 5 #[.agg #[a,b,c,d,e,f,.slice ha xs.length hcp],.int .i64 ((N:Int)+2),.slice ta L.length tc,(j:Int),.agg #[px,py,pz]] w fun E w'=>E = .returned (.bool true)∧Below w.heap.size w w':=by
 have hf:=grid_fn HX hC
 have hfew:=addn_few HX hN
 have hbd:=lvS_bound (s:=solT L) hN hf hfew
 have hG0:=addn_good hN hf good_nil
 have hmem:trF N (cellG ⟨⟨a,b,c⟩,⟨d,e,f⟩⟩ xs)∈addn N (cellG ⟨⟨a,b,c⟩,⟨d,e,f⟩⟩ xs) []:=addn_mem _ _ _
 have HS:=Bx.mk fun W (hb:Below w.heap.size w W)=>sanity12_true kc hk W (krow_below hK hb)
 have hbu:=Bx.mk fun W (h:Sl W .i64 ha xs)=>built12_yes 100000 (by omega) a b c d e f ha hcp xs hl N hN HX hE hV hC W h
 have hpy:=Bx.mk fun W Far sb most st lt tb ft=>lv_Pyramid W Far sb ta tc L (by omega) most (addn N (cellG ⟨⟨a,b,c⟩,⟨d,e,f⟩⟩ xs) []) st lt tb ft hG0 N hN (cellG ⟨⟨a,b,c⟩,⟨d,e,f⟩⟩ xs) hf hmem (by omega)
 have hce:=Bx.mk fun sb most Far A cp W st hs=>lv_Cell_any (solT L) N hN (cellG ⟨⟨a,b,c⟩,⟨d,e,f⟩⟩ xs) hf sb most Far (addn N (cellG ⟨⟨a,b,c⟩,⟨d,e,f⟩⟩ xs) []) hG0 hmem (by omega) A cp (j:Int) px py pz hp3.1 hp3.2.1 hp3.2.2 W st hs
 have hso:=Bx.mk fun W (hb:Below w.heap.size w W) q=>ref_solid ta tc L q (by omega) W (hT.below hb)
 have HG:=Bx.mk fun W (hb:Below w.heap.size w W) qx qy qz=>ref_get a b c d e f qx qy qz ha hcp xs HX W (hsl.below hb)
 have hfits:Bx (Tr.Fits (((addn N (cellG ⟨⟨a,b,c⟩,⟨d,e,f⟩⟩ xs) []).length:Int)+((100000:Nat):Int)) (addn N (cellG ⟨⟨a,b,c⟩,⟨d,e,f⟩⟩ xs) []) (lvS (solT L) N (cellG ⟨⟨a,b,c⟩,⟨d,e,f⟩⟩ xs) (addn N (cellG ⟨⟨a,b,c⟩,⟨d,e,f⟩⟩ xs) []) N)):=⟨.inr (by omega)⟩
 have hid0:Bx (idn (addn N (cellG ⟨⟨a,b,c⟩,⟨d,e,f⟩⟩ xs) []) N (cellG ⟨⟨a,b,c⟩,⟨d,e,f⟩⟩ xs)=lvX (solT L) N (cellG ⟨⟨a,b,c⟩,⟨d,e,f⟩⟩ xs) (addn N (cellG ⟨⟨a,b,c⟩,⟨d,e,f⟩⟩ xs) []) 0):=⟨rfl⟩
 have hcu:Bx (∀ W,Calls Tryz.prog 27 #[.agg #[(0:Int),(0:Int),(0:Int)],.int .i64 ((N:Int)+2)] W fun e w'=>e = .returned (.agg #[(0:Int),(0:Int),(0:Int),.int .i64 (2 ^ (N+2)),.int .i64 (2 ^ (N+2)),.int .i64 (2 ^ (N+2))])∧Below W.heap.size W w'):=⟨fun W=>by
  have:=cube9_zero (N+2) (by omega) W
  rwa [show ((N+2:Nat):Int)=(N:Int)+2 by omega] at this⟩
 have hin:Bx (∀ W,Calls Tryz.prog 26 #[.agg #[px,py,pz],.agg #[(0:Int),(0:Int),(0:Int),.int .i64 (2 ^ (N+2)),.int .i64 (2 ^ (N+2)),.int .i64 (2 ^ (N+2))]] W fun e w'=>e = .returned (.bool (inB ⟨px,py,pz⟩ (cubeB (2 ^ (N+2)))))∧Below W.heap.size W w'):=⟨fun W=>ref_in px py pz 0 0 0 (2 ^ (N+2)) (2 ^ (N+2)) (2 ^ (N+2)) W⟩
 have hat:=Bx.mk fun x y z W=>lv_at12 x y z W
 have Hp3:=Bx.mk hp3
 have HT:=Bx.mk hT
 have hlt:L ≠ [] → ∀ b,ta.map (·.block)=some b→b<w.heap.size:=fun hx b hb=>by
  obtain ⟨m,r,rfl⟩:=List.exists_cons_of_ne_nil hx
  obtain ⟨b',off,h1,h2⟩:=hT 0 m rfl
  rw [h1] at hb
  simp only [Option.map_some,Option.some.injEq] at hb
  rw [←hb]
  exact World.block_lt_of_cell? w _ (h2 0 _ rfl)
 have Hlt:=Bx.mk hlt
 have t0:decide (((L.length:Nat):Int) > 300)=false:=by simp;omega
 have t1:decide ((j:Int)<0)=false:=by simp
 have t2:decide ((j:Int) > 3)=false:=by simp;omega
 have hw:IntKind.i64.wrap ((N:Int)+2 - 2)=(N:Int):=by rw [show (N:Int)+2 - 2=(N:Int) by omega];exact IntWalk.i64_in _ (by omega)
 have hw':IntKind.i64.wrap (N:Int)=(N:Int):=IntWalk.i64_in _ (by omega)
 have t3:decide ((j:Int) > (N:Int))=false:=by simp;omega
 have t3b:decide (N<j)=false:=by simp;omega
 have hSL:=Bx.mk hsl
 have hF:=Bx.mk hf
 clear hK hsl hT hlt HX hE hV hC hl hmem hG0 hbd hfew hp3 hf
 generalize (cellG ⟨⟨a,b,c⟩,⟨d,e,f⟩⟩ xs)=F at *
 generalize xs.length=nl at *
 go_enter Tryz.func5,Tryz.ntmps5
 go_upto_region 1 with fail
 generalize hW:World.alloc (World.alloc w _) _=W
 have hB:=bl2 hW
 have kg:Bk W w.heap.size #[a,b,c,d,e,f,.slice ha nl hcp] 28:=bk1 hW
 have kp:Bk W (w.heap.size+1) #[px,py,pz] 23:=bk0 hW
 clear hW
 go_wp2_with fail
 refine (HS.out _ hB).mono ?_
 rintro _ w1 ⟨rfl,hb⟩
 have HB1:=Bx.mk (hB.trans (hb.mono hB.size))
 have KG1:=Bx.mk (kg.later hb)
 have KP1:=Bx.mk (kp.later hb)
 clear hb HS hB kg kp
 obtain ⟨c0,c1,c2,c3,c4,c5,c6⟩:=KG1.out.c7
 go_wp2_with fail
 refine (hbu.out _ (hSL.out.below HB1.out)).mono ?_
 rintro _ w2 ⟨sb,rfl,st2,hb2⟩
 have HB2:=Bx.mk (HB1.out.trans (hb2.mono HB1.out.size))
 have KG2:=Bx.mk (KG1.out.later hb2)
 have KP2:=Bx.mk (KP1.out.later hb2)
 have ST2:=Bx.mk st2
 have h12:=Bx.mk hb2.size
 have hkg1:=Bx.mk KG1.out.lt
 have hkp1:=Bx.mk KP1.out.lt
 clear hb2 st2 hbu c0 c1 c2 c3 c4 c5 c6 KG1 KP1
 go_upto_region 5 with fail
 clear t0 t1 t2 t3 t3b hw hw'
 obtain ⟨p0,p1,p2⟩:=KP2.out.r3
 have q0:=Bx.mk fun dk osk=>Calls.regrown_of (hat.out 0 0 0 (grow (redrawn w2 dk) osk))
 have q1:=Bx.mk fun dk osk=>Calls.regrown_of (hcu.out (grow (redrawn w2 dk) osk))
 have q2:=Bx.mk fun dk osk=>Calls.regrown_of (hin.out (grow (redrawn w2 dk) osk))
 have HinB:Bx (inB ⟨px,py,pz⟩ (cubeB (2 ^ (N+2)))=true→(0≤px∧px<2 ^ (N+2))∧(0≤py∧py<2 ^ (N+2))∧(0≤pz∧pz<2 ^ (N+2))):=⟨fun h=>by have:=inB_iff.1 h;simp only [cubeB,Pt.zero] at this;omega⟩
 obtain ⟨iv,hiv⟩ : ∃ iv,iv=inB ⟨px,py,pz⟩ (cubeB (2 ^ (N+2))):=⟨_,rfl⟩
 rw [←hiv] at q2 HinB
 have Hiv:=Bx.mk hiv
 obtain ⟨M,hM⟩ : ∃ M:Int,M=2 ^ (N+2):=⟨_,rfl⟩
 rw [←hM] at q1 q2 HinB
 have HM:Bx (M≤16384):=⟨by rw [hM];exact (pow_le (show N+2≤14 by omega)).2⟩
 clear hiv hM hcu hin
 refine wp_region_quiet_below (by kernel_rfl) (by kernel_rfl) ?_
 repeat (first
  | go_big_quiet_step (first | with_reducible exact q0.out _ _ | with_reducible exact q1.out _ _ | with_reducible exact q2.out _ _)
  | quiet_step (first | with_reducible exact q0.out _ _ | with_reducible exact q1.out _ _ | with_reducible exact q2.out _ _))
 refine wpQuiet_nil ?_
 rintro _ ⟨⟨dq,osq⟩,rfl⟩
 have HC3:=Bx.mk (below_regrown w2 dq osq)
 clear p0 p1 p2 q0 q1 q2
 generalize grow (redrawn w2 dq) osq=w3 at *
 have HB3:=Bx.mk (HB2.out.trans (HC3.out.mono HB2.out.size))
 cases iv
 · go_wp2_with fail
   go_ret
   exact ⟨rfl,HB3.out⟩
 · obtain ⟨hx,hy,hz⟩:=HinB.out rfl
   obtain ⟨F4,hF4⟩ : ∃ F4:Nat→Prop,F4=fun x=>x<w1.heap.size∨(w2.heap.size≤x∧x<w3.heap.size):=⟨_,rfl⟩
   have st4:StoreIs w3 F4 sb _ (addn N F []):=(ST2.out.widen (Far':=F4) fun x hx=>by rw [hF4] at hx;exact hx.imp id fun h=>h.1).later HC3.out
   have hpp:=Bx.mk (hpy.out w3 F4 sb _ st4 (fun x hx=>by rw [hF4] at hx;have:=HC3.out.size;have:=h12.out;omega) (HT.out.below HB3.out) (fun h b hb=>by rw [hF4];exact .inl (Nat.lt_of_lt_of_le (Hlt.out h b hb) HB1.out.size)))
   have hF0:Bx (∀ x,x<w1.heap.size→F4 x):=⟨fun x hx=>by rw [hF4];exact .inl hx⟩
   have K3:=Bx.mk (KP2.out.later HC3.out)
   have G3:=Bx.mk (KG2.out.later HC3.out)
   have Hxyz:=Bx.mk (And.intro hx (And.intro hy hz))
   clear st4 hF4 hpy ST2 KP2 HC3 h12 HinB hx hy hz HT Hlt KG2
   unfold idn at hpp
   go_wp2_with fail
   refine hpp.out.mono ?_
   rintro _ w7 ⟨hk7,(⟨-,v7,rfl,own7,st7⟩ | ⟨hft,-⟩)⟩
   rotate_left
   · exact absurd hfits.out hft
   have HB7:=Bx.mk (below_of_keeps HB3.out hk7 fun x hx=>hF0.out x (Nat.lt_of_lt_of_le hx HB1.out.size))
   have KP7:=Bx.mk (K3.out.far hk7 (hF0.out _ hkp1.out))
   have KG7:=Bx.mk (G3.out.far hk7 (hF0.out _ hkg1.out))
   obtain ⟨g7,cap7,rfl,-,-,hcl7,-,-⟩:=own7.at (by simp)
   have hlen7:((List.range (N+1)).map (lvX (solT L) N F (addn N F []))).length=N+1:=by simp
   rw [hlen7] at own7 st7 ⊢
   have O7:=Bx.mk own7
   have ST7:=Bx.mk st7
   have hcl:cellL (solT L) N F (j:Int) ⟨px,py,pz⟩=lvlF (solT L) F j ⟨px / 2 ^ j,py / 2 ^ j,pz / 2 ^ j⟩:=by unfold cellL;rw [if_pos ⟨by omega,by omega,Hiv.out.symm⟩,Int.toNat_natCast]
   rw [hcl] at hce
   have hhit:=Bx.mk (lvl_hit (solT L) F j ⟨px,py,pz⟩ ⟨Hxyz.out.1.1,Hxyz.out.2.1.1,Hxyz.out.2.2.1⟩)
   have hsz:=Bx.mk fun W=>lv_rsize (j:Int) W
   have hsv:sizeV (j:Int)=((2 ^ j:Nat):Int):=by unfold sizeV;rw [if_pos (by omega),Int.toNat_natCast];simp
   rw [hsv] at hsz
   have hm8:1≤2 ^ j∧2 ^ j≤8:=⟨Nat.one_le_two_pow,Nat.pow_le_pow_right (n:=2) (by decide) hj.1⟩
   have hcast:((2 ^ j:Nat):Int)=(2:Int) ^ j:=by simp
   simp only at hhit
   rw [←hcast] at hhit
   obtain ⟨bc,hbc⟩ : ∃ bc,bc=solT L (lvlF (solT L) F j ⟨px / 2 ^ j,py / 2 ^ j,pz / 2 ^ j⟩):=⟨_,rfl⟩
   have Hbc:=Bx.mk hbc
   have hbc2:solT L (lvlF (solT L) F j ⟨px / ((2 ^ j:Nat):Int),py / ((2 ^ j:Nat):Int),pz / ((2 ^ j:Nat):Int)⟩)=bc:=by rw [hcast];exact hbc.symm
   rw [hbc2] at hhit
   generalize lvlF (solT L) F j ⟨px / 2 ^ j,py / 2 ^ j,pz / 2 ^ j⟩=lc at *
   generalize 2 ^ j=m at *
   have hbx:=Hxyz.out
   have hMx:=HM.out
   obtain ⟨qx,hqx⟩ : ∃ q:Int,q=px / (m:Int):=⟨_,rfl⟩
   obtain ⟨qy,hqy⟩ : ∃ q:Int,q=py / (m:Int):=⟨_,rfl⟩
   obtain ⟨qz,hqz⟩ : ∃ q:Int,q=pz / (m:Int):=⟨_,rfl⟩
   rw [←hqx,←hqy,←hqz] at hhit
   have dv : ∀ p q:Int,0≤p→p<M→q=p / (m:Int)→IntKind.i64.wrap (p.tdiv (m:Int))=q∧IntKind.i64.wrap (q * (m:Int))=q * (m:Int)∧0≤q * (m:Int)∧q * (m:Int)≤16384:=fun p q h0 hpM hq=>by
    have h1:0≤p / (m:Int):=Int.ediv_nonneg h0 (by omega)
    have h2:p / (m:Int) * (m:Int)≤p:=Int.ediv_mul_le p (by omega)
    have h3:p / (m:Int)≤p:=Int.ediv_le_self _ h0
    have h4:0≤p / (m:Int) * (m:Int):=Int.mul_nonneg h1 (by omega)
    rw [hq,Int.tdiv_eq_ediv_of_nonneg h0]
    generalize p / (m:Int)=q0 at *
    generalize q0 * (m:Int)=c0 at *
    exact ⟨IntWalk.i64_in _ (by omega),IntWalk.i64_in _ (by omega),h4,by omega⟩
   obtain ⟨dx1,dx2,dx3,dx4⟩:=dv px qx hbx.1.1 hbx.1.2 hqx
   obtain ⟨dy1,dy2,dy3,dy4⟩:=dv py qy hbx.2.1.1 hbx.2.1.2 hqy
   obtain ⟨dz1,dz2,dz3,dz4⟩:=dv pz qz hbx.2.2.1 hbx.2.2.2 hqz
   obtain ⟨cx,hcx⟩ : ∃ q:Int,q=qx * (m:Int):=⟨_,rfl⟩
   obtain ⟨cy,hcy⟩ : ∃ q:Int,q=qy * (m:Int):=⟨_,rfl⟩
   obtain ⟨cz,hcz⟩ : ∃ q:Int,q=qz * (m:Int):=⟨_,rfl⟩
   have Hcx:=Bx.mk (show IntKind.i64.wrap (qx * (m:Int))=cx by rw [hcx];exact dx2)
   rw [←hcx] at dx3 dx4 hhit
   have Hcy:=Bx.mk (show IntKind.i64.wrap (qy * (m:Int))=cy by rw [hcy];exact dy2)
   rw [←hcy] at dy3 dy4 hhit
   have Hcz:=Bx.mk (show IntKind.i64.wrap (qz * (m:Int))=cz by rw [hcz];exact dz2)
   rw [←hcz] at dz3 dz4 hhit
   have Hqx:=Bx.mk dx1
   have Hqy:=Bx.mk dy1
   have Hqz:=Bx.mk dz1
   have Hmz:Bx (¬(m:Int)=0∧((m:Int) == 0)=false ∧ ¬m=0):=⟨by omega,by simp;omega,by omega⟩
   have hadd:Bx (∀ x y z:Nat,x≤8→y≤8→z≤8 → ∀ W,Calls Tryz.prog 29 #[.agg #[cx,cy,cz],.agg #[(x:Int),(y:Int),(z:Int)]] W fun e' w'=>e' = .returned (.agg #[.int .i64 (cx+(x:Int)),.int .i64 (cy+(y:Int)),.int .i64 (cz+(z:Int))])∧Below W.heap.size W w'):=⟨fun x y z hx hy hz W=>ref_add cx cy cz x y z (by omega) (by omega) (by omega) (by omega) (by omega) (by omega) W⟩
   obtain ⟨h,hh⟩ : ∃ h:Nat→Nat→Nat→Bool,h=fun (x y z:Nat)=>solT L (F ⟨cx+(x:Int),cy+(y:Int),cz+(z:Int)⟩) == bc:=⟨_,rfl⟩
   rw [←hh] at hhit
   have Hh:Bx (∀ x y z:Nat,(solT L (F ⟨cx+(x:Int),cy+(y:Int),cz+(z:Int)⟩) == bc)=h x y z):=⟨fun x y z=>by rw [hh]⟩
   have HSL7:Bx (∀ W,Below w7.heap.size w7 W→Sl W .i64 (some ⟨g7,0,none⟩) ((List.range (N+1)).map (lvX (solT L) N F (addn N F [])))):=⟨fun W hb i x hx=>⟨g7,0,rfl,by rw [Nat.zero_add];exact cell_later hb (hcl7 i x hx)⟩⟩
   have hca:=Bx.mk fun W (hb:Below w7.heap.size w7 W)=>hce.out sb _ _ (some ⟨g7,0,none⟩) cap7 W (ST7.out.later hb) (HSL7.out W hb)
   have hsb:=Bx.mk fun W (hb:Below w7.heap.size w7 W) q=>hso.out W (HB7.out.trans (hb.mono HB7.out.size)) q
   have hgt:=Bx.mk fun W (hb:Below w7.heap.size w7 W) qx qy qz=>HG.out W (HB7.out.trans (hb.mono HB7.out.size)) qx qy qz
   have hfin:=Bx.mk fun W (hb:Below w7.heap.size w7 W)=>HB7.out.trans (hb.mono HB7.out.size)
   have Hhit:=hhit
   clear hh hcx hcy hcz hqx hqy hqz dx1 dx2 dy1 dy2 dz1 dz2 dv hbx hMx hbc2 hcast hbc hcl7 own7 st7 HB7 ST7 O7 HSL7 hpp hk7 hF hsv hlen7 hcl Hxyz HM HB3 HB2 HB1 hF0 hkg1 hkp1 K3 G3 hid0 hfits Hiv hSL
   go_wp2_with fail
   refine (hsz.out _).mono ?_
   rintro _ _ ⟨rfl,rfl⟩
   go_upto_region 12 with fail
   refine wp_region_relT 20 (fun ii v w'=>match ii with
    | 0=>v = .pointer (some ⟨w.heap.size+1,0,none⟩)
    | 1=>v = .int .i64 px
    | 2=>v = .int .i64 (m:Int)
    | 3=>v = .int .i64 qx
    | 4=>v = .int .i64 (m:Int)
    | 5=>v = .int .i64 cx
    | 6=>v = .pointer (some ⟨w.heap.size+1,1,none⟩)
    | 7=>v = .int .i64 py
    | 8=>v = .int .i64 (m:Int)
    | 9=>v = .int .i64 qy
    | 10=>v = .int .i64 (m:Int)
    | 11=>v = .int .i64 cy
    | 12=>v = .pointer (some ⟨w.heap.size+1,2,none⟩)
    | 13=>v = .int .i64 pz
    | 14=>v = .int .i64 (m:Int)
    | 15=>v = .int .i64 qz
    | 16=>v = .int .i64 (m:Int)
    | 17=>v = .int .i64 cz
    | 18=>v = .agg #[cx,cy,cz]
    | _ => ∃ g,v = .pointer (some ⟨g,0,none⟩)∧w7.heap.size≤g∧Bk w' g #[(0:Int),(0:Int),(0:Int)] 23) (by kernel_rfl) (by kernel_rfl) 137 (by kernel_rfl) (by rfl) ?_ ?_ ?_
   · intro ii hi v u1 u2 hb h
     match ii,hi with
     | 0,_=>exact h
     | 1,_=>exact h
     | 2,_=>exact h
     | 3,_=>exact h
     | 4,_=>exact h
     | 5,_=>exact h
     | 6,_=>exact h
     | 7,_=>exact h
     | 8,_=>exact h
     | 9,_=>exact h
     | 10,_=>exact h
     | 11,_=>exact h
     | 12,_=>exact h
     | 13,_=>exact h
     | 14,_=>exact h
     | 15,_=>exact h
     | 16,_=>exact h
     | 17,_=>exact h
     | 18,_=>exact h
     | 19,_=>obtain ⟨g2,h1,h2,h3⟩:=h;exact ⟨g2,h1,h2,h3.later hb⟩
     | j+20,hi=>exact absurd hi (by omega)
   · intro ii o hi ho ρ w1 hb hc1 hc2 hc3 hk
     match ii,hi with
     | 0, _ =>
       obtain rfl:=Option.some.inj ho
       have g0:ρ (.tmp 9) = .pointer (some ⟨w.heap.size+1,0,none⟩):=hk 9 (by simp [Op.operands,Call.operands])
       clear hk hb hce hso HG hat hhit
       go_simp
       exact Below.refl _ _
     | 1, _ =>
       obtain rfl:=Option.some.inj ho
       have g0:ρ (.tmp 76) = .pointer (some ⟨w.heap.size+1,0,none⟩):=hk 76 (by simp [Op.operands,Call.operands])
       have k1:=KP7.out.later hb
       have z0:=k1.cell 0 rfl
       clear hk hb hce hso HG hat hhit
       go_simp
       exact Below.refl _ _
     | 2, _ =>
       obtain rfl:=Option.some.inj ho
       have g0:ρ (.tmp 18) = .int .i64 (m:Int):=hk 18 (by simp [Op.operands,Call.operands])
       clear hk hb hce hso HG hat hhit
       go_simp
       exact Below.refl _ _
     | 3, _ =>
       obtain rfl:=Option.some.inj ho
       have g0:ρ (.tmp 77) = .int .i64 px:=hk 77 (by simp [Op.operands,Call.operands])
       have g1:ρ (.tmp 78) = .int .i64 (m:Int):=hk 78 (by simp [Op.operands,Call.operands])
       have h1:=Hqx.out
       have h2:=Hmz.out.1
       have h3:=Hmz.out.2.1
       have h5:=Hmz.out.2.2
       clear hk hb hce hso HG hat hhit
       go_simp
       exact Below.refl _ _
     | 4, _ =>
       obtain rfl:=Option.some.inj ho
       have g0:ρ (.tmp 18) = .int .i64 (m:Int):=hk 18 (by simp [Op.operands,Call.operands])
       clear hk hb hce hso HG hat hhit
       go_simp
       exact Below.refl _ _
     | 5, _ =>
       obtain rfl:=Option.some.inj ho
       have g0:ρ (.tmp 79) = .int .i64 qx:=hk 79 (by simp [Op.operands,Call.operands])
       have g1:ρ (.tmp 80) = .int .i64 (m:Int):=hk 80 (by simp [Op.operands,Call.operands])
       have h1:=Hcx.out
       clear hk hb hce hso HG hat hhit
       go_simp
       exact Below.refl _ _
     | 6, _ =>
       obtain rfl:=Option.some.inj ho
       have g0:ρ (.tmp 9) = .pointer (some ⟨w.heap.size+1,0,none⟩):=hk 9 (by simp [Op.operands,Call.operands])
       clear hk hb hce hso HG hat hhit
       go_simp
       exact Below.refl _ _
     | 7, _ =>
       obtain rfl:=Option.some.inj ho
       have g0:ρ (.tmp 82) = .pointer (some ⟨w.heap.size+1,1,none⟩):=hk 82 (by simp [Op.operands,Call.operands])
       have k1:=KP7.out.later hb
       have z1:=k1.cell 1 rfl
       clear hk hb hce hso HG hat hhit
       go_simp
       exact Below.refl _ _
     | 8, _ =>
       obtain rfl:=Option.some.inj ho
       have g0:ρ (.tmp 18) = .int .i64 (m:Int):=hk 18 (by simp [Op.operands,Call.operands])
       clear hk hb hce hso HG hat hhit
       go_simp
       exact Below.refl _ _
     | 9, _ =>
       obtain rfl:=Option.some.inj ho
       have g0:ρ (.tmp 83) = .int .i64 py:=hk 83 (by simp [Op.operands,Call.operands])
       have g1:ρ (.tmp 84) = .int .i64 (m:Int):=hk 84 (by simp [Op.operands,Call.operands])
       have h1:=Hqy.out
       have h2:=Hmz.out.1
       have h3:=Hmz.out.2.1
       have h5:=Hmz.out.2.2
       clear hk hb hce hso HG hat hhit
       go_simp
       exact Below.refl _ _
     | 10, _ =>
       obtain rfl:=Option.some.inj ho
       have g0:ρ (.tmp 18) = .int .i64 (m:Int):=hk 18 (by simp [Op.operands,Call.operands])
       clear hk hb hce hso HG hat hhit
       go_simp
       exact Below.refl _ _
     | 11, _ =>
       obtain rfl:=Option.some.inj ho
       have g0:ρ (.tmp 85) = .int .i64 qy:=hk 85 (by simp [Op.operands,Call.operands])
       have g1:ρ (.tmp 86) = .int .i64 (m:Int):=hk 86 (by simp [Op.operands,Call.operands])
       have h1:=Hcy.out
       clear hk hb hce hso HG hat hhit
       go_simp
       exact Below.refl _ _
     | 12, _ =>
       obtain rfl:=Option.some.inj ho
       have g0:ρ (.tmp 9) = .pointer (some ⟨w.heap.size+1,0,none⟩):=hk 9 (by simp [Op.operands,Call.operands])
       clear hk hb hce hso HG hat hhit
       go_simp
       exact Below.refl _ _
     | 13, _ =>
       obtain rfl:=Option.some.inj ho
       have g0:ρ (.tmp 88) = .pointer (some ⟨w.heap.size+1,2,none⟩):=hk 88 (by simp [Op.operands,Call.operands])
       have k1:=KP7.out.later hb
       have z2:=k1.cell 2 rfl
       clear hk hb hce hso HG hat hhit
       go_simp
       exact Below.refl _ _
     | 14, _ =>
       obtain rfl:=Option.some.inj ho
       have g0:ρ (.tmp 18) = .int .i64 (m:Int):=hk 18 (by simp [Op.operands,Call.operands])
       clear hk hb hce hso HG hat hhit
       go_simp
       exact Below.refl _ _
     | 15, _ =>
       obtain rfl:=Option.some.inj ho
       have g0:ρ (.tmp 89) = .int .i64 pz:=hk 89 (by simp [Op.operands,Call.operands])
       have g1:ρ (.tmp 90) = .int .i64 (m:Int):=hk 90 (by simp [Op.operands,Call.operands])
       have h1:=Hqz.out
       have h2:=Hmz.out.1
       have h3:=Hmz.out.2.1
       have h5:=Hmz.out.2.2
       clear hk hb hce hso HG hat hhit
       go_simp
       exact Below.refl _ _
     | 16, _ =>
       obtain rfl:=Option.some.inj ho
       have g0:ρ (.tmp 18) = .int .i64 (m:Int):=hk 18 (by simp [Op.operands,Call.operands])
       clear hk hb hce hso HG hat hhit
       go_simp
       exact Below.refl _ _
     | 17, _ =>
       obtain rfl:=Option.some.inj ho
       have g0:ρ (.tmp 91) = .int .i64 qz:=hk 91 (by simp [Op.operands,Call.operands])
       have g1:ρ (.tmp 92) = .int .i64 (m:Int):=hk 92 (by simp [Op.operands,Call.operands])
       have h1:=Hcz.out
       clear hk hb hce hso HG hat hhit
       go_simp
       exact Below.refl _ _
     | 18, _ =>
       obtain rfl:=Option.some.inj ho
       have g0:ρ (.tmp 81) = .int .i64 cx:=hk 81 (by simp [Op.operands,Call.operands])
       have g1:ρ (.tmp 87) = .int .i64 cy:=hk 87 (by simp [Op.operands,Call.operands])
       have g2:ρ (.tmp 93) = .int .i64 cz:=hk 93 (by simp [Op.operands,Call.operands])
       have h4:=hat.out cx cy cz w1
       have H4:=Bx.mk h4
       clear h4
       clear hk hb hce hso HG hat hhit
       go_simp
       all_goals exact H4.out
     | 19, _ =>
       obtain rfl:=Option.some.inj ho
       have hbs:=hb.size
       have Hn:=Bx.mk (show Bk (w1.alloc (.cells #[(0:Int),(0:Int),(0:Int)] 23)) w1.heap.size #[(0:Int),(0:Int),(0:Int)] 23 from Bk.new _ _ _)
       clear hk hb hce hso HG hat hhit
       go_simp
       exact ⟨(Below.refl _ _).alloc (Nat.le_refl _) _,Hn.out⟩
     | j+20,hi=>exact absurd hi (by omega)
   · intro vs W1 hlen hb hR
     match vs,hlen with
     | [v0,v1,v2,v3,v4,v5,v6,v7,v8,v9,v10,v11,v12,v13,v14,v15,v16,v17,v18,v19],_ =>
     have r0:v0 = .pointer (some ⟨w.heap.size+1,0,none⟩):=hR 0 v0 rfl
     have r1:v1 = .int .i64 px:=hR 1 v1 rfl
     have r2:v2 = .int .i64 (m:Int):=hR 2 v2 rfl
     have r3:v3 = .int .i64 qx:=hR 3 v3 rfl
     have r4:v4 = .int .i64 (m:Int):=hR 4 v4 rfl
     have r5:v5 = .int .i64 cx:=hR 5 v5 rfl
     have r6:v6 = .pointer (some ⟨w.heap.size+1,1,none⟩):=hR 6 v6 rfl
     have r7:v7 = .int .i64 py:=hR 7 v7 rfl
     have r8:v8 = .int .i64 (m:Int):=hR 8 v8 rfl
     have r9:v9 = .int .i64 qy:=hR 9 v9 rfl
     have r10:v10 = .int .i64 (m:Int):=hR 10 v10 rfl
     have r11:v11 = .int .i64 cy:=hR 11 v11 rfl
     have r12:v12 = .pointer (some ⟨w.heap.size+1,2,none⟩):=hR 12 v12 rfl
     have r13:v13 = .int .i64 pz:=hR 13 v13 rfl
     have r14:v14 = .int .i64 (m:Int):=hR 14 v14 rfl
     have r15:v15 = .int .i64 qz:=hR 15 v15 rfl
     have r16:v16 = .int .i64 (m:Int):=hR 16 v16 rfl
     have r17:v17 = .int .i64 cz:=hR 17 v17 rfl
     have r18:v18 = .agg #[cx,cy,cz]:=hR 18 v18 rfl
     have r19x:=hR 19 v19 rfl
     clear hR
     subst r0 r1 r2 r3 r4 r5 r6 r7 r8 r9 r10 r11 r12 r13 r14 r15 r16 r17 r18
     obtain ⟨gc,rfl,hgc,kr⟩:=r19x
     have cr0:=kr.cell 0 rfl;have cr1:=kr.cell 1 rfl;have cr2:=kr.cell 2 rfl
     have fr0:=kr.frozen 0;have fr1:=kr.frozen 1;have fr2:=kr.frozen 2
     simp only [puts,List.take_succ_cons,List.take_zero,List.drop_succ_cons,List.drop_zero,List.map_cons,List.map_nil,List.zip_cons_cons,List.zip_nil_right,List.foldl_cons,List.foldl_nil]
     go_upto_region 13 with fail
     generalize hW3:World.setCell (World.setCell (World.setCell W1 _ _) _ _) _ _=w8
     have KC:Bk w8 gc #[cx,cy,cz] 23:=by rw [←hW3];exact bk3p kr _ _ _
     have HB8:=Bx.mk (show Below w7.heap.size w7 w8 by rw [←hW3];exact blw3 hb hgc _ _ _)
     clear cr0 cr1 cr2 fr0 fr1 fr2 hW3 kr
     have k8:=KP7.out.later HB8.out
     obtain ⟨z0,z1,z2⟩:=k8.c3
     replace KC:=Bx.mk KC
     clear k8 hb hgc
     go_wp2_with fail
     refine (hca.out _ HB8.out).mono ?_
     rintro _ w9 ⟨rfl,hb9⟩
     have HB9:=Bx.mk (HB8.out.trans (hb9.mono HB8.out.size))
     have KC9:=Bx.mk (KC.out.later hb9)
     have hs9:=hsb.out w9 HB9.out lc
     rw [←Hbc.out] at hs9
     replace hs9:=Bx.mk hs9
     clear hb9 KC HB8 z0 z1 z2 hca
     go_wp2_with fail
     refine hs9.out.mono ?_
     rintro _ w10 ⟨rfl,hb10⟩
     have HJ:=Bx.mk (show Below w7.heap.size w7 w10∧Bk w10 gc #[cx,cy,cz] 23 from ⟨HB9.out.trans (hb10.mono HB9.out.size),KC9.out.later hb10⟩)
     clear hb10 hs9 HB9 KC9
     go_wp2_with fail
     go_loopw [21,22] (fun v21 v22 wr => ∃ (x:Nat) (fd:Bool),x≤m∧v22 = .int .i64 x∧v21 = .bool fd∧Bx (fd=false→NoHit h m x 0 0)∧Bx (Below w7.heap.size w7 wr∧Bk wr gc #[cx,cy,cz] 23)) (fun _ i _=>m - (intOf i).toNat)
     case atStart=>exact ⟨0,false,Nat.zero_le _,rfl,rfl,⟨fun _=>NoHit.start h m⟩,HJ⟩
     case round =>
      clear HJ
      obtain ⟨x,fd,hx,rfl,rfl,HN,HI⟩:=hrel
      by_cases hlx:x<m
      · have t1:decide ((x:Int)<(m:Int))=true:=by simp;omega
        have t1b:decide (x<m)=true:=by simpa using hlx
        go_wp2_with fail
        clear t1 t1b
        go_loopw [21,23] (fun v21 v23 wr => ∃ (y:Nat) (fd:Bool),y≤m∧v23 = .int .i64 y∧v21 = .bool fd∧Bx (fd=false→NoHit h m x y 0)∧Bx (Below w7.heap.size w7 wr∧Bk wr gc #[cx,cy,cz] 23)) (fun _ i _=>m - (intOf i).toNat)
        case atStart=>exact ⟨0,fd,Nat.zero_le _,rfl,rfl,HN,HI⟩
        case round =>
         clear HI HN
         obtain ⟨y,fd2,hy,rfl,rfl,HN,HI⟩:=hrel
         by_cases hly:y<m
         · have t1:decide ((y:Int)<(m:Int))=true:=by simp;omega
           have t1b:decide (y<m)=true:=by simpa using hly
           go_wp2_with fail
           clear t1 t1b
           go_loopw [21,24] (fun v21 v24 wr => ∃ (z:Nat) (fd:Bool),z≤m∧v24 = .int .i64 z∧v21 = .bool fd∧Bx (fd=false→NoHit h m x y z)∧Bx (Below w7.heap.size w7 wr∧Bk wr gc #[cx,cy,cz] 23)) (fun _ i _=>m - (intOf i).toNat)
           case atStart=>exact ⟨0,fd2,Nat.zero_le _,rfl,rfl,HN,HI⟩
           case round =>
            clear HI HN
            obtain ⟨z,fd3,hz,rfl,rfl,HN,HI⟩:=hrel
            by_cases hlz:z<m
            · have t1:decide ((z:Int)<(m:Int))=true:=by simp;omega
              have t1b:decide (z<m)=true:=by simpa using hlz
              have KC:=Bx.mk HI.out.2
              have HB:=Bx.mk HI.out.1
              clear HI
              go_upto_region 24 with fail
              clear t1 t1b
              refine wp_region_relT 7 (fun ii v w'=>match ii with
               | 0=>v = .agg #[cx,cy,cz]
               | 1=>v = .int .i64 (x:Int)
               | 2=>v = .int .i64 (y:Int)
               | 3=>v = .int .i64 (z:Int)
               | 4=>v = .agg #[(x:Int),(y:Int),(z:Int)]
               | 5=>v = .agg #[.int .i64 (cx+(x:Int)),.int .i64 (cy+(y:Int)),.int .i64 (cz+(z:Int))]
               | _ => ∃ g,v = .pointer (some ⟨g,0,none⟩)∧wr.heap.size≤g∧Bk w' g #[(0:Int),(0:Int),(0:Int)] 23) (by kernel_rfl) (by kernel_rfl) 137 (by kernel_rfl) (by rfl) ?_ ?_ ?_
              · intro ii hi v u1 u2 hb h
                match ii,hi with
                | 0,_=>exact h
                | 1,_=>exact h
                | 2,_=>exact h
                | 3,_=>exact h
                | 4,_=>exact h
                | 5,_=>exact h
                | 6,_=>obtain ⟨g2,h1,h2,h3⟩:=h;exact ⟨g2,h1,h2,h3.later hb⟩
              · intro ii o hi ho ρ w1 hb hc1 hc2 hc3 hk
                match ii,hi with
                | 0, _ =>
                  obtain rfl:=Option.some.inj ho
                  have g0:ρ (.tmp 19) = .pointer (some ⟨gc,0,none⟩):=hk 19 (by simp [Op.operands,Call.operands])
                  have k1:=KC.out.later hb
                  obtain ⟨z0,z1,z2⟩:=k1.c3
                  clear hk hb hso HG hat hadd Hh Hhit
                  go_simp
                  exact Below.refl _ _
                | 1, _ =>
                  obtain rfl:=Option.some.inj ho
                  have g0:ρ (.tmp 22) = .int .i64 (x:Int):=hk 22 (by simp [Op.operands,Call.operands])
                  clear hk hb hso HG hat hadd Hh Hhit
                  go_simp
                  exact Below.refl _ _
                | 2, _ =>
                  obtain rfl:=Option.some.inj ho
                  have g0:ρ (.tmp 23) = .int .i64 (y:Int):=hk 23 (by simp [Op.operands,Call.operands])
                  clear hk hb hso HG hat hadd Hh Hhit
                  go_simp
                  exact Below.refl _ _
                | 3, _ =>
                  obtain rfl:=Option.some.inj ho
                  have g0:ρ (.tmp 24) = .int .i64 (z:Int):=hk 24 (by simp [Op.operands,Call.operands])
                  clear hk hb hso HG hat hadd Hh Hhit
                  go_simp
                  exact Below.refl _ _
                | 4, _ =>
                  obtain rfl:=Option.some.inj ho
                  have g0:ρ (.tmp 118) = .int .i64 (x:Int):=hk 118 (by simp [Op.operands,Call.operands])
                  have g1:ρ (.tmp 119) = .int .i64 (y:Int):=hk 119 (by simp [Op.operands,Call.operands])
                  have g2:ρ (.tmp 120) = .int .i64 (z:Int):=hk 120 (by simp [Op.operands,Call.operands])
                  have h4:=hat.out (x:Int) (y:Int) (z:Int) w1
                  have H4:=Bx.mk h4
                  clear h4
                  clear hk hb hso HG hat hadd Hh Hhit
                  go_simp
                  all_goals exact H4.out
                | 5, _ =>
                  obtain rfl:=Option.some.inj ho
                  have g0:ρ (.tmp 117) = .agg #[cx,cy,cz]:=hk 117 (by simp [Op.operands,Call.operands])
                  have g1:ρ (.tmp 121) = .agg #[(x:Int),(y:Int),(z:Int)]:=hk 121 (by simp [Op.operands,Call.operands])
                  have h4:=hadd.out x y z (by omega) (by omega) (by omega) w1
                  have H4:=Bx.mk h4
                  clear h4
                  clear hk hb hso HG hat hadd Hh Hhit
                  go_simp
                  all_goals exact H4.out
                | 6, _ =>
                  obtain rfl:=Option.some.inj ho
                  have hbs:=hb.size
                  have Hn:=Bx.mk (show Bk (w1.alloc (.cells #[(0:Int),(0:Int),(0:Int)] 23)) w1.heap.size #[(0:Int),(0:Int),(0:Int)] 23 from Bk.new _ _ _)
                  clear hk hb hso HG hat hadd Hh Hhit
                  go_simp
                  exact ⟨(Below.refl _ _).alloc (Nat.le_refl _) _,Hn.out⟩
              · intro vs W1 hlen hb hR
                match vs,hlen with
                | [v0,v1,v2,v3,v4,v5,v6],_ =>
                have r0:v0 = .agg #[cx,cy,cz]:=hR 0 v0 rfl
                have r1:v1 = .int .i64 (x:Int):=hR 1 v1 rfl
                have r2:v2 = .int .i64 (y:Int):=hR 2 v2 rfl
                have r3:v3 = .int .i64 (z:Int):=hR 3 v3 rfl
                have r4:v4 = .agg #[(x:Int),(y:Int),(z:Int)]:=hR 4 v4 rfl
                have r5:v5 = .agg #[.int .i64 (cx+(x:Int)),.int .i64 (cy+(y:Int)),.int .i64 (cz+(z:Int))]:=hR 5 v5 rfl
                have r6x:=hR 6 v6 rfl
                clear hR
                subst r0 r1 r2 r3 r4 r5
                obtain ⟨gq,rfl,hgq,kr⟩:=r6x
                have cr0:=kr.cell 0 rfl;have cr1:=kr.cell 1 rfl;have cr2:=kr.cell 2 rfl
                have fr0:=kr.frozen 0;have fr1:=kr.frozen 1;have fr2:=kr.frozen 2
                simp only [puts,List.take_succ_cons,List.take_zero,List.drop_succ_cons,List.drop_zero,List.map_cons,List.map_nil,List.zip_cons_cons,List.zip_nil_right,List.foldl_cons,List.foldl_nil]
                go_upto_region 25 with fail
                generalize hW3:World.setCell (World.setCell (World.setCell W1 _ _) _ _) _ _=w8
                have KQ:Bk w8 gq #[.int .i64 (cx+(x:Int)),.int .i64 (cy+(y:Int)),.int .i64 (cz+(z:Int))] 23:=by rw [←hW3];exact bk3p kr _ _ _
                have hb8:Below wr.heap.size wr w8:=by rw [←hW3];exact blw3 hb hgq _ _ _
                have HB8:=Bx.mk (HB.out.trans (hb8.mono HB.out.size))
                have KC8:=Bx.mk (KC.out.later hb8)
                clear cr0 cr1 cr2 fr0 fr1 fr2 hW3 kr hb8 hb hgq
                cases fd3 with
                | true =>
                  clear KQ
                  go_wp2_with fail
                  go_roundw
                  case rel=>exact ⟨z+1,true,by omega,by go_num,rfl,⟨fun h=>by cases h⟩,HB8.out,KC8.out⟩
                  case measure=>simp [intOf];omega
                | false =>
                  have k8:=KG7.out.later HB8.out
                  obtain ⟨z0,z1,z2,z3,z4,z5,z6⟩:=k8.c7
                  obtain ⟨y0,y1,y2⟩:=KQ.c3
                  have hg1:=Bx.mk (hgt.out w8 HB8.out (cx+(x:Int)) (cy+(y:Int)) (cz+(z:Int)))
                  clear k8 KQ
                  go_wp2_with fail
                  refine hg1.out.mono ?_
                  rintro _ w9 ⟨rfl,hb9⟩
                  have HB9:=Bx.mk (HB8.out.trans (hb9.mono HB8.out.size))
                  have KC9:=Bx.mk (KC8.out.later hb9)
                  have hs1:=Bx.mk (hsb.out w9 HB9.out (F ⟨cx+(x:Int),cy+(y:Int),cz+(z:Int)⟩))
                  clear z0 z1 z2 z3 z4 z5 z6 y0 y1 y2 hb9 hg1 HB8 KC8
                  have hhx:=Hh.out x y z
                  obtain ⟨hv,hhv⟩ : ∃ b,b=h x y z:=⟨_,rfl⟩
                  rw [←hhv] at hhx
                  have Hhv:=Bx.mk hhv
                  clear hhv
                  generalize solT L (F ⟨cx+(x:Int),cy+(y:Int),cz+(z:Int)⟩)=bs at *
                  go_wp2_with fail
                  refine hs1.out.mono ?_
                  rintro _ w10 ⟨rfl,hb10⟩
                  have HJ:=Bx.mk (show Below w7.heap.size w7 w10∧Bk w10 gc #[cx,cy,cz] 23 from ⟨HB9.out.trans (hb10.mono HB9.out.size),KC9.out.later hb10⟩)
                  clear hb10 HB9 KC9 hs1
                  have HN2:Bx (hv=false→NoHit h m x y (z+1)):=⟨fun e=>(HN.out (by first | rfl | trivial)).z (by rw [←Hhv.out];exact e)⟩
                  clear HN Hhv
                  go_wp2_with fail
                  go_roundw
                  case rel=>exact ⟨z+1,hv,by omega,by go_num,rfl,HN2,HJ⟩
                  case measure=>simp [intOf];omega
            · obtain rfl:z=m:=by omega
              have t1:decide ((z:Int)<(z:Int))=false:=by simp
              have t1b:decide (z<z)=false:=by simp
              go_wp2_with fail
              go_roundw
              case rel=>exact ⟨y+1,fd3,by omega,by go_num,rfl,⟨fun e=>(HN.out e).y⟩,HI⟩
              case measure=>simp [intOf];omega
         · obtain rfl:y=m:=by omega
           have t1:decide ((y:Int)<(y:Int))=false:=by simp
           have t1b:decide (y<y)=false:=by simp
           go_wp2_with fail
           go_roundw
           case rel=>exact ⟨x+1,fd2,by omega,by go_num,rfl,⟨fun e=>(HN.out e).x⟩,HI⟩
           case measure=>simp [intOf];omega
      · obtain rfl:x=m:=by omega
        have t1:decide ((x:Int)<(x:Int))=false:=by simp
        have t1b:decide (x<x)=false:=by simp
        cases fd with
        | false=>exact absurd (HN.out (by first | rfl | trivial)) Hhit.out
        | true =>
          go_wp2_with fail
          go_ret
          exact ⟨rfl,hfin.out _ HI.out.1⟩
theorem contains_true (kc:List Int) (hk:kc.length=64) (a b c d e f dd kk px py pz:Int) (ha:Option Addr) (hcp:Nat) (xs:List Int) (hcap:xs.length≤hcp) (ta:Option Addr) (tc:Nat) (L:List Mat) (_hL:L.length≤9223372036854775807) (w:World) (hsl:Sl w .i64 ha xs) (hT:SlM w ta L) (hK:Krow w 1 kc) (hp:W64 px∧W64 py∧W64 pz) :
 Calls Tryz.prog 5 #[.agg #[a,b,c,d,e,f,.slice ha xs.length hcp],dd,.slice ta L.length tc,kk,.agg #[px,py,pz]] w fun E w'=>E = .returned (.bool true)∧Below w.heap.size w w':=by
 have hb:=fun bi hbi=>built12_any a b c d e f dd 100000 ha hcp xs hcap (by omega) w hsl bi hbi
 by_cases h:xs.length≤300∧fromE ⟨⟨a,b,c⟩,⟨d,e,f⟩⟩ xs dd=0
 · obtain ⟨h1,h2⟩:=h
   obtain ⟨n,hn,rfl,hV,hC⟩:=fromE_zero h2
   have hbt:=hb true (decide_eq_true ⟨h1,h2⟩).symm
   have hd2:2≤(n:Int)+2∧(n:Int)+2≤14:=by omega
   by_cases h3:L.length≤300
   · by_cases h4:kk<0
     · exact lc_off kc hk a b c d e f _ ha hcp xs.length ta L.length tc kk px py pz w hK true hbt (.inr (.inr (.inl ⟨rfl,h3,h4⟩)))
     · by_cases h5:3<kk
       · exact lc_off kc hk a b c d e f _ ha hcp xs.length ta L.length tc kk px py pz w hK true hbt (.inr (.inr (.inr (.inl ⟨rfl,h3,by omega,h5⟩))))
       · by_cases h6:(n:Int)+2 - 2<kk
         · exact lc_off kc hk a b c d e f _ ha hcp xs.length ta L.length tc kk px py pz w hK true hbt (.inr (.inr (.inr (.inr ⟨rfl,h3,by omega,by omega,hd2,h6⟩))))
         · obtain ⟨j,rfl⟩ : ∃ j:Nat,kk=(j:Int):=⟨kk.toNat,by omega⟩
           exact contains_on kc hk a b c d e f ha hcp xs h1 n hn (goodG_of hV h1 hcap) h2 hV hC ta tc L h3 j (by omega) px py pz hp w hsl hT hK
   · exact lc_off kc hk a b c d e f _ ha hcp xs.length ta L.length tc kk px py pz w hK true hbt (.inr (.inl ⟨rfl,by omega⟩))
 · exact lc_off kc hk a b c d e f dd ha hcp xs.length ta L.length tc kk px py pz w hK false (hb false (decide_eq_false h).symm) (.inl rfl)
end Go.Proofs.YtgnfgblkpnfcnaaGreatDoor
end
