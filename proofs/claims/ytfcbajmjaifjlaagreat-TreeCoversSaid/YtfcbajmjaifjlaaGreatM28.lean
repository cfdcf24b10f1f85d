/- Tgr, Tdf, Df1: joined by program, for one claim. -/
import Derived.Test.YtfcbajmjaifjlaaGreatM24
import Derived.Test.YtfcbajmjaifjlaaGreatM27
import Derived.Test.YtfcbajmjaifjlaaGreatM18
import Derived.Deep.CutRange
set_option linter.unusedVariables false
set_option linter.unusedSimpArgs false
namespace Go.Proofs.YtfcbajmjaifjlaaGreat
section
open Go.RowKit Go.Sort Go.Maps
open Oct
theorem meet_some {b1 b2:Box} (h:emptyB (meetB b1 b2)=false) : ∃ p,inB p b1=true∧inB p b2=true:=by
 have h1:=atB_pos h
 have h2:=(atB_in (b:=meetB b1 b2) (i:=0) (by omega) (by omega)).1
 rw [meet_join h] at h2
 exact ⟨_,in_join.1 h2⟩
theorem inC_wide {n m:Nat} (h:m≤n) {a d p:Pt} (h1:Tr.InC n a p) (h2:Tr.InC m d p):Tr.InC n a d:=by
 obtain ⟨x1,x2,x3⟩:=h1
 obtain ⟨y1,y2,y3⟩:=h2
 have key : ∀ x y:Int,x / 2 ^ (m+2)=y / 2 ^ (m+2)→x / 2 ^ (n+2)=y / 2 ^ (n+2):=by
  intro x y hxy
  obtain ⟨k,rfl⟩ : ∃ k,n=m+k:=⟨n - m,by omega⟩
  have e2:(2:Int) ^ (m+k+2)=2 ^ (m+2) * 2 ^ k:=by rw [←Int.pow_add];congr 1;omega
  have hp:=Int.pow_pos (n:=2) (m:=m+2) (by decide)
  rw [e2,←Int.ediv_ediv_of_nonneg (by omega),←Int.ediv_ediv_of_nonneg (by omega),hxy]
 exact ⟨(key _ _ y1).symm.trans x1,(key _ _ y2).symm.trans x2,(key _ _ y3).symm.trans x3⟩
theorem al_same {n:Nat} {a d:Pt} (ha:Tr.Al n a) (hd:Tr.Al n d) (h:Tr.InC n a d):a=d:=by
 obtain ⟨x1,x2,x3⟩:=h
 obtain ⟨y1,y2,y3⟩:=ha
 obtain ⟨z1,z2,z3⟩:=hd
 have key : ∀ x y m:Int,x / m=y / m→x % m=0→y % m=0→x=y:=by
  intro x y m h1 h2 h3
  have e1:=Int.mul_ediv_add_emod x m
  have e2:=Int.mul_ediv_add_emod y m
  rw [h1,h2] at e1
  rw [h3] at e2
  omega
 cases d;cases a
 simp only [Pt.mk.injEq] at *
 exact ⟨key _ _ _ x1.symm y1 z1,key _ _ _ x2.symm y2 z2,key _ _ _ x3.symm y3 z3⟩
abbrev apartB (n:Nat) (a:Pt) (m:Nat) (d:Pt):Bool:=emptyB (meetB (cubeAtB n a) (cubeAtB m d))
theorem graft_edit {N:Nat} (hN:N≤12) (gc gp gk gd sb:Nat) (m:Nat) (d:Pt) (hd:InT N m d) (most:Int) (g f':Pt→Int) (ts:List Tr) (hT:Tr.can f' m d∈ts) (he : ∀ p,¬Tr.InC m d p→f' p=g p) (bfid:FuncId) (bcaps:Array Value) (bf:Value) :
 EditC ts (GraftF gc gp gk gd) (GraftP gc gp gk gd d.x d.y d.z ((m:Int)+2) (idT ts (Tr.can f' m d):Int) (cubeAtB m d)) sb most N g f' (fun n a=>m≤n∨apartB n a m d=true) (fun n a=>m<n∧apartB n a m d=false) 120 bfid
  #[.pointer (some ⟨gc,0,none⟩),.pointer (some ⟨gp,0,none⟩),.pointer (some ⟨gk,0,none⟩)] bcaps bf where
 vtop:=.inl hd.le
 vkid:=fun n a i _ _ _ hU=>.inl (by have:=hU.1;omega)
 stays:=GraftP.stays gc gp gk gd _ _ _ _ _ _
 en:=enters_of Tryz.func120 rfl rfl
 eb:=fun a hU=>absurd hU.1 (by omega)
 node:=fun W Far us n a _ h0 hin hV hP hG ht _ _ hS=>by
  obtain ⟨b1,b2,b3⟩:=hin.far hN
  have hle:=hin.le
  by_cases e:a.x=d.x∧a.y=d.y∧a.z=d.z∧((n:Int)+2)=(m:Int)+2
  · obtain ⟨ex,ey,ez,en⟩:=e
    obtain rfl:n=m:=by omega
    obtain rfl:a=d:=by cases a;cases d;simp only at ex ey ez;rw [ex,ey,ez]
    have h:=graft1_at gc gp gk gd a.x a.y a.z ((n:Int)+2) (idT ts (Tr.can f' n a):Int) (idT us (Tr.can g n a):Int) _ W hP
    refine h.mono ?_
    rintro e' w' ⟨rfl,hb⟩
    rw [←idT_prefix h0 hT]
    exact says_kept (h0.subset hT) hS hb
  · have e2:((n+2:Nat):Int)=(n:Int)+2:=by omega
    have h:=graft1_off (n+2) (by omega) a.x a.y a.z _ rfl b1 b2 b3 gc gp gk gd d.x d.y d.z ((m:Int)+2) (idT ts (Tr.can f' m d):Int) (idT us (Tr.can g n a):Int) _ W hP (by rw [e2];exact e)
    rw [e2] at h
    refine h.mono ?_
    rintro e' w' ⟨rfl,hb⟩
    have hz:emptyB (meetB ⟨⟨a.x,a.y,a.z⟩,⟨a.x+2 ^ (n+2),a.y+2 ^ (n+2),a.z+2 ^ (n+2)⟩⟩ (cubeAtB m d))=apartB n a m d:=rfl
    rw [hz]
    cases hem:apartB n a m d with
    | true =>
      have:Tr.can f' n a=Tr.can g n a:=Tr.can_congr n a hin.al fun p hp=>he p fun hpd=>by
       have h1:=meet_none hem (hin.cube hp)
       rw [hd.cube hpd] at h1;cases h1
      rw [this]
      exact says_kept ht hS hb
    | false =>
      refine ⟨Keeps.below hb,.inr (.inr ⟨⟨?_,rfl⟩,⟨_,rfl⟩,hb⟩)⟩
      have hmn:m≤n:=hV.resolve_right (by rw [hem];exact Bool.noConfusion)
      refine Nat.lt_of_le_of_ne hmn fun hmn2=>e ?_
      subst hmn2
      obtain ⟨p,p1,p2⟩:=meet_some hem
      have q1:=(inB_inC (n:=m) rfl (show Tr.Al m ⟨a.x,a.y,a.z⟩ from hin.al)).1 p1
      have q2:=(inB_inC (n:=m) rfl (show Tr.Al m ⟨d.x,d.y,d.z⟩ from hd.al)).1 p2
      obtain rfl:=al_same hin.al hd.al (inC_wide (Nat.le_refl _) q1 q2)
      exact ⟨rfl,rfl,rfl,rfl⟩
 brick:=fun W B v a _ hu _ _ _=>absurd hu.1 (by omega)
def partOK (N:Nat) (px py pz lv:Int):Prop:=inB ⟨px,py,pz⟩ (cubeB (2 ^ (N+2)))=true∧2≤lv∧lv≤(N:Int)+2∧alB lv.toNat ⟨px,py,pz⟩=true
theorem part_bad (w:World) (sb n:Nat) (hn:n≤12) (id px py pz lv:Int) (h : ¬partOK n px py pz lv) :
 Calls Tryz.prog 38 #[.pointer (some ⟨sb,0,none⟩),id,.int .i64 ((n:Int)+2),.agg #[px,py,pz],lv] w fun e w'=>e=ret2 0 1∧Below w.heap.size w w':=by
 by_cases h1:inB ⟨px,py,pz⟩ (cubeB (2 ^ (n+2)))=true
 · by_cases h2:lv<2
   · exact part_lo w sb n hn id px py pz lv h1 h2
   · by_cases h3:(n:Int)+2<lv
     · exact part_hi w sb n hn id px py pz lv h1 h2 h3
     · obtain ⟨L,rfl⟩ : ∃ L:Nat,lv=(L:Int):=⟨lv.toNat,by omega⟩
       exact part_al w sb n L hn (by omega) (by omega) id px py pz h1 (Bool.eq_false_iff.2 fun h4=>h ⟨h1,by omega,by omega,by rw [Int.toNat_natCast];exact h4⟩)
 · exact part_in w sb n hn id px py pz lv (Bool.eq_false_iff.2 h1)
def depV:Tr→Int
 | .uni _=>0
 | .brick _=>2
 | .node d _=>d
theorem depV_any (Far:Nat→Prop) (sb:Nat) (most:Int) (ts:List Tr) (t:Tr) (ht:t∈ts) (hlen:ts.length≤4194304) (w:World) (hS:StoreIs w Far sb most ts) :
 Calls Tryz.prog 63 #[.pointer (some ⟨sb,0,none⟩),(idT ts t:Int)] w fun e w'=>e = .returned (.int .i64 (depV t))∧w=w' :=
 depth_any Far sb most ts _ t (idT_get ht) (depV t) (by cases t <;> rfl) hlen w hS
def fitsAt (t:Tr) (lv:Int):Prop:=kindV t=1∨depV t=lv
theorem tgraft_bad (sb n:Nat) (hn:n≤12) (id px py pz lv part:Int) (h : ¬partOK n px py pz lv) (w:World) :
 Calls Tryz.prog 53 #[.pointer (some ⟨sb,0,none⟩),id,.int .i64 ((n:Int)+2),cubeV px py pz lv,part] w fun e w'=>e=ret2 0 1∧Below w.heap.size w w':=by
 have hp:=Bx.mk fun W=>part_bad W sb n hn id px py pz lv h
 clear h hn
 go_enter Tryz.func53,Tryz.ntmps53
 go_upto_region 1 with fail
 generalize hW:World.alloc (World.alloc w _) _=W
 have hB:=bl2 hW
 have kc:Bk W w.heap.size #[px,py,pz,lv] 39:=bk1 hW
 clear hW
 obtain ⟨c0,c1,c2,c3⟩:=kc.c4
 go_wp2_with fail
 refine (hp.out _).mono ?_
 rintro _ w2 ⟨rfl,hb⟩
 have hB2:=hB.trans (hb.mono hB.size)
 clear c0 c1 c2 c3 hb hB
 go_wp2_with fail
 go_ret2
 exact ⟨rfl,hB2⟩
set_option maxRecDepth 100000 in
set_option maxHeartbeats 1000000 in
theorem tgraft_walk (sb n:Nat) (hn:n≤12) (id px py pz pid:Int) (L:Nat) (hL:2≤L∧L≤n+2) (t:Tr) (Far:Nat→Prop) (most:Int) (ts:List Tr) (ht:t∈ts) (hlen:ts.length≤4194304) (hok:partOK n px py pz (L:Int)) (w:World) (hFar : ∀ k,Far k→k<w.heap.size) (hS:StoreIs w Far sb most ts) (G:Ending→World→Prop)
 (hp : ∀ W,StoreIs W Far sb most ts→Calls Tryz.prog 38 #[.pointer (some ⟨sb,0,none⟩),id,.int .i64 ((n:Int)+2),.agg #[px,py,pz],(L:Int)] W fun e w'=>e=ret2 pid 0∧Below W.heap.size W w')
 (hch:Bx (∀ gc gp gk gd W,fitsAt t (L:Int)→w.heap.size≤gc→w.heap.size≤gp→w.heap.size≤gk→w.heap.size≤gd→Below w.heap.size w W→GraftP gc gp gk gd px py pz (L:Int) (idT ts t:Int) ⟨⟨px,py,pz⟩,⟨px+2 ^ L,py+2 ^ L,pz+2 ^ L⟩⟩ W → ∀ bf,Calls Tryz.prog 112 #[.pointer (some ⟨sb,0,none⟩),id,.int .i64 ((n:Int)+2),.agg #[.func (.func 120) #[] #[.pointer (some ⟨gc,0,none⟩),.pointer (some ⟨gp,0,none⟩),.pointer (some ⟨gk,0,none⟩)],bf]] W fun e w'=>G e w' ∧ ∃ i r,e=ret2 i r)) :
 Calls Tryz.prog 53 #[.pointer (some ⟨sb,0,none⟩),id,.int .i64 ((n:Int)+2),cubeV px py pz (L:Int),(idT ts t:Int)] w (WSays (fitsAt t (L:Int)) G w):=by
 replace hp:=Bx.mk hp
 have Hk:=Bx.mk fun W h=>kindV_any Far sb most ts t ht hlen W h
 have Hd:=Bx.mk fun W h=>depV_any Far sb most ts t ht hlen W h
 have hib:=inB_iff.1 hok.1
 have hpw:=pow_le (show n+2≤14 by omega)
 have hbd:(-100000≤px∧px≤100000)∧(-100000≤py∧py≤100000)∧(-100000≤pz∧pz≤100000):=by
  have e:(cubeB (2 ^ (n+2))).hi=⟨2 ^ (n+2),2 ^ (n+2),2 ^ (n+2)⟩:=rfl
  have e2:(cubeB (2 ^ (n+2))).lo=⟨0,0,0⟩:=rfl
  rw [e,e2] at hib
  simp only at hib
  omega
 have Hbox:=Bx.mk fun W=>box_any L (by omega) px py pz _ rfl hbd.1 hbd.2.1 hbd.2.2 W
 have Hap:=Bx.mk fun W=>apart_any px py pz (px+2 ^ L) (py+2 ^ L) (pz+2 ^ L) W
 have HS:=Bx.mk hS
 clear hib hpw hbd hok hS hFar hn hL hlen ht
 unfold fitsAt at *
 generalize kindV t=kt at *
 generalize depV t=dt at *
 go_enter Tryz.func53,Tryz.ntmps53
 go_upto_region 1 with fail
 generalize hW:World.alloc (World.alloc w _) _=W
 have hSz:W.heap.size=w.heap.size+1+1:=by rw [←hW];simp
 have hB:=bl2 hW
 have kc:Bk W w.heap.size #[px,py,pz,(L:Int)] 39:=bk1 hW
 have kp:Bk W (w.heap.size+1) #[(idT ts t:Int)] 3:=bk0 hW
 clear hW
 obtain ⟨c0,c1,c2,c3⟩:=kc.c4
 generalize (idT ts t:Int)=it at *
 go_wp2_with fail
 refine (hp.out _ (HS.out.later hB)).mono ?_
 rintro _ w2 ⟨rfl,hb⟩
 have hB2:=hB.trans (hb.mono hB.size)
 have hs2:=hb.size
 replace kc:=kc.later hb
 replace kp:=kp.later hb
 clear c0 c1 c2 c3 hb hB
 go_upto_region 4 with fail
 by_cases h1:kt=1
 · have HF:Bx (kt=1∨dt=(L:Int)):=⟨.inl h1⟩
   have t1:(kt != 1)=false:=by simp [h1]
   clear h1
   have HS2:=Bx.mk (HS.out.later hB2)
   have cx3 : ∀ dk osk,(grow (redrawn w2 dk) osk).cell? ⟨w.heap.size,3,none⟩=some (.int .i64 (L:Int)):=cell_regrown (kc.cell 3 rfl)
   have cx4 : ∀ dk osk,(grow (redrawn w2 dk) osk).cell? ⟨w.heap.size+1,0,none⟩=some (.int .i64 it):=cell_regrown (kp.cell 0 rfl)
   have q0:=Bx.mk fun dk osk=>Calls.regrown_of ((Hk.out (grow (redrawn w2 dk) osk) (HS2.out.later (below_regrown w2 dk osk))).mono fun e w' h=>(⟨h.1,by rw [←h.2];exact Below.refl _ _⟩:e=_∧Below (grow (redrawn w2 dk) osk).heap.size (grow (redrawn w2 dk) osk) w'))
   have q1:=Bx.mk fun dk osk=>Calls.regrown_of ((Hd.out (grow (redrawn w2 dk) osk) (HS2.out.later (below_regrown w2 dk osk))).mono fun e w' h=>(⟨h.1,by rw [←h.2];exact Below.refl _ _⟩:e=_∧Below (grow (redrawn w2 dk) osk).heap.size (grow (redrawn w2 dk) osk) w'))
   refine wp_region_quiet_below (by kernel_rfl) (by kernel_rfl) ?_
   repeat (first | go_big_quiet_step ((first | with_reducible exact q0.out _ _ | with_reducible exact q1.out _ _)) | quiet_step (first | with_reducible exact q0.out _ _ | with_reducible exact q1.out _ _))
   refine wpQuiet_nil ?_
   rintro _ ⟨⟨dq,osq⟩,rfl⟩
   have hb:=below_regrown w2 dq osq
   clear cx3 cx4 q0 q1
   replace kc:=kc.later hb
   replace kp:=kp.later hb
   have hB4:=hB2.trans (hb.mono hB2.size)
   clear hb
   generalize grow (redrawn w2 dq) osq=W3 at *
   clear t1
   obtain ⟨c0,c1,c2,c3⟩:=kc.c4
   go_wp2_with fail
   refine (Hbox.out _).mono ?_
   rintro _ w4 ⟨rfl,hb4⟩
   replace kc:=kc.later hb4
   replace kp:=kp.later hb4
   have hB5:=hB4.trans (hb4.mono hB4.size)
   clear c0 c1 c2 c3 hb4
   go_wp2_with fail
   refine (Hap.out _).mono ?_
   rintro _ w5 ⟨rfl,kd,hb5⟩
   replace kc:=kc.later hb5
   replace kp:=kp.later hb5
   have hB6:=hB5.trans (hb5.mono hB5.size)
   clear hb5
   go_upto_region 7 with fail
   generalize hW:World.alloc w5 _=W6
   have hb6:=bl1 hW
   have kk:Bk W6 w5.heap.size #[.func (.func 156) #[] #[.pointer (some ⟨w4.heap.size,0,none⟩)]] 152:=bk0 hW
   clear hW
   have hGP:=hch.out w.heap.size (w.heap.size+1) w5.heap.size w4.heap.size W6 HF.out (Nat.le_refl _) (by omega) hB6.size hB5.size (hB6.trans (hb6.mono hB6.size)) ⟨kc.later hb6,kp.later hb6,kk,kd.later hb6⟩
   have Hq:=Bx.mk hGP
   clear hGP kk hb6 hB6 kd kc kp hB5 hB4
   go_wp2_with fail
   refine (Hq.out _).mono ?_
   rintro e w' ⟨hG,i,r,rfl⟩
   have Hg:=Bx.mk hG
   clear hG
   go_wp2_with fail
   go_ret2
   exact ⟨fun _=>Hg.out,fun h=>absurd HF.out h⟩
 · have t1:(kt != 1)=true:=by simp [h1]
   by_cases h2:dt=(L:Int)
   · have HF:Bx (kt=1∨dt=(L:Int)):=⟨.inr h2⟩
     have t2:(dt != (L:Int))=false:=by simp [h2]
     clear h1 h2
     have HS2:=Bx.mk (HS.out.later hB2)
     have cx3 : ∀ dk osk,(grow (redrawn w2 dk) osk).cell? ⟨w.heap.size,3,none⟩=some (.int .i64 (L:Int)):=cell_regrown (kc.cell 3 rfl)
     have cx4 : ∀ dk osk,(grow (redrawn w2 dk) osk).cell? ⟨w.heap.size+1,0,none⟩=some (.int .i64 it):=cell_regrown (kp.cell 0 rfl)
     have q0:=Bx.mk fun dk osk=>Calls.regrown_of ((Hk.out (grow (redrawn w2 dk) osk) (HS2.out.later (below_regrown w2 dk osk))).mono fun e w' h=>(⟨h.1,by rw [←h.2];exact Below.refl _ _⟩:e=_∧Below (grow (redrawn w2 dk) osk).heap.size (grow (redrawn w2 dk) osk) w'))
     have q1:=Bx.mk fun dk osk=>Calls.regrown_of ((Hd.out (grow (redrawn w2 dk) osk) (HS2.out.later (below_regrown w2 dk osk))).mono fun e w' h=>(⟨h.1,by rw [←h.2];exact Below.refl _ _⟩:e=_∧Below (grow (redrawn w2 dk) osk).heap.size (grow (redrawn w2 dk) osk) w'))
     refine wp_region_quiet_below (by kernel_rfl) (by kernel_rfl) ?_
     repeat (first | go_big_quiet_step ((first | with_reducible exact q0.out _ _ | with_reducible exact q1.out _ _)) | quiet_step (first | with_reducible exact q0.out _ _ | with_reducible exact q1.out _ _))
     refine wpQuiet_nil ?_
     rintro _ ⟨⟨dq,osq⟩,rfl⟩
     have hb:=below_regrown w2 dq osq
     clear cx3 cx4 q0 q1
     replace kc:=kc.later hb
     replace kp:=kp.later hb
     have hB4:=hB2.trans (hb.mono hB2.size)
     clear hb
     generalize grow (redrawn w2 dq) osq=W3 at *
     clear t1 t2
     obtain ⟨c0,c1,c2,c3⟩:=kc.c4
     go_wp2_with fail
     refine (Hbox.out _).mono ?_
     rintro _ w4 ⟨rfl,hb4⟩
     replace kc:=kc.later hb4
     replace kp:=kp.later hb4
     have hB5:=hB4.trans (hb4.mono hB4.size)
     clear c0 c1 c2 c3 hb4
     go_wp2_with fail
     refine (Hap.out _).mono ?_
     rintro _ w5 ⟨rfl,kd,hb5⟩
     replace kc:=kc.later hb5
     replace kp:=kp.later hb5
     have hB6:=hB5.trans (hb5.mono hB5.size)
     clear hb5
     go_upto_region 7 with fail
     generalize hW:World.alloc w5 _=W6
     have hb6:=bl1 hW
     have kk:Bk W6 w5.heap.size #[.func (.func 156) #[] #[.pointer (some ⟨w4.heap.size,0,none⟩)]] 152:=bk0 hW
     clear hW
     have hGP:=hch.out w.heap.size (w.heap.size+1) w5.heap.size w4.heap.size W6 HF.out (Nat.le_refl _) (by omega) hB6.size hB5.size (hB6.trans (hb6.mono hB6.size)) ⟨kc.later hb6,kp.later hb6,kk,kd.later hb6⟩
     have Hq:=Bx.mk hGP
     clear hGP kk hb6 hB6 kd kc kp hB5 hB4
     go_wp2_with fail
     refine (Hq.out _).mono ?_
     rintro e w' ⟨hG,i,r,rfl⟩
     have Hg:=Bx.mk hG
     clear hG
     go_wp2_with fail
     go_ret2
     exact ⟨fun _=>Hg.out,fun h=>absurd HF.out h⟩
   · have HB:Bx (¬(kt=1∨dt=(L:Int))):=⟨fun h=>h.elim h1 h2⟩
     have t2:(dt != (L:Int))=true:=by simp [h2]
     clear h1 h2
     have HS2:=Bx.mk (HS.out.later hB2)
     have cx3 : ∀ dk osk,(grow (redrawn w2 dk) osk).cell? ⟨w.heap.size,3,none⟩=some (.int .i64 (L:Int)):=cell_regrown (kc.cell 3 rfl)
     have cx4 : ∀ dk osk,(grow (redrawn w2 dk) osk).cell? ⟨w.heap.size+1,0,none⟩=some (.int .i64 it):=cell_regrown (kp.cell 0 rfl)
     have q0:=Bx.mk fun dk osk=>Calls.regrown_of ((Hk.out (grow (redrawn w2 dk) osk) (HS2.out.later (below_regrown w2 dk osk))).mono fun e w' h=>(⟨h.1,by rw [←h.2];exact Below.refl _ _⟩:e=_∧Below (grow (redrawn w2 dk) osk).heap.size (grow (redrawn w2 dk) osk) w'))
     have q1:=Bx.mk fun dk osk=>Calls.regrown_of ((Hd.out (grow (redrawn w2 dk) osk) (HS2.out.later (below_regrown w2 dk osk))).mono fun e w' h=>(⟨h.1,by rw [←h.2];exact Below.refl _ _⟩:e=_∧Below (grow (redrawn w2 dk) osk).heap.size (grow (redrawn w2 dk) osk) w'))
     refine wp_region_quiet_below (by kernel_rfl) (by kernel_rfl) ?_
     repeat (first | go_big_quiet_step ((first | with_reducible exact q0.out _ _ | with_reducible exact q1.out _ _)) | quiet_step (first | with_reducible exact q0.out _ _ | with_reducible exact q1.out _ _))
     refine wpQuiet_nil ?_
     rintro _ ⟨⟨dq,osq⟩,rfl⟩
     have hb:=below_regrown w2 dq osq
     clear cx3 cx4 q0 q1
     replace kc:=kc.later hb
     replace kp:=kp.later hb
     have hB4:=hB2.trans (hb.mono hB2.size)
     clear hb
     generalize grow (redrawn w2 dq) osq=W3 at *
     go_wp2_with fail
     go_ret2
     exact ⟨fun h=>absurd h HB.out,fun _=>⟨rfl,hB4⟩⟩
theorem partOK.inT {N m:Nat} {d:Pt} (hok:partOK N d.x d.y d.z ((m+2:Nat):Int)):InT N m d:=by
 obtain ⟨h1,h2,h3,h4⟩:=hok
 have hib:=inB_iff.1 h1
 have e:(cubeB (2 ^ (N+2))).hi=⟨2 ^ (N+2),2 ^ (N+2),2 ^ (N+2)⟩:=rfl
 have e2:(cubeB (2 ^ (N+2))).lo=⟨0,0,0⟩:=rfl
 rw [e,e2] at hib
 simp only at hib
 rw [Int.toNat_natCast] at h4
 have ha:d.x % 2 ^ (m+2)=0∧d.y % 2 ^ (m+2)=0∧d.z % 2 ^ (m+2)=0:=of_decide_eq_true h4
 have key : ∀ x:Int,0≤x→x<2 ^ (N+2)→x % 2 ^ (m+2)=0→x+2 ^ (m+2)≤2 ^ (N+2):=by
  intro x h0 h1 h2
  obtain ⟨k,rfl⟩ : ∃ k,N=m+k:=⟨N - m,by omega⟩
  have e2:(2:Int) ^ (m+k+2)=2 ^ (m+2) * 2 ^ k:=by rw [←Int.pow_add];congr 1;omega
  rw [e2] at h1 ⊢
  have hp:=Int.pow_pos (n:=2) (m:=m+2) (by decide)
  generalize (2:Int) ^ (m+2)=M at *
  generalize (2:Int) ^ k=K at *
  have h3:=Int.mul_ediv_add_emod x M
  rw [h2,Int.add_zero] at h3
  have h4:x / M<K:=Int.lt_of_mul_lt_mul_left (by rw [h3];exact h1) (by omega)
  have h5:M * (x / M+1)≤M * K:=Int.mul_le_mul_of_nonneg_left (by omega) (by omega)
  rw [Int.mul_add,Int.mul_one,h3] at h5
  exact h5
 exact ⟨by omega,ha,⟨by omega,key _ (by omega) (by omega) ha.1⟩,⟨by omega,key _ (by omega) (by omega) ha.2.1⟩,⟨by omega,key _ (by omega) (by omega) ha.2.2⟩⟩
theorem tgraft_any {N:Nat} (hN:N≤12) (sb m:Nat) (d:Pt) (hok:partOK N d.x d.y d.z ((m+2:Nat):Int)) (most:Int) (g f':Pt→Int) (hg : ∀ p,0≤g p∧g p≤255) (w:World) (Far:Nat→Prop) (ts:List Tr) (hG:Good ts) (t:Tr) (ht:t∈ts) (h0:Tr.can g N ⟨0,0,0⟩∈ts) (hl0:ts.length≤4000000)
 (hf:fitsAt t ((m+2:Nat):Int)→Tr.can f' m d=t∧(∀ p,¬Tr.InC m d p→f' p=g p)∧(∀ p,0≤f' p∧f' p≤255)∧(Tr.add (Tr.can f' N ⟨0,0,0⟩) ts).length≤4000000) (hFar : ∀ k,Far k→k<w.heap.size) (hS:StoreIs w Far sb most ts) :
 Calls Tryz.prog 53 #[.pointer (some ⟨sb,0,none⟩),(idT ts (Tr.can g N ⟨0,0,0⟩):Int),.int .i64 ((N:Int)+2),cubeV d.x d.y d.z ((m+2:Nat):Int),(idT ts t:Int)] w (WSays (fitsAt t ((m+2:Nat):Int)) (Done Far sb most ts (Tr.add (Tr.can f' N ⟨0,0,0⟩) ts) (Tr.can f' N ⟨0,0,0⟩) w) w):=by
 have hd:=hok.inT
 have hle:=hd.le
 refine tgraft_walk sb N hN _ d.x d.y d.z _ (m+2) ⟨by omega,by omega⟩ t Far most ts ht (by omega) hok w hFar hS _ (fun W h=>part_ok W sb N (m+2) hN (by omega) (by omega) d.x d.y d.z hok.1 (by have:=hok.2.2.2;rwa [Int.toNat_natCast] at this) Far most ts _ h0 (dep_can g N _) hG (by omega) h) ⟨fun gc gp gk gd W hfit l1 l2 l3 l4 hB hP bf=>?_⟩
 obtain ⟨f1,f2,f3,f4⟩:=hf hfit
 have hlt : ∀ k,GraftF gc gp gk gd k→k<W.heap.size:=by
  have:=hP.kc.lt;have:=hP.kp.lt;have:=hP.kk.lt;have:=hP.kd.lt
  intro k hk
  rcases hk with rfl | rfl | rfl | rfl <;> assumption
 rw [←f1] at hP
 have hed:=graft_edit hN gc gp gk gd sb m d hd most g f' ts (f1 ▸ ht) f2 0 #[] bf
 refine (change_any hN hed hg f3 W (fun x=>Far x∨(w.heap.size≤x∧x<W.heap.size)) (fun k hk=>.inr ⟨?_,hlt k hk⟩) ?_ ts (List.prefix_refl _) hG h0 f4 ?_ ?_).mono ?_
 · rcases hk with rfl | rfl | rfl | rfl <;> assumption
 · exact hP
 · intro k hk
   rcases hk with hk | hk
   · exact Nat.lt_of_lt_of_le (hFar k hk) hB.size
   · exact hk.2
 · exact (hS.widen (Far':=fun x=>Far x∨(w.heap.size≤x∧x<W.heap.size)) (fun k hk=>hk.imp (fun h=>h) (fun h=>h.1))).later hB
 · intro e' w' hd
   refine ⟨hd.less (Far:=Far) (Keeps.below hB) (fun k hk=>.inl hk),?_⟩
   obtain ⟨-,-,(⟨-,rfl,-⟩ | ⟨-,rfl,-⟩)⟩:=hd
   · exact ⟨_,_,rfl⟩
   · exact ⟨_,_,rfl⟩
end
section
open Go.RowKit
open Oct
def isU:Tr→Bool
 | .uni _=>true
 | _=>false
open Classical in
noncomputable def diffT:Nat→Pt→Tr→Tr→List (Pt × Nat)
 | 0,a,t,u=>if t=u then [] else [(a,0)]
 | n+1,a,t,u=>if t=u then [] else if (isU t && isU u)=true then [(a,n+1)] else (List.finRange 8).flatMap fun i=>diffT n (Tr.cor a n i.val) (t.kid i) (u.kid i)
theorem diffT_same (n:Nat) (a:Pt) (t:Tr):diffT n a t t=[]:=by cases n <;> simp [diffT]
theorem diffT_zero {a:Pt} {t u:Tr} (h:t ≠ u):diffT 0 a t u=[(a,0)]:=by simp [diffT,h]
theorem diffT_uni {n:Nat} {a:Pt} {t u:Tr} (h:t ≠ u) (h1:isU t=true) (h2:isU u=true):diffT n a t u=[(a,n)]:=by cases n <;> simp [diffT,h,h1,h2]
noncomputable def diffK (n:Nat) (a:Pt) (t u:Tr) (k:Nat):List (Pt × Nat):=((List.finRange 8).take k).flatMap fun i=>diffT n (Tr.cor a n i.val) (t.kid i) (u.kid i)
theorem diffK_zero (n:Nat) (a:Pt) (t u:Tr):diffK n a t u 0=[]:=rfl
theorem diffK_succ (n:Nat) (a:Pt) (t u:Tr) {k:Nat} (hk:k<8):diffK n a t u (k+1)=diffK n a t u k++diffT n (Tr.cor a n k) (t.kid ⟨k,hk⟩) (u.kid ⟨k,hk⟩):=by
 unfold diffK
 rw [List.take_succ_eq_append_getElem (by simpa using hk),List.flatMap_append]
 simp
theorem diffK_all (n:Nat) (a:Pt) (t u:Tr) (h:t ≠ u) (h1:(isU t && isU u)=false):diffK n a t u 8=diffT (n+1) a t u:=by
 unfold diffK
 rw [List.take_of_length_le (by simp)]
 simp [diffT,h,h1]
def leavesT:Nat→Pt→Tr→List (Pt × Nat × Tr)
 | n+1,a,.node _ ch=>(List.finRange 8).flatMap fun i=>leavesT n (Tr.cor a n i.val) (ch i)
 | n,a,t=>[(a,n,t)]
theorem leavesT_uni (n:Nat) (a:Pt) (c:Int):leavesT n a (.uni c)=[(a,n,.uni c)]:=by cases n <;> rfl
theorem leavesT_brick (n:Nat) (a:Pt) (l:List Int):leavesT n a (.brick l)=[(a,n,.brick l)]:=by cases n <;> rfl
def leavesK (n:Nat) (a:Pt) (ch:Fin 8→Tr) (k:Nat):List (Pt × Nat × Tr):=((List.finRange 8).take k).flatMap fun i=>leavesT n (Tr.cor a n i.val) (ch i)
theorem leavesK_zero (n:Nat) (a:Pt) (ch:Fin 8→Tr):leavesK n a ch 0=[]:=rfl
theorem leavesK_succ (n:Nat) (a:Pt) (ch:Fin 8→Tr) {k:Nat} (hk:k<8):leavesK n a ch (k+1)=leavesK n a ch k++leavesT n (Tr.cor a n k) (ch ⟨k,hk⟩):=by
 unfold leavesK
 rw [List.take_succ_eq_append_getElem (by simpa using hk),List.flatMap_append]
 simp
theorem leavesK_all (n d:Nat) (a:Pt) (ch:Fin 8→Tr):leavesK n a ch 8=leavesT (n+1) a (.node d ch):=by
 unfold leavesK
 rw [List.take_of_length_le (by simp)]
 rfl
def cntL (c:Int) (x:Pt × Nat × Tr):Nat :=
 match x.2.2 with
 | .uni d=>if d=c then 8 ^ (x.2.1+2) else 0
 | .brick l=>l.count c
 | .node _ _=>0
end
section
open Go.RowKit Go.Sort Go.Maps
open Oct
def dcell (x:Pt × Nat):List Value:=[.int .i64 x.1.x,.int .i64 x.1.y,.int .i64 x.1.z,.int .i64 ((x.2:Int)+2)]
abbrev dcells (L:List (Pt × Nat)):List Value:=L.flatMap dcell
abbrev diffV (ps po pv:Nat):Value:=.func (.func 67) #[] #[.pointer (some ⟨ps,0,none⟩),.pointer (some ⟨po,0,none⟩),.pointer (some ⟨pv,0,none⟩)]
structure DSt (w0:World) (Av:Nat→Prop) (ps po pv sb:Nat) (L:List (Pt × Nat)) (W:World):Prop where
 bel:Below w0.heap.size w0 W
 ks:Bk W ps #[.pointer (some ⟨sb,0,none⟩)] 32
 kv:Bk W pv #[diffV ps po pv] 115
 ko : ∃ v,Bk W po #[v] 51∧W.ownsRow w0.heap.size 39 4 v L.length (dcells L) ∧ ∀ g,v.ownBlock=some g → ¬Av g
 ge:w0.heap.size≤ps∧w0.heap.size≤po∧w0.heap.size≤pv
 av:Av ps∧Av po∧Av pv
 ne:ps ≠ po∧pv ≠ po
 lt : ∀ k,Av k→k<W.heap.size
theorem DSt.avoid {w0 W W':World} {Av Av':Nat→Prop} {ps po pv sb:Nat} {L:List (Pt × Nat)} (h:DSt w0 Av ps po pv sb L W) (hb:Below W.heap.size W W') (h' : ∀ k,Av' k→Av k∨W.heap.size≤k) (hl : ∀ k,Av' k→k<W'.heap.size) (ha:Av' ps∧Av' po∧Av' pv):DSt w0 Av' ps po pv sb L W':=by
 obtain ⟨v,k1,k2,k3⟩:=h.ko
 refine ⟨h.bel.trans (hb.mono h.bel.size),h.ks.later hb,h.kv.later hb,⟨v,k1.later hb,World.ownsRow.kept k2 (grown_of_below hb) (by cases v.ownBlock <;> simp),fun g hg ha'=>?_⟩,h.ge,ha,h.ne,hl⟩
 rcases h' g ha' with h | h
 · exact k3 g hg h
 · have:=(World.ownsRow.lt k2 g hg).2;omega
theorem DSt.later {w0 W W':World} {Av:Nat→Prop} {ps po pv sb:Nat} {L:List (Pt × Nat)} (h:DSt w0 Av ps po pv sb L W) (hb:Below W.heap.size W W'):DSt w0 Av ps po pv sb L W' :=
 h.avoid hb (fun k hk=>.inl hk) (fun k hk=>Nat.lt_of_lt_of_le (h.lt k hk) hb.size) h.av
theorem Bk.put1 {w:World} {g:Nat} {x:Value} {t:TypeId} (h:Bk w g #[x] t) (a:Value):Bk (w.setCell ⟨g,0,none⟩ a) g #[a] t:=by
 simpa using h.set 0 a
theorem DSt.push {w0 W W3:World} {Av:Nat→Prop} {ps po pv sb:Nat} {L:List (Pt × Nat)} {x:Pt × Nat} {v v':Value} (h:DSt w0 Av ps po pv sb L W) (hk:Bk W po #[v] 51) (hg:W.grownBy W3 v.ownBlock) (hown:W3.ownsRow w0.heap.size 39 4 v' (L.length+1) (dcells L++dcell x)) (hat:v'.ownBlock=v.ownBlock∨(∃ g,v'.ownBlock=some g∧W.heap.size≤g)) :
 DSt w0 Av ps po pv sb (L++[x]) (W3.setCell ⟨po,0,none⟩ v') ∧ ∀ k,Av k→k ≠ po→(W3.setCell ⟨po,0,none⟩ v').heap[k]? = W.heap[k]? := by
 obtain ⟨v2,k1,k2,k3⟩:=h.ko
 obtain rfl:v2=v:=by
  have e:=(k1.cell 0 rfl).symm.trans (hk.cell 0 rfl)
  simpa using e
 have hnv : ∀ g,v'.ownBlock=some g → ¬Av g:=by
  intro g hgv
  rcases hat with e | ⟨g',e,hge⟩
  · exact k3 g (e.symm.trans hgv)
  · rw [e] at hgv
    obtain rfl:=Option.some.inj hgv
    intro ha;have:=h.lt _ ha;omega
 have keep : ∀ k,Av k→W3.heap[k]? = W.heap[k]? := fun k hk=>hg.block k (h.lt k hk) (fun e=>k3 k e.symm hk)
 have keep2 : ∀ k,Av k→k ≠ po→(W3.setCell ⟨po,0,none⟩ v').heap[k]? = W.heap[k]? := fun k hk hne=>(RowKit.Below.heap_setCell _ _ _ _ (fun e=>hne e)).trans (keep k hk)
 have hpo:Bk W3 po #[v2] 51:=(keep po h.av.2.1).trans k1
 have hgs:=grown_setCell W3 ⟨po,0,none⟩ v'
 refine ⟨⟨?_,?_,?_,⟨v',?_,?_,hnv⟩,h.ge,h.av,h.ne,fun k hk=>?_⟩,keep2⟩
 · refine h.bel.trans ⟨hgs.os.trans hg.os,hgs.tape.trans hg.tape,hgs.output.trans hg.output,Nat.le_trans hg.size hgs.size,fun k hk=>?_⟩
   refine (RowKit.Below.heap_setCell _ _ _ _ (fun e=>?_)).trans (hg.block k (Nat.lt_of_lt_of_le hk h.bel.size) (fun e=>?_))
   · have:=h.ge.2.1;simp only at e;omega
   · have:=(World.ownsRow.lt k2 k e.symm).1;omega
 · exact (keep2 ps h.av.1 h.ne.1).trans h.ks
 · exact (keep2 pv h.av.2.2 h.ne.2).trans h.kv
 · exact Bk.put1 hpo v'
 · rw [List.length_append,List.length_singleton,show dcells (L++[x])=dcells L++dcell x by unfold dcells;rw [List.flatMap_append];simp]
   exact World.ownsRow.kept hown hgs (by
    cases hv:v'.ownBlock with
    | none=>exact .inl rfl
    | some g=>exact .inr (fun e=>hnv g hv (by injection e with e;exact e ▸ h.av.2.1)))
 · rw [size_setCell];exact Nat.lt_of_lt_of_le (h.lt k hk) hg.size
structure DPost (w0:World) (Av:Nat→Prop) (ps po pv sb:Nat) (L:List (Pt × Nat)) (W:World) (e:Ending) (W':World):Prop where
 ends:e = .returned (.tuple #[])
 st:DSt w0 Av ps po pv sb L W'
 keep : ∀ k,Av k→k ≠ po→W'.heap[k]? = W.heap[k]?
theorem below_keep {W W':World} {Av:Nat→Prop} {po:Nat} (hb:Below W.heap.size W W') (hl : ∀ k,Av k→k<W.heap.size) : ∀ k,Av k→k ≠ po→W'.heap[k]? = W.heap[k]? := fun k hk _=>hb.block k (hl k hk)
theorem dv_same (lv x y z i:Int) (ps po pv sb:Nat) (w0 w:World) (Av:Nat→Prop) (L:List (Pt × Nat)) (H:DSt w0 Av ps po pv sb L w) :
 Calls Tryz.prog 67 #[cubeV x y z lv,i,i,.pointer (some ⟨ps,0,none⟩),.pointer (some ⟨po,0,none⟩),.pointer (some ⟨pv,0,none⟩)] w (DPost w0 Av ps po pv sb L w):=by
 have HH:=Bx.mk H
 clear H
 have t0:(i == i)=true:=by simp
 go_enter Tryz.func67,Tryz.ntmps67
 go_wp2_with fail
 go_end0
 have hb:Below w.heap.size w (World.alloc w (.cells #[x,y,z,lv] 39)):=(Below.refl _ _).alloc (Nat.le_refl _) _
 exact ⟨rfl,HH.out.later hb,below_keep hb HH.out.lt⟩
set_option maxRecDepth 100000 in
set_option maxHeartbeats 1000000 in
theorem dv_leaf (n:Nat) (hn:n≤100) (a:Pt) (most:Int) (ts:List Tr) (hlen:ts.length≤4194304) (T U:Tr) (hT:T∈ts) (hU:U∈ts) (hne:T ≠ U) (hl:n=0∨(isU T && isU U)=true) (ps po pv sb:Nat) (w0 w:World) (Av:Nat→Prop) (L:List (Pt × Nat)) (hLl:L.length≤1000000000000) (H:DSt w0 Av ps po pv sb L w) (hS:StoreIs w (fun _=>False) sb most ts) :
 Calls Tryz.prog 67 #[cubeV a.x a.y a.z ((n:Int)+2),(idT ts T:Int),(idT ts U:Int),.pointer (some ⟨ps,0,none⟩),.pointer (some ⟨po,0,none⟩),.pointer (some ⟨pv,0,none⟩)] w (DPost w0 Av ps po pv sb (L++[(a,n)]) w):=by
 have Hk:=Bx.mk fun W (h:StoreIs W (fun _=>False) sb most ts)=>kindV_any _ sb most ts T hT hlen W h
 have Hk2:=Bx.mk fun W (h:StoreIs W (fun _=>False) sb most ts)=>kindV_any _ sb most ts U hU hlen W h
 have t0:((idT ts T:Int) == (idT ts U:Int))=false:=by
  simp only [beq_eq_false_iff_ne,ne_eq]
  intro e
  exact hne (idT_inj hT hU (by omega))
 have hk:isU T=true→kindV T=1:=fun h=>by cases T <;> first | rfl | cases h
 have hk2:isU U=true→kindV U=1:=fun h=>by cases U <;> first | rfl | cases h
 obtain ⟨i0,hi0,hz0,hz1,hz2⟩:=info_parts (show (Tryz.prog.info? 39).map (fun i=>(i.zero,i.size,i.bytes))=some (some (.agg #[(0:Int),(0:Int),(0:Int),(0:Int)]),4,32) by kernel_rfl)
 have HI0:=Bx.mk hi0
 have HZ0:=Bx.mk hz0
 have HZ1:=Bx.mk hz1
 have HZ2:=Bx.mk hz2
 have HLL:=Bx.mk hLl
 have HS:=Bx.mk hS
 have HH:=Bx.mk H
 generalize (idT ts T:Int)=iT at *
 generalize (idT ts U:Int)=iU at *
 have hlv:Bx ((n:Int)+2=2∨(kindV T=1∧kindV U=1)):=⟨by
  rcases hl with h | h
  · left;omega
  · right;rw [Bool.and_eq_true] at h;exact ⟨hk h.1,hk2 h.2⟩⟩
 obtain ⟨lv,hlve⟩ : ∃ lv:Int,(n:Int)+2=lv:=⟨_,rfl⟩
 have HLV:=Bx.mk hlve
 rw [hlve] at hlv ⊢
 generalize kindV T=kT at *
 generalize kindV U=kU at *
 clear H hS hne hl hk hk2 hT hU hlen hlve hi0 hz0 hz1 hz2 hLl hn
 go_enter Tryz.func67,Tryz.ntmps67
 go_upto_region 1 with fail
 generalize hW:World.alloc w _=W
 have hb:=bl1 hW
 have kc:Bk W w.heap.size #[a.x,a.y,a.z,lv] 39:=bk0 hW
 clear hW
 have HW:=Bx.mk (HH.out.later hb)
 have HSW:=Bx.mk (HS.out.later hb)
 obtain ⟨v,k1,k2,k3⟩:=HW.out.ko
 obtain ⟨va,vc,rfl⟩:=row_form k2
 have K1:=Bx.mk k1
 have Hnav:=Bx.mk k3
 have hbase:=HW.out.bel.size
 have hpoW:=k1.lt
 have hown:=Bx.mk fun o=>World.ownsRow.alloc k2 o
 obtain ⟨c0,c1,c2,c3⟩:=kc.c4
 have s0:=HW.out.ks.cell 0 rfl
 have o0:=k1.cell 0 rfl
 have KC:=Bx.mk kc
 have HB:=Bx.mk hb
 clear k2 k3 k1 kc hb
 go_upto_region 2 with fail
 go_cut [16] from 17 to 31 (fun v wx=>v = .bool true∧wx=W)
 case first =>
  by_cases h4:lv=2
  · have t1:(lv == 2)=true:=by simp [h4]
    clear h4 hlv
    go_wp2_with fail
    go_meet
    exact ⟨rfl,rfl⟩
  · obtain ⟨h2,h3⟩:=hlv.out.resolve_left h4
    have t1:(lv == 2)=false:=by simp [h4]
    have t2:(kT == 1)=true:=by simp [h2]
    have t3:(kU == 1)=true:=by simp [h3]
    clear h2 h3 h4 hlv
    go_wp2_with (first | ((with_reducible refine (Hk.out W HSW.out).mono ?_);rintro _ _ ⟨rfl,rfl⟩) | ((with_reducible refine (Hk2.out W HSW.out).mono ?_);rintro _ _ ⟨rfl,rfl⟩))
    go_meet
    exact ⟨rfl,rfl⟩
 case rest =>
 obtain ⟨rfl,hw⟩:=hcut
 replace hw:=hw.symm
 subst hw
 clear t0 hlv
 go_wp2_with (at_builtin;refine wpList_append_own_at _ rfl _ _ 51 rfl w0.heap.size 39 i0 _ 4 32 Tryz.underlying51 HI0.out HZ0.out HZ1.out HZ2.out rfl (by omega) _ _ _ rfl (hown.out _) ⟨W.heap.size,0,none⟩ 1 1 [.int .i64 a.x,.int .i64 a.y,.int .i64 a.z,.int .i64 lv] rfl rfl (World.news_of_block (cs:=#[a.x,a.y,a.z,lv]) (t:=39) (fr:=(0,0)) (heap_alloc_new W _)) (by simp [Value.oneCell']) (by have:=HLL.out;simp only [maxLen];omega) (by have:=HLL.out;omega) (by simp;omega) ?_;intro v6 W6 hown6 hgr6 hnil6 hat6;obtain ⟨va6,vc6,rfl⟩:=row_form hown6;have hpu:=Bx.mk (HW.out.push (x:=(a,n)) K1.out ((World.grownBy_alloc W _ _).trans hgr6) (by have h:=hown6;unfold dcell;rw [HLV.out];exact h) (hat6.imp (fun h=>h) (fun h=>⟨_,h,by simp⟩)));have k6:Bk W6 po #[.slice va L.length vc] 51:=(hgr6.block po (by simp;omega) (fun e=>(Hnav.out po e.symm) HW.out.av.2.1)).trans (blk_old K1.out);have o6:=k6.cell 0 rfl;have f6:=k6.frozen 0;clear hown6 hgr6 hnil6 hat6 k6)
 go_end0
 exact ⟨rfl,hpu.out.1,fun k hk hne=>(hpu.out.2 k hk hne).trans (HB.out.block k (HH.out.lt k hk))⟩
end
end Go.Proofs.YtfcbajmjaifjlaaGreat
