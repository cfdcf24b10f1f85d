/- Eap, Efl, Rwa, Fil: joined by program, for one claim. -/
import Derived.Test.YtfcbajmjaifjlaaGreatDoorM16
import Derived.Shelf.Abstract
set_option maxHeartbeats 2000000
set_option maxRecDepth 100000
set_option linter.unusedVariables false
set_option linter.unusedSimpArgs false
namespace Go.Proofs.YtfcbajmjaifjlaaGreatDoor
section
open Go.RowKit Go.Sort Go.Maps
open Oct
theorem zET (n:Nat) (hn:n≤14) (ax ay az m:Int) (hm:m=2 ^ n) (hx : -100000≤ax∧ax≤100000) (hy : -100000≤ay∧ay≤100000) (hz : -100000≤az∧az≤100000) (pg:Nat) (a b c d e f i:Int) (w:World) (kb:Bk w pg #[a,b,c,d,e,f] 25) :
 Calls Tryz.prog 112 #[zH ax ay az (n:Int),i,.pointer (some ⟨pg,0,none⟩)] w fun e' w'=>e'=zLK i (zG (zD ⟨⟨ax,ay,az⟩,⟨ax+m,ay+m,az+m⟩⟩ ⟨⟨a,b,c⟩,⟨d,e,f⟩⟩)) 0∧Below w.heap.size w w':=by
 have hbox:=Bx.mk (fun W=>zBe n hn ax ay az m hm hx hy hz W);have hmeet:=Bx.mk (fun W=>zA1 ax ay az (ax+m) (ay+m) (az+m) a b c d e f W);generalize hM:zD ⟨⟨ax,ay,az⟩,⟨ax+m,ay+m,az+m⟩⟩ ⟨⟨a,b,c⟩,⟨d,e,f⟩⟩=M at *;have hempty:=Bx.mk (fun W=>zj M.lo.x M.lo.y M.lo.z M.hi.x M.hi.y M.hi.z W);rw [show (⟨⟨M.lo.x,M.lo.y,M.lo.z⟩,⟨M.hi.x,M.hi.y,M.hi.z⟩⟩:Box)=M from rfl] at hempty;clear hM hm hx hy hz;go_enter Tryz.func112,Tryz.ntmps112;go_wp2_with fail;generalize hW:World.alloc w _=W;have hSz:=sz1 hW;have hB:=bl1 hW;have kp:Bk W (w.heap.size) #[ax,ay,az,(n:Int)] 52:=bk0 hW;replace kb:=kb.later hB;clear hW;obtain ⟨cp0,cp1,cp2,cp3⟩:=kp.r4;obtain ⟨cb0,cb1,cb2,cb3,cb4,cb5⟩:=kb.r6;have q0:=Bx.mk fun dk osk=>Calls.regrown_of (hbox.out (grow (redrawn W dk) osk));have q1:=Bx.mk fun dk osk=>Calls.regrown_of (hmeet.out (grow (redrawn W dk) osk));have q2:=Bx.mk fun dk osk=>Calls.regrown_of (hempty.out (grow (redrawn W dk) osk));refine wp_region_quiet_below (by kernel_rfl) (by kernel_rfl) ?_
 repeat (first | go_big_quiet_step ((first | with_reducible exact q0.out _ _ | with_reducible exact q1.out _ _ | with_reducible exact q2.out _ _)) | quiet_step (first | with_reducible exact q0.out _ _ | with_reducible exact q1.out _ _ | with_reducible exact q2.out _ _))
 refine wpQuiet_nil ?_;rintro _ ⟨⟨dq,osq⟩,rfl⟩;have hb:=below_regrown W dq osq;clear cp0 cp1 cp2 cp3 cb0 cb1 cb2 cb3 cb4 cb5;clear q0 q1 q2;replace hB:=hB.trans (hb.mono hB.size);clear hb kp kb hSz;generalize grow (redrawn W dq) osq=W1 at *;go_wp2_with fail
 go_ret3
 exact ⟨rfl,hB⟩
structure FillP (gb gs gc gk gd sb:Nat) (a b c d e f cell:Int) (w:World):Prop where
 kb:Bk w gb #[a,b,c,d,e,f] 25
 ks:Bk w gs #[.pointer (some ⟨sb,0,none⟩)] 33
 kc:Bk w gc #[cell] 3
 kk:Bk w gk #[.func (.func 112) #[] #[.pointer (some ⟨gd,0,none⟩)]] 87
 kd:Bk w gd #[a,b,c,d,e,f] 25
abbrev FillF (gb gs gc gk gd:Nat):Nat→Prop:=fun x=>x=gb∨x=gs∨x=gc∨x=gk∨x=gd
theorem FillP.stays (gb gs gc gk gd sb:Nat) (a b c d e f cell:Int):zDv (FillF gb gs gc gk gd) (FillP gb gs gc gk gd sb a b c d e f cell):=fun x y hk h =>
 ⟨h.kb.keeps hk (.inl rfl),h.ks.keeps hk (.inr (.inl rfl)),h.kc.keeps hk (.inr (.inr (.inl rfl))),h.kk.keeps hk (.inr (.inr (.inr (.inl rfl)))),h.kd.keeps hk (.inr (.inr (.inr (.inr rfl))))⟩
theorem FillP.later {gb gs gc gk gd sb:Nat} {a b c d e f cell:Int} {w w':World} (h:FillP gb gs gc gk gd sb a b c d e f cell w) (hb:Below w.heap.size w w'):FillP gb gs gc gk gd sb a b c d e f cell w':=FillP.stays gb gs gc gk gd sb a b c d e f cell _ _ (Keeps.below hb) h
theorem zL0 (n:Nat) (hn:n≤14) (ax ay az m:Int) (hm:m=2 ^ n) (hx : -100000≤ax∧ax≤100000) (hy : -100000≤ay∧ay≤100000) (hz : -100000≤az∧az≤100000) (gb gs gc gk gd sb:Nat) (a b c d e f cell i:Int) (w:World) (HP:FillP gb gs gc gk gd sb a b c d e f cell w) (hcon:zQ ⟨⟨a,b,c⟩,⟨d,e,f⟩⟩ ⟨⟨ax,ay,az⟩,⟨ax+m,ay+m,az+m⟩⟩=true) (Far:Nat→Prop) (most:Int) (ts:List Tr) (hc:0≤cell∧cell≤255) (hG:Good ts) (hlen:ts.length≤1000000000000) (hFar : ∀ k,Far k→k<w.heap.size) (hS:StoreIs w Far sb most ts) :
 Calls Tryz.prog 65 #[zH ax ay az (n:Int),i,.pointer (some ⟨gb,0,none⟩),.pointer (some ⟨gs,0,none⟩),.pointer (some ⟨gc,0,none⟩),.pointer (some ⟨gk,0,none⟩)] w fun e' w' => ∃ i er:Int,e'=zLK i true er∧Keeps Far w w'∧Ended Far sb most ts (Tr.add (.uni cell) ts) (.uni cell) i er w':=by
 have hbox:=Bx.mk (fun W=>zBe n hn ax ay az m hm hx hy hz W);have hcn:=Bx.mk (fun W=>zA3 a b c d e f ax ay az (ax+m) (ay+m) (az+m) W);rw [hcon] at hcn;have huni:=Bx.mk (fun W (hb:Below w.heap.size w W)=>zBD W Far sb most ts cell hc hG hlen (fun k hk=>Nat.lt_of_lt_of_le (hFar k hk) hb.size) (hS.later hb));clear hcon hm hx hy hz hG hlen hFar hS;go_enter Tryz.func65,Tryz.ntmps65;go_wp2_with fail;generalize hW:World.alloc w _=W;have hB:=bl1 hW;have kp:Bk W (w.heap.size) #[ax,ay,az,(n:Int)] 52:=bk0 hW;have kb:=HP.kb.later hB;clear hW;obtain ⟨cp0,cp1,cp2,cp3⟩:=kp.r4;obtain ⟨cb0,cb1,cb2,cb3,cb4,cb5⟩:=kb.r6;have q0:=Bx.mk fun dk osk=>Calls.regrown_of (hbox.out (grow (redrawn W dk) osk));have q1:=Bx.mk fun dk osk=>Calls.regrown_of (hcn.out (grow (redrawn W dk) osk));refine wp_region_quiet_below (by kernel_rfl) (by kernel_rfl) ?_
 repeat (first | go_big_quiet_step ((first | with_reducible exact q0.out _ _ | with_reducible exact q1.out _ _)) | quiet_step (first | with_reducible exact q0.out _ _ | with_reducible exact q1.out _ _))
 refine wpQuiet_nil ?_;rintro _ ⟨⟨dq,osq⟩,rfl⟩;have hb:=below_regrown W dq osq;clear cp0 cp1 cp2 cp3 cb0 cb1 cb2 cb3 cb4 cb5;clear q0 q1;replace hB:=hB.trans (hb.mono hB.size);replace kp:=kp.later hb;clear hb kb hcn hbox;generalize grow (redrawn W dq) osq=W1 at *;have HP1:=HP.later hB;have cs:=HP1.ks.cell 0 rfl;have cc:=HP1.kc.cell 0 rfl;go_wp2_with fail;refine (huni.out _ hB).mono ?_;rintro e2 w2 hg;obtain ⟨j,er,rfl,hend⟩:=hg.ends;have hk:=Bx.mk (((Keeps.below hB).trans hg.keeps:Keeps Far w w2));have Hend:=Bx.mk hend;clear cs cc hg hend;go_wp2_with fail
 go_ret3
 exact ⟨_,_,rfl,hk.out,Hend.out⟩
theorem zJ8 (n:Nat) (hn:n≤14) (ax ay az m:Int) (hm:m=2 ^ n) (hx : -100000≤ax∧ax≤100000) (hy : -100000≤ay∧ay≤100000) (hz : -100000≤az∧az≤100000) (gb gs gc gk gd sb:Nat) (a b c d e f cell i:Int) (w:World) (HP:FillP gb gs gc gk gd sb a b c d e f cell w) (hcon:zQ ⟨⟨a,b,c⟩,⟨d,e,f⟩⟩ ⟨⟨ax,ay,az⟩,⟨ax+m,ay+m,az+m⟩⟩=false):Calls Tryz.prog 65 #[zH ax ay az (n:Int),i,.pointer (some ⟨gb,0,none⟩),.pointer (some ⟨gs,0,none⟩),.pointer (some ⟨gc,0,none⟩),.pointer (some ⟨gk,0,none⟩)] w fun e' w'=>e'=zLK i (zG (zD ⟨⟨ax,ay,az⟩,⟨ax+m,ay+m,az+m⟩⟩ ⟨⟨a,b,c⟩,⟨d,e,f⟩⟩)) 0∧Below w.heap.size w w':=by
 have hbox:=Bx.mk (fun W=>zBe n hn ax ay az m hm hx hy hz W);have hcn:=Bx.mk (fun W=>zA3 a b c d e f ax ay az (ax+m) (ay+m) (az+m) W);rw [hcon] at hcn;have hap:=Bx.mk (fun W (hb:Below w.heap.size w W)=>zET n hn ax ay az m hm hx hy hz gd a b c d e f i W (HP.later hb).kd);generalize zG (zD ⟨⟨ax,ay,az⟩,⟨ax+m,ay+m,az+m⟩⟩ ⟨⟨a,b,c⟩,⟨d,e,f⟩⟩)=z at *;clear hcon hm hx hy hz;go_enter Tryz.func65,Tryz.ntmps65;go_wp2_with fail;generalize hW:World.alloc w _=W;have hB:=bl1 hW;have kp:Bk W (w.heap.size) #[ax,ay,az,(n:Int)] 52:=bk0 hW;have kb:=HP.kb.later hB;clear hW;obtain ⟨cp0,cp1,cp2,cp3⟩:=kp.r4;obtain ⟨cb0,cb1,cb2,cb3,cb4,cb5⟩:=kb.r6;have q0:=Bx.mk fun dk osk=>Calls.regrown_of (hbox.out (grow (redrawn W dk) osk));have q1:=Bx.mk fun dk osk=>Calls.regrown_of (hcn.out (grow (redrawn W dk) osk));refine wp_region_quiet_below (by kernel_rfl) (by kernel_rfl) ?_
 repeat (first | go_big_quiet_step ((first | with_reducible exact q0.out _ _ | with_reducible exact q1.out _ _)) | quiet_step (first | with_reducible exact q0.out _ _ | with_reducible exact q1.out _ _))
 refine wpQuiet_nil ?_;rintro _ ⟨⟨dq,osq⟩,rfl⟩;have hb:=below_regrown W dq osq;clear cp0 cp1 cp2 cp3 cb0 cb1 cb2 cb3 cb4 cb5;clear q0 q1;replace hB:=hB.trans (hb.mono hB.size);replace kp:=kp.later hb;clear hb kb hcn hbox;generalize grow (redrawn W dq) osq=W1 at *;have HP1:=HP.later hB;have ck:W1.cell? ⟨gk,0,none⟩=some (.func (.func 112) #[] #[.pointer (some ⟨gd,0,none⟩)]):=HP1.kk.cell 0 rfl;obtain ⟨cp0,cp1,cp2,cp3⟩:=kp.c4;go_wp2_with fail;refine (hap.out _ hB).mono ?_;rintro e2 w2 ⟨rfl,hb⟩;have hB2:=Bx.mk (hB.trans (hb.mono hB.size));clear ck cp0 cp1 cp2 cp3 hb hap;go_wp2_with fail
 go_ret3
 exact ⟨rfl,hB2.out⟩
theorem zKV {c:Int} : ∀ (n:Nat) (a:Pt) (f:Pt→Int),Tr.Al n a→(∀ p,Tr.InC n a p→f p=c)→Tr.can f n a = .uni c
 | 0, a, f, ha, h => by
   unfold Tr.can Tr.mkBrick
   have key : ∀ x∈(List.range 64).map fun k=>f (Tr.cellAt a k),x=c:=by
    intro x hx;obtain ⟨k,hk,rfl⟩:=List.mem_map.1 hx;exact h _ (Tr.inC_cell ha (List.mem_range.1 hk) rfl).1
   have h0:((List.range 64).map fun k=>f (Tr.cellAt a k)).headD 0=c:=by
    rw [show List.range 64=0::(List.range 63).map Nat.succ from List.range_succ_eq_map];simp only [List.map_cons,List.headD_cons];exact key _ (List.mem_map.2 ⟨0,by simp,rfl⟩)
   rw [h0,if_pos key]
 | n + 1, a, f, ha, h => by
   have key : ∀ i:Fin 8,Tr.can f n (Tr.cor a n i.val) = .uni c:=fun i=>zKV n _ f (Tr.al_cor ha _) fun p hp=>h p (Tr.inC_other ha hp).2;unfold Tr.can Tr.mkInner;rw [if_pos ⟨⟨c,key 0⟩,fun i=>(key i).trans (key 0).symm⟩];exact key 0
theorem zGl {b1 b2:Box} (h:zQ b1 b2=true) {p:Pt} (hp:inB p b2=true):inB p b1=true:=by
 unfold zQ at h;rw [zt hp,Bool.false_or,decide_eq_true_eq] at h;unfold zD at h;split at h
 · rw [←h] at hp;exfalso;have:=zX.1 hp;simp only [Box.zero] at this;omega
 · rw [←h] at hp;exact (zGd.1 hp).1
abbrev zBb (n:Nat) (a:Pt):Box:=⟨⟨a.x,a.y,a.z⟩,⟨a.x+2 ^ (n+2),a.y+2 ^ (n+2),a.z+2 ^ (n+2)⟩⟩
theorem InT.cube {N n:Nat} {a:Pt} (h:InT N n a) {p:Pt} (hp:Tr.InC n a p):inB p (zBb n a)=true:=zEq rfl (show Tr.Al n ⟨a.x,a.y,a.z⟩ from h.al) hp
theorem InT.whole {N n:Nat} {a:Pt} (h:InT N n a) {p:Pt} (hp:Tr.InC n a p):inB p (zCq N)=true:=by
 have h1:=zX.1 (h.cube hp);simp only [] at h1;obtain ⟨-,-,x,y,z⟩:=h;exact zX.2 ⟨by show (0:Int)≤_;omega,by show _<(2:Int) ^ (N+2);omega,by show (0:Int)≤_;omega,by show _<(2:Int) ^ (N+2);omega,by show (0:Int)≤_;omega,by show _<(2:Int) ^ (N+2);omega⟩
theorem zN2 {N n:Nat} {a:Pt} (h:InT N n a) {b:Box} {c:Int} {f:Pt→Int} (hc:zQ b (zBb n a)=true):Tr.can (zBA N b c f) n a = .uni c :=
 zKV n a _ h.al fun p hp=>by
  unfold zBA;rw [zGl hc (h.cube hp),h.whole hp];rfl
theorem zFg {b1 b2:Box} (h:zG (zD b1 b2)=true) {p:Pt} (h1:inB p b1=true):inB p b2=false:=by
 cases h2:inB p b2 with
 | false=>rfl
 | true=>rw [zt (zCk h1 h2).1] at h;cases h
theorem zLx {N n:Nat} {a:Pt} (h:InT N n a) {b:Box} {c:Int} {f:Pt→Int} (hc:zG (zD (zBb n a) b)=true):Tr.can (zBA N b c f) n a=Tr.can f n a :=
 Tr.can_congr n a h.al fun p hp=>by
  unfold zBA;rw [zFg hc (h.cube hp)];rfl
theorem zJW {N n:Nat} {a:Pt} (h:InT N n a) {b:Box} {xs:List Int} {f:Pt→Int} (hc:zG (zD (zBb n a) b)=true):Tr.can (zAd N b xs f) n a=Tr.can f n a :=
 Tr.can_congr n a h.al fun p hp=>by
  unfold zAd;rw [zFg hc (h.cube hp)];rfl
theorem zDR {Far:Nat→Prop} {sb:Nat} {most:Int} {us:List Tr} {t:Tr} {U:Prop} {w w':World} (ht:t∈us) (hS:StoreIs w Far sb most us) (hb:Below w.heap.size w w'):NodeSays Far sb most us t U w (zLK (idT us t:Int) true 0) w':=by
 refine ⟨Keeps.below hb,.inl ?_⟩;rw [Tr.add_same _ _ ht];exact ⟨.inl rfl,rfl,hS.later hb⟩
theorem zJJ {Far:Nat→Prop} {sb:Nat} {most:Int} {us:List Tr} {t:Tr} {U:Prop} {w w':World} {i er:Int} (hk:Keeps Far w w') (h:Ended Far sb most us (Tr.add t us) t i er w'):NodeSays Far sb most us t U w (zLK i true er) w':=by
 refine ⟨hk,?_⟩;obtain ⟨way⟩:=h;rcases way with ⟨rfl,h1,rfl,h2⟩ | ⟨rfl,rfl,h1,us',h2,h3,h4,h5⟩
 · exact .inl ⟨h1,rfl,h2⟩
 · exact .inr (.inl ⟨h1,⟨true,rfl⟩,us',h2,h3,h4,h5⟩)
theorem InT.far {N n:Nat} {a:Pt} (hN:N≤12) (h:InT N n a):(-100000≤a.x∧a.x≤100000)∧(-100000≤a.y∧a.y≤100000)∧(-100000≤a.z∧a.z≤100000):=by
 have:=h.bd hN;omega
theorem zJ4 {N:Nat} (hN:N≤12) (gb gs gc gk gd sb:Nat) (a b c d e f cell:Int) (hc:0≤cell∧cell≤255) (most:Int) (g:Pt→Int) (W:World) (Far:Nat→Prop) (us:List Tr) (n:Nat) (p:Pt) (hin:InT N n p) (hP:FillP gb gs gc gk gd sb a b c d e f cell W) (hG:Good us) (ht:Tr.can g n p∈us) (hlen:(Tr.add (Tr.can (zBA N ⟨⟨a,b,c⟩,⟨d,e,f⟩⟩ cell g) n p) us).length≤4000000) (hFar : ∀ k,Far k→k<W.heap.size) (hS:StoreIs W Far sb most us) :
 Calls Tryz.prog 65 #[zH p.x p.y p.z ((n:Int)+2),(idT us (Tr.can g n p):Int),.pointer (some ⟨gb,0,none⟩),.pointer (some ⟨gs,0,none⟩),.pointer (some ⟨gc,0,none⟩),.pointer (some ⟨gk,0,none⟩)] W (NodeSays Far sb most us (Tr.can (zBA N ⟨⟨a,b,c⟩,⟨d,e,f⟩⟩ cell g) n p) True W):=by
 obtain ⟨b1,b2,b3⟩:=hin.far hN;have hle:=hin.le;have hl:=(Tr.add_prefix (Tr.can (zBA N ⟨⟨a,b,c⟩,⟨d,e,f⟩⟩ cell g) n p) us).length_le;have e2:((n+2:Nat):Int)=(n:Int)+2:=by omega
 cases hcon:zQ ⟨⟨a,b,c⟩,⟨d,e,f⟩⟩ (zBb n p) with
 | true =>
   have h:=zL0 (n+2) (by omega) p.x p.y p.z _ rfl b1 b2 b3 gb gs gc gk gd sb a b c d e f cell (idT us (Tr.can g n p):Int) W hP hcon Far most us hc hG (by omega) hFar hS
   rw [e2] at h;refine h.mono ?_;rintro e' w' ⟨i,er,rfl,hk,hend⟩;rw [zN2 hin hcon];exact zJJ hk hend
 | false =>
   have h:=zJ8 (n+2) (by omega) p.x p.y p.z _ rfl b1 b2 b3 gb gs gc gk gd sb a b c d e f cell (idT us (Tr.can g n p):Int) W hP hcon
   rw [e2] at h;refine h.mono ?_;rintro e' w' ⟨rfl,hb⟩;cases hem:zG (zD (zBb n p) ⟨⟨a,b,c⟩,⟨d,e,f⟩⟩) with
   | true =>
     rw [zLx hin hem];exact zDR ht hS hb
   | false=>exact ⟨Keeps.below hb,.inr (.inr ⟨trivial,⟨_,rfl⟩,hb⟩)⟩
theorem zH3 {N:Nat} (hN:N≤12) (gd sb:Nat) (a b c d e f:Int) (xs:List Int) (most:Int) (g:Pt→Int) (W:World) (Far:Nat→Prop) (us:List Tr) (n:Nat) (p:Pt) (hin:InT N n p) (hP:Bk W gd #[a,b,c,d,e,f] 25) (ht:Tr.can g n p∈us) (hS:StoreIs W Far sb most us) :
 Calls Tryz.prog 112 #[zH p.x p.y p.z ((n:Int)+2),(idT us (Tr.can g n p):Int),.pointer (some ⟨gd,0,none⟩)] W (NodeSays Far sb most us (Tr.can (zAd N ⟨⟨a,b,c⟩,⟨d,e,f⟩⟩ xs g) n p) True W):=by
 obtain ⟨b1,b2,b3⟩:=hin.far hN;have hle:=hin.le;have e2:((n+2:Nat):Int)=(n:Int)+2:=by omega
 have h:=zET (n+2) (by omega) p.x p.y p.z _ rfl b1 b2 b3 gd a b c d e f (idT us (Tr.can g n p):Int) W hP
 rw [e2] at h;refine h.mono ?_;rintro e' w' ⟨rfl,hb⟩;cases hem:zG (zD (zBb n p) ⟨⟨a,b,c⟩,⟨d,e,f⟩⟩) with
 | true =>
   rw [zJW hin hem];exact zDR ht hS hb
 | false=>exact ⟨Keeps.below hb,.inr (.inr ⟨trivial,⟨_,rfl⟩,hb⟩)⟩
end
section
open Go.RowKit Go.Sort
theorem zLG (fid:FuncId) (caps:Array Value) (g:Nat) (a b c d e f a2 b2 c2 d2 e2 f2 la lb lc ld le lf:Int) (cs:Value) (hS:Small ⟨⟨a,b,c⟩,⟨d,e,f⟩⟩ 1048575)
 (hM:zD ⟨⟨a,b,c⟩,⟨d,e,f⟩⟩ ⟨⟨a2,b2,c2⟩,⟨d2,e2,f2⟩⟩=⟨⟨la,lb,lc⟩,⟨ld,le,lf⟩⟩) (hbd : -1048576≤la ∧ -1048576≤lb ∧ -1048576≤lc∧ld≤1048576∧le≤1048576∧lf≤1048576∧la≤ld∧lb≤le∧lc≤lf)
 (HE:Bx (∀ (args:Array Value) (W:World),(callFunc fid args).run Tryz.prog W = .ok (.enter fid args) W)) (I:Int→Int→World→Prop) (w:World) (hg:g<w.heap.size) (hI : ∀ z y W W',I z y W→Below W.heap.size W W'→I z y W') (h0:I lc lb w)
 (hcall : ∀ z y W,lc≤z→z<lf→lb≤y→y<le→I z y W→w.grownBy W (some g)→Calls Tryz.prog fid (#[.int .i64 (zT ⟨⟨a,b,c⟩,⟨d,e,f⟩⟩ ⟨la,y,z⟩),.agg #[la,y,z],.int .i64 (ld - la)]++caps) W fun e' W'=>e' = .returned (.tuple #[])∧I z (y+1) W'∧W.grownBy W' (some g))
 (hnext : ∀ z W,lc≤z→z<lf→I z le W→I (z+1) lb W) :
 Calls Tryz.prog 114 #[.agg #[a,b,c,d,e,f,cs],.agg #[a2,b2,c2,d2,e2,f2],.func (.func fid) #[] caps] w fun e' w'=>e' = .returned (.tuple #[])∧I lf lb w'∧w.grownBy w' (some g):=by
 have HI:=Bx.mk hI;have H0:=Bx.mk h0;have Hc:=Bx.mk hcall;have Hn:=Bx.mk hnext;have hmeet:=Bx.mk fun W=>zA1 a b c d e f a2 b2 c2 d2 e2 f2 W;rw [hM] at hmeet;have hind:=Bx.mk fun y z W=>zCH a b c d e f la y z hS W;clear hI h0 hcall hnext hM hS;go_enter Tryz.func114,Tryz.ntmps114;go_wp2_with fail;generalize hW:World.alloc (World.alloc w _) _=W;have hSz:=sz2 hW;have hB:=bl2 hW;have kg:Bk W (w.heap.size) #[a,b,c,d,e,f,cs] 28:=bk1 hW;have kb:Bk W (w.heap.size+1) #[a2,b2,c2,d2,e2,f2] 25:=bk0 hW;clear hW;obtain ⟨cg0,cg1,cg2,cg3,cg4,cg5,cg6⟩:=kg.c7;obtain ⟨cb0,cb1,cb2,cb3,cb4,cb5⟩:=kb.c6;go_wp2_with fail;refine (hmeet.out _).mono ?_;rintro e' w1 ⟨rfl,hb⟩;clear hmeet;clear cg0 cg1 cg2 cg3 cg4 cg5 cg6 cb0 cb1 cb2 cb3 cb4 cb5;replace hB:=hB.trans (hb.mono hB.size);replace kg:=kg.later hb;replace kb:=kb.later hb;replace hSz:=Nat.le_trans hSz hb.size;clear hb;obtain ⟨gm,hgm⟩ : ∃ gm,gm=w1.heap.size:=⟨_,rfl⟩;clear kb;have b1:=hbd.1;go_wp2_with fail;generalize hW2:World.alloc w1 _=W2;have km:Bk W2 gm #[la,lb,lc,ld,le,lf] 25:=by rw [hgm,←hW2];exact zI _ _ _ rfl
 have hb:=bl1 hW2;rw [←hgm];have hgg:g<gm:=by omega
 replace hB:=hB.trans (hb.mono hB.size);replace kg:=kg.later hb;have hG:w.grownBy W2 (some g):=⟨hB.os,hB.tape,hB.output,hB.size,fun k hk _=>hB.block k hk⟩;have hJ:=HI.out _ _ _ _ H0.out hB;clear hW2 hb hB H0 hSz hgm;have Hbd:=Bx.mk hbd;clear hbd b1
 go_loopw [7] (fun i wr => ∃ z:Int,lc≤z∧z≤lf∧i = .int .i64 z∧Bk wr w.heap.size #[a,b,c,d,e,f,cs] 28∧Bk wr gm #[la,lb,lc,ld,le,lf] 25∧I z lb wr∧w.grownBy wr (some g)) (fun i _=>(lf - intOf i).toNat)
 case atStart=>exact ⟨lc,by omega,Hbd.out.2.2.2.2.2.2.2.2,rfl,kg,km,hJ,hG⟩
 case round =>
  clear kg km hJ hG;obtain ⟨z,z1,z2,rfl,kg,km,hJ,hG⟩:=hrel;have hJ':=Bx.mk hJ;have hG':=Bx.mk hG;clear hJ hG;obtain ⟨cm0,cm1,cm2,cm3,cm4,cm5⟩:=km.c6;by_cases hz:z<lf
  · go_wp2_with fail;clear cm0 cm1 cm2 cm3 cm4 cm5;obtain ⟨wo,hwo⟩ : ∃ wo:World,wo=wr:=⟨_,rfl⟩;rw [←hwo] at kg km hJ' hG';have Kgo:=Bx.mk kg;have Kmo:=Bx.mk km;clear kg km
    go_loopw [8] (fun i wr => ∃ y:Int,lb≤y∧y≤le∧i = .int .i64 y∧Bk wr w.heap.size #[a,b,c,d,e,f,cs] 28∧Bk wr gm #[la,lb,lc,ld,le,lf] 25∧I z y wr∧w.grownBy wr (some g)) (fun i _=>(le - intOf i).toNat)
    case atStart=>subst hwo;exact ⟨lb,by omega,Hbd.out.2.2.2.2.2.2.2.1,rfl,Kgo.out,Kmo.out,hJ'.out,hG'.out⟩
    case round =>
     clear Kgo Kmo hJ' hG' hwo;obtain ⟨y,y1,y2,rfl,kg,km,hJ,hG⟩:=hrel;by_cases hy:y<le
     · have hB:=Below.refl wr.heap.size wr;have hSz:=Nat.le_refl wr.heap.size;have hgw:w.heap.size≤wr.heap.size:=hG.size;have hJ':=Bx.mk hJ;have hG':=Bx.mk hG;clear hJ hG;obtain ⟨cm0,cm1,cm2,cm3,cm4,cm5⟩:=km.c6;go_wp2_with fail;generalize hW:World.alloc wr _=W;have hb:=bl1 hW;have kp:Bk W wr.heap.size #[la,y,z] 23:=bk0 hW rfl;clear hW hSz cm0 cm1 cm2 cm3 cm4 cm5;replace hB:=hb;replace kg:=kg.later hb;replace km:=km.later hb;have hSz:=hb.size;have i1:=IntWalk.i64_in (ld - la) (by have:=Hbd.out;omega)
       obtain ⟨cg0,cg1,cg2,cg3,cg4,cg5,cg6⟩:=kg.r7;obtain ⟨cm0,cm1,cm2,cm3,cm4,cm5⟩:=km.r6;obtain ⟨cp0,cp1,cp2⟩:=kp.r3;have q0:=Bx.mk fun dk osk=>Calls.regrown_of (hind.out y z (grow (redrawn W dk) osk));refine zm 13 (by kernel_rfl) (by kernel_rfl) ?_
       simp only [List.take_succ_cons,List.take_zero,List.drop_succ_cons,List.drop_zero]
       repeat (first | go_big_quiet_step ((first | with_reducible exact q0.out _ _)) | quiet_step (first | with_reducible exact q0.out _ _))
       refine wpQuiet_nil ?_;rintro _ ⟨⟨dq,osq⟩,rfl⟩;have hb:=below_regrown W dq osq;replace hB:=hB.trans (hb.mono hB.size);clear cg0 cg1 cg2 cg3 cg4 cg5 cg6;clear cm0 cm1 cm2 cm3 cm4 cm5;clear cp0 cp1 cp2;clear q0;replace kg:=kg.later hb;replace km:=km.later hb;replace kp:=kp.later hb;replace hSz:=Nat.le_trans hSz hb.size;clear hb;generalize grow (redrawn W dq) osq=W1 at *;go_wp2_with fail;rw [HE.out _ _];refine (Hc.out z y W1 z1 hz y1 hy (HI.out _ _ _ _ hJ'.out hB) (zBL hG'.out hB)).mono ?_;rintro e' w3 ⟨rfl,hJ,hb⟩;replace kg:=kg.grown hb (by omega)
       replace km:=km.grown hb (by omega)
       have hG:=zBK (zBL hG'.out hB) hb;have hJ':=Bx.mk hJ;have Kg:=Bx.mk kg;have Km:=Bx.mk km;have HG:=Bx.mk hG;clear hJ hG kg km hb hG' hB kp;have i2:=IntWalk.i64_in (y+1) (by have:=Hbd.out;omega)
       go_wp2_with fail
       go_roundw
       case rel=>exact ⟨y+1,by omega,by omega,rfl,Kg.out,Km.out,hJ'.out,HG.out⟩
       case measure=>simp [intOf];omega
     · obtain rfl:y=le:=by omega
       have hN:=HI.out _ _ _ _ (Hn.out z wr z1 hz hJ) (Below.refl _ _);have Kg:=Bx.mk kg;have Km:=Bx.mk km;have HN:=Bx.mk hN;have HG:=Bx.mk hG;clear hJ hG kg km hN;have cm:=Km.out;obtain ⟨cm0,cm1,cm2,cm3,cm4,cm5⟩:=cm.c6;clear cm;have i2:=IntWalk.i64_in (z+1) (by have:=Hbd.out;omega)
       go_wp2_with fail
       go_roundw
       case rel=>exact ⟨z+1,by omega,by omega,rfl,Kg.out,Km.out,HN.out,HG.out⟩
       case measure=>simp [intOf];omega
  · obtain rfl:z=lf:=by omega
    go_wp2_with fail
    go_end0
    exact ⟨rfl,hJ'.out,hG'.out⟩
theorem zDm (fid:FuncId) (caps:Array Value) (HE:Bx (∀ (args:Array Value) (W:World),(callFunc fid args).run Tryz.prog W = .ok (.enter fid args) W)) (a b c d e f:Int) (ga:Option Addr) (gcap:Nat) (xs zs:List Int) (w:World) (hX1:1≤xs.length) (hN:xs.length≤4194304) (hg:Sl w .i64 ga xs)
 (hclo:Bx (∀ Bd g N cap W,Below w.heap.size w W→w.heap.size≤g→N=xs.length→Own W Bd 3 .i64 (.slice (some ⟨g,0,none⟩) N cap) xs→Calls Tryz.prog fid (#[.slice (some ⟨g,0,none⟩) N cap]++caps) W fun e' w'=>e' = .returned (.tuple #[])∧Own w' Bd 3 .i64 (.slice (some ⟨g,0,none⟩) N cap) zs∧W.grownBy w' (some g))) :
 Calls Tryz.prog 97 #[.agg #[a,b,c,d,e,f,.slice ga xs.length gcap],.func (.func fid) #[] caps] w
  fun e' w' => ∃ v,e' = .returned (.agg #[a,b,c,d,e,f,v])∧Own w' w.heap.size 3 .i64 v zs∧Below w.heap.size w w':=by
 have hcl:=Bx.mk fun W h=>zCu ga gcap xs W (by omega) h
 have Hg:=Bx.mk hg;clear hg;go_enter Tryz.func97,Tryz.ntmps97;go_wp2_with fail;generalize hW:World.alloc (World.alloc w _) _=W;have hSz:=sz2 hW;have hB:=bl2 hW;have kr:Bk W (w.heap.size) #[a,b,c,d,e,f,.slice ga xs.length gcap] 28:=bk1 hW;have kq:Bk W (w.heap.size+1) #[(0:Int),(0:Int),(0:Int),(0:Int),(0:Int),(0:Int),.slice none 0 0] 28:=bk0 hW;clear hW;obtain ⟨cr0,cr1,cr2,cr3,cr4,cr5,cr6⟩:=kr.c7;go_wp2_with fail;refine (hcl.out _ (Hg.out.below hB)).mono ?_;rintro e' w1 ⟨v,rfl,ho,hb⟩;clear hcl;obtain ⟨Bd,hBd⟩ : ∃ Bd,Bd=W.heap.size:=⟨_,rfl⟩;rw [←hBd] at ho hb;have hSd:w.heap.size+2≤Bd:=by omega
 replace hb:Below W.heap.size W w1:=hBd ▸ hb;clear cr0 cr1 cr2 cr3 cr4 cr5 cr6;replace hB:=hB.trans (hb.mono hB.size);replace kr:=kr.later hb;replace kq:=kq.later hb;replace hSz:=Nat.le_trans hSz hb.size;clear hb;obtain ⟨g,cap,rfl,hg1,hg2,-,-,-⟩:=ho.at (by omega)
 go_wp2_with fail;rw [HE.out _ _];refine (hclo.out Bd g xs.length cap w1 hB (by omega) rfl ho).mono ?_
 rintro e' w3 ⟨rfl,h1,hgr⟩;clear hclo;replace hB:=hB.grown hgr hB.size (fun k hk=>by injection hk;omega)
 replace kr:=kr.grown hgr (by omega)
 replace kq:=kq.grown hgr (by omega)
 have H1:=Bx.mk h1;clear h1 hgr ho hg1 hg2 Hg;obtain ⟨cr0,cr1,cr2,cr3,cr4,cr5,cr6⟩:=kr.c7;obtain ⟨cq0,cq1,cq2,cq3,cq4,cq5,cq6⟩:=kq.c7;obtain ⟨fq0,fq1,fq2,fq3,fq4,fq5,fq6⟩:=kq.f7;go_wp2_with fail;replace kq:=kq.put7 (.int .i64 a) (.int .i64 b) (.int .i64 c) (.int .i64 d) (.int .i64 e) (.int .i64 f) (.slice (some ⟨g,0,none⟩) xs.length cap);exact bodyPost_ret (v:=.agg #[a,b,c,d,e,f,.slice (some ⟨g,0,none⟩) xs.length cap]) (results_cell_row rfl _ _ _ 28 #[a,b,c,d,e,f,.slice (some ⟨g,0,none⟩) xs.length cap] (0,0) _ rfl kq Tryz.underlying28 rfl (by kernel_rfl)) rfl ⟨_,rfl,(((((((H1.out.setBelow (by simp;omega) _).setBelow (by simp;omega) _).setBelow (by simp;omega) _).setBelow (by simp;omega) _).setBelow (by simp;omega) _).setBelow (by simp;omega) _).setBelow (by simp;omega) _).base (by omega),zKb hB (by omega) _ _ _ _ _ _ _⟩
theorem zG8 {ys cs:List Int} {k:Nat} (hk:k≤ys.length) (j:Nat):(over ys k cs)[j]? = if j<k then ys[j]? else if j<k+cs.length then cs[j - k]? else ys[j]? := by
 unfold over splice;by_cases h1:j<k
 · rw [if_pos h1,List.getElem?_append_left (by simp;omega),List.getElem?_take_of_lt h1]
 · rw [if_neg h1,List.getElem?_append_right (by simp;omega)]
   have e:(ys.take k).length=k:=by simp;omega
   rw [e];by_cases h2:j<k+cs.length
   · rw [if_pos h2,List.getElem?_append_left (by omega)]
   · rw [if_neg h2,List.getElem?_append_right (by omega),List.getElem?_drop]
     congr 1;omega
theorem zFW {ys:List Int} {k j:Nat} {c:Int} (hk:k+j<ys.length):(over ys k (List.replicate j c)).set (k+j) c=over ys k (List.replicate (j+1) c):=by
 apply List.ext_getElem?;intro i;rw [List.getElem?_set,zG8 (by omega),zG8 (by omega)]
 simp only [List.length_replicate];have hl:(over ys k (List.replicate j c)).length=ys.length:=zBG (by simp;omega)
 by_cases h1:k+j=i
 · subst h1;rw [if_pos rfl,if_pos (by omega),if_neg (by omega),if_pos (by omega)]
   simp
 · rw [if_neg h1];by_cases h2:i<k
   · rw [if_pos h2,if_pos h2]
   · rw [if_neg h2,if_neg h2];by_cases h3:i<k+j
     · rw [if_pos h3,if_pos (by omega)]
       rw [List.getElem?_replicate_of_lt (by omega),List.getElem?_replicate_of_lt (by omega)]
     · rw [if_neg h3,if_neg (by omega)]
theorem zLw (gc pb g k n N cap Bd:Nat) (px py pz c:Int) (ys:List Int) (w:World) (hkn:k+n≤N) (hN:N≤4194304) (kc:Bk w gc #[c] 3) (kb:Bk w pb #[.slice (some ⟨g,0,none⟩) N cap] 26) (ho:Own w Bd 3 .i64 (.slice (some ⟨g,0,none⟩) N cap) ys) (hgc:g ≠ gc) (hgb:g ≠ pb) :
 Calls Tryz.prog 115 #[(k:Int),.agg #[px,py,pz],(n:Int),.pointer (some ⟨gc,0,none⟩),.pointer (some ⟨pb,0,none⟩)] w fun e w' =>
  e = .returned (.tuple #[])∧Own w' Bd 3 .i64 (.slice (some ⟨g,0,none⟩) N cap) (over ys k (List.replicate n c))∧w.grownBy w' (some g):=by
 have hNl:ys.length=N:=ho.raw.choose_spec.2.2.2.2.2.2.symm;have Kc:=Bx.mk kc;have Kb:=Bx.mk kb;have Ho:=Bx.mk ho;clear kc kb ho;go_enter Tryz.func115,Tryz.ntmps115;go_wp2_with fail;generalize hW:World.alloc w _=W;have hb:=bl1 hW;clear hW
 have HI:Bx (Own W Bd 3 .i64 (.slice (some ⟨g,0,none⟩) N cap) (over ys k (List.replicate 0 c))∧Bk W gc #[c] 3∧Bk W pb #[.slice (some ⟨g,0,none⟩) N cap] 26∧w.grownBy W (some g)):=⟨by
  refine ⟨?_,Kc.out.later hb,Kb.out.later hb,⟨hb.os,hb.tape,hb.output,hb.size,fun k hk _=>hb.block k hk⟩⟩;have e:over ys k (List.replicate 0 c)=ys:=by unfold over splice;simp
  rw [e];exact Ho.out.below hb⟩
 clear Kc Kb Ho hb
 go_loopw [10] (fun i wr => ∃ j:Nat,j≤n∧i = .int .i64 j∧Bx (Own wr Bd 3 .i64 (.slice (some ⟨g,0,none⟩) N cap) (over ys k (List.replicate j c))∧Bk wr gc #[c] 3∧Bk wr pb #[.slice (some ⟨g,0,none⟩) N cap] 26∧w.grownBy wr (some g))) (fun i _=>n - (intOf i).toNat)
 case atStart=>exact ⟨0,Nat.zero_le _,rfl,HI⟩
 case round =>
  clear HI;obtain ⟨j,hj,rfl,hI⟩:=hrel;by_cases hlt:j<n
  · have hl:(over ys k (List.replicate j c)).length=N:=by rw [zBG (by simp;omega),hNl]
    obtain ⟨g',cap',hv,-,-,h3,h4,h5⟩:=hI.out.1.at (by omega)
    injection hv with hv1 hv2 hv3;injection hv1 with hv1;injection hv1 with hv1;subst hv1 hv3;obtain ⟨old,hold⟩ : ∃ x,(over ys k (List.replicate j c))[k+j]? = some x:=⟨_,List.getElem?_eq_getElem (by omega)⟩
    have hcell:=h3 (k+j) old hold;have hfr:=h4 (k+j);have h6:=h5 (k+j) c;rw [zFW (by omega),hl] at h6
    have hs:=Bx.mk (And.intro h6 (And.intro (hI.out.2.1.other ⟨g,k+j,none⟩ (.int .i64 c) (Ne.symm hgc)) (And.intro (hI.out.2.2.1.other ⟨g,k+j,none⟩ (.int .i64 c) (Ne.symm hgb)) (zC hI.out.2.2.2 (k+j) (.int .i64 c)))));have cc:=hI.out.2.1.cell 0 rfl;have cb:=hI.out.2.2.1.cell 0 rfl;have hw:IntKind.i64.wrap ((k:Int)+(j:Int))=((k+j:Nat):Int):=by rw [show (k:Int)+(j:Int)=((k+j:Nat):Int) by omega];exact IntWalk.i64_in _ (by omega)
    have b1:(0:Int)≤((k+j:Nat):Int):=by omega
    have b2:((k+j:Nat):Int)<(N:Int):=by omega
    have t0:decide ((j:Int)<(n:Int))=true:=by simp;omega
    clear hI h3 h4 h5 h6 hl hold;go_wp2_with fail
    go_roundw
    case rel=>exact ⟨j+1,by omega,by go_num,hs⟩
    case measure=>simp [intOf];omega
  · obtain rfl:j=n:=by omega
    have t0:decide ((j:Int)<(j:Int))=false:=by simp
    go_wp2_with fail
    go_end0
    exact ⟨rfl,hI.out.1,hI.out.2.2.2⟩
theorem zLy (pg pq pc g N cap Bd:Nat) (a b c d e f a2 b2 c2 d2 e2 f2 v:Int) (gc:Value) (xs:List Int) (w:World) (hSA:Small ⟨⟨a,b,c⟩,⟨d,e,f⟩⟩ 1048575)
 (hxl:xs.length=(zU ⟨⟨a,b,c⟩,⟨d,e,f⟩⟩).toNat) (hN:N≤4194304)
 (kg:Bk w pg #[a,b,c,d,e,f,gc] 28) (kq:Bk w pq #[a2,b2,c2,d2,e2,f2] 25) (kc:Bk w pc #[v] 3) (ho:Own w Bd 3 .i64 (.slice (some ⟨g,0,none⟩) N cap) xs) (hgp:g ≠ pc) :
 Calls Tryz.prog 113 #[.slice (some ⟨g,0,none⟩) N cap,.pointer (some ⟨pg,0,none⟩),.pointer (some ⟨pq,0,none⟩),.pointer (some ⟨pc,0,none⟩)] w fun e' w'=>e' = .returned (.tuple #[])∧Own w' Bd 3 .i64 (.slice (some ⟨g,0,none⟩) N cap) (zAc ⟨⟨a,b,c⟩,⟨d,e,f⟩⟩ ⟨⟨a2,b2,c2⟩,⟨d2,e2,f2⟩⟩ xs (List.replicate (zU ⟨⟨a2,b2,c2⟩,⟨d2,e2,f2⟩⟩).toNat v))∧w.grownBy w' (some g):=by
 obtain ⟨⟨⟨la,lb,lc⟩,⟨ld,le,lf⟩⟩,hM⟩ : ∃ M,zD ⟨⟨a,b,c⟩,⟨d,e,f⟩⟩ ⟨⟨a2,b2,c2⟩,⟨d2,e2,f2⟩⟩=M:=⟨_,rfl⟩;have hgl:=(ho.lt g rfl).2;have hNl:xs.length=N:=ho.raw.choose_spec.2.2.2.2.2.2.symm;have hsz:=kg.lt;have hsz2:=kc.lt;have cg:=fun (j:Nat) u (h:(#[a,b,c,d,e,f,gc]:Array Value)[j]? = some u)=>(kg.alloc (.cells #[.slice (some ⟨g,0,none⟩) N cap] 26)).cell j h;have cq:=fun (j:Nat) u (h:(#[a2,b2,c2,d2,e2,f2]:Array Value)[j]? = some u)=>(kq.alloc (.cells #[.slice (some ⟨g,0,none⟩) N cap] 26)).cell j h;have cg0:=cg 0 _ rfl;have cg1:=cg 1 _ rfl;have cg2:=cg 2 _ rfl;have cg3:=cg 3 _ rfl;have cg4:=cg 4 _ rfl;have cg5:=cg 5 _ rfl;have cg6:=cg 6 _ rfl;have cq0:=cq 0 _ rfl;have cq1:=cq 1 _ rfl;have cq2:=cq 2 _ rfl;have cq3:=cq 3 _ rfl;have cq4:=cq 4 _ rfl;have cq5:=cq 5 _ rfl;clear cg cq;go_enter Tryz.func113,Tryz.ntmps113;go_wp2_with fail;generalize hW:World.alloc w _=W;have hb:=bl1 hW;have kb:Bk W w.heap.size #[.slice (some ⟨g,0,none⟩) N cap] 26:=bk0 hW rfl;clear hW cg0 cg1 cg2 cg3 cg4 cg5 cg6 cq0 cq1 cq2 cq3 cq4 cq5;have kc1:=kc.later hb;have ho1:=ho.below hb;have hSz:=hb.size
 refine (zLG 115 #[.pointer (some ⟨pc,0,none⟩),.pointer (some ⟨w.heap.size,0,none⟩)] g a b c d e f a2 b2 c2 d2 e2 f2 la lb lc ld le lf gc hSA hM ?_ ⟨enters_of Tryz.func115 rfl rfl⟩
  (fun z y W'=>Own W' Bd 3 .i64 (.slice (some ⟨g,0,none⟩) N cap) (zBn ⟨⟨a,b,c⟩,⟨d,e,f⟩⟩ ⟨⟨a2,b2,c2⟩,⟨d2,e2,f2⟩⟩ xs (List.replicate (zU ⟨⟨a2,b2,c2⟩,⟨d2,e2,f2⟩⟩).toNat v) z y)∧Bk W' pc #[v] 3∧Bk W' w.heap.size #[.slice (some ⟨g,0,none⟩) N cap] 26) W (by omega) ?_ ?_ ?_ ?_).mono ?_
 · exact zJo hSA hM
 · rintro z y W1 W2 ⟨h1,h2,h3⟩ hb;exact ⟨h1.below hb,h2.later hb,h3.later hb⟩
 · refine ⟨?_,kc1,kb⟩;have:=zDW (A:=⟨⟨a,b,c⟩,⟨d,e,f⟩⟩) (B:=⟨⟨a2,b2,c2⟩,⟨d2,e2,f2⟩⟩) (ys:=(List.replicate (zU ⟨⟨a2,b2,c2⟩,⟨d2,e2,f2⟩⟩).toNat v)) hxl;rw [hM] at this;rw [this];exact ho1
 · rintro z y W1 z1 z2 y1 y2 ⟨h1,h2,h3⟩ hgr;obtain ⟨hlt,hrow⟩:=zJL hM ⟨z1,z2⟩ ⟨y1,y2⟩;have hr0:=hrow 0 (by omega) (by omega)
   rw [Int.add_zero] at hr0;obtain ⟨k,hk⟩ : ∃ k:Nat,zT ⟨⟨a,b,c⟩,⟨d,e,f⟩⟩ ⟨la,y,z⟩=(k:Int):=⟨_,(Int.toNat_of_nonneg (ze hr0.1).1).symm⟩;obtain ⟨from_,hf⟩ : ∃ k:Nat,zT ⟨⟨a2,b2,c2⟩,⟨d2,e2,f2⟩⟩ ⟨la,y,z⟩=(k:Int):=⟨_,(Int.toNat_of_nonneg (ze hr0.2).1).symm⟩;obtain ⟨n,hn⟩ : ∃ n:Nat,ld - la=(n:Int):=⟨(ld - la).toNat,by omega⟩
   obtain ⟨p1,p2,p3,p4⟩:=zFT (xs:=xs) (ys:=(List.replicate (zU ⟨⟨a2,b2,c2⟩,⟨d2,e2,f2⟩⟩).toNat v)) hM ⟨z1,z2⟩ ⟨y1,y2⟩ hk hf hn (by simp)
   have er:(((List.replicate (zU ⟨⟨a2,b2,c2⟩,⟨d2,e2,f2⟩⟩).toNat v)).drop from_).take n=List.replicate n v:=by
    rw [List.length_replicate] at p2;rw [List.drop_replicate,List.take_replicate]
    congr 1;omega
   rw [er] at p4;rw [hk,hn];refine (zLw pc w.heap.size g k n N cap Bd la y z v _ W1 (by omega) hN h2 h3 h1 hgp (by omega)).mono ?_
   rintro e' w3 ⟨rfl,h5,h6⟩;rw [p4] at h5;exact ⟨rfl,⟨h5,h2.grown h6 (Ne.symm hgp),h3.grown h6 (by omega)⟩,h6⟩
 · rintro z W1 z1 z2 ⟨h1,h2,h3⟩;have:=zEH (A:=⟨⟨a,b,c⟩,⟨d,e,f⟩⟩) (B:=⟨⟨a2,b2,c2⟩,⟨d2,e2,f2⟩⟩) (xs:=xs) (ys:=(List.replicate (zU ⟨⟨a2,b2,c2⟩,⟨d2,e2,f2⟩⟩).toNat v)) (z:=z);rw [hM] at this;rw [this] at h1;exact ⟨h1,h2,h3⟩
 · rintro e' w2 ⟨rfl,⟨h1,h2,h3⟩,h5⟩;have:=zFU (A:=⟨⟨a,b,c⟩,⟨d,e,f⟩⟩) (B:=⟨⟨a2,b2,c2⟩,⟨d2,e2,f2⟩⟩) (xs:=xs) (ys:=(List.replicate (zU ⟨⟨a2,b2,c2⟩,⟨d2,e2,f2⟩⟩).toNat v));rw [hM] at this;rw [this] at h1;go_wp2_with fail
   go_end0
   exact ⟨rfl,h1,(zBK ⟨hb.os,hb.tape,hb.output,hb.size,fun k hk _=>hb.block k hk⟩ h5)⟩
theorem zFo (a b c d e f a2 b2 c2 d2 e2 f2 v:Int) (ga:Option Addr) (gcap:Nat) (xs:List Int) (w:World) (hSA:Small ⟨⟨a,b,c⟩,⟨d,e,f⟩⟩ 1048575) (hxl:xs.length=(zU ⟨⟨a,b,c⟩,⟨d,e,f⟩⟩).toNat) (hX1:1≤xs.length) (hN:xs.length≤4194304) (hg:Sl w .i64 ga xs) :
 Calls Tryz.prog 68 #[.agg #[a,b,c,d,e,f,.slice ga xs.length gcap],.agg #[a2,b2,c2,d2,e2,f2],v] w (zIq a b c d e f xs.length (zAc ⟨⟨a,b,c⟩,⟨d,e,f⟩⟩ ⟨⟨a2,b2,c2⟩,⟨d2,e2,f2⟩⟩ xs (List.replicate (zU ⟨⟨a2,b2,c2⟩,⟨d2,e2,f2⟩⟩).toNat v)) w):=by
 have hch:=Bx.mk fun pg pq pc W (h1:Bk W pg #[a,b,c,d,e,f,.slice ga xs.length gcap] 28) (h2:Bk W pq #[a2,b2,c2,d2,e2,f2] 25) (h3:Bk W pc #[v] 3) (h4:Sl W .i64 ga xs) =>
  zDm 113 #[.pointer (some ⟨pg,0,none⟩),.pointer (some ⟨pq,0,none⟩),.pointer (some ⟨pc,0,none⟩)] ⟨enters_of Tryz.func113 rfl rfl⟩ a b c d e f ga gcap xs (zAc ⟨⟨a,b,c⟩,⟨d,e,f⟩⟩ ⟨⟨a2,b2,c2⟩,⟨d2,e2,f2⟩⟩ xs (List.replicate (zU ⟨⟨a2,b2,c2⟩,⟨d2,e2,f2⟩⟩).toNat v)) W hX1 hN h4
   ⟨fun Bd g N cap V hb hgs hNe ho=>zLy pg pq pc g N cap Bd a b c d e f a2 b2 c2 d2 e2 f2 v (.slice ga xs.length gcap) xs V hSA hxl (by omega) (h1.later hb) (h2.later hb) (h3.later hb) ho (by have:=h3.lt;omega)⟩
 have hlen:=Bx.mk (hxl.trans (zAh ⟨⟨a,b,c⟩,⟨d,e,f⟩⟩ ⟨⟨a2,b2,c2⟩,⟨d2,e2,f2⟩⟩ xs (List.replicate (zU ⟨⟨a2,b2,c2⟩,⟨d2,e2,f2⟩⟩).toNat v)).symm);have Hg:=Bx.mk hg;clear hSA hxl hX1 hN hg;go_enter Tryz.func68,Tryz.ntmps68;go_wp2_with fail;generalize hW:World.alloc (World.alloc (World.alloc (World.alloc w _) _) _) _=W;have hSz:w.heap.size+1+1+1+1≤W.heap.size:=by rw [←hW];simp
 have hB:Below w.heap.size w W:=by rw [←hW];exact ((((Below.refl _ _).alloc (Nat.le_refl _) _).alloc (by simp) _).alloc (by simp;omega) _).alloc (by simp;omega) _
 have kg:Bk W (w.heap.size) #[a,b,c,d,e,f,.slice ga xs.length gcap] 28:=by rw [←hW];exact zB (zB (zB (zI _ _ _ (by simp))))
 have kq:Bk W (w.heap.size+1) #[a2,b2,c2,d2,e2,f2] 25:=bk2 hW;have kc:Bk W (w.heap.size+1+1) #[v] 3:=bk1 hW;have kr:Bk W (w.heap.size+1+1+1) #[(0:Int),(0:Int),(0:Int),(0:Int),(0:Int),(0:Int),.slice none 0 0] 28:=bk0 hW;clear hW;obtain ⟨cg0,cg1,cg2,cg3,cg4,cg5,cg6⟩:=kg.c7;go_wp2_with fail;refine (hch.out _ _ _ _ kg kq kc (Hg.out.below hB)).mono ?_;rintro e' w1 ⟨u,rfl,ho,hb⟩;obtain ⟨Bd,hBd⟩ : ∃ Bd,Bd=W.heap.size:=⟨_,rfl⟩;rw [←hBd] at ho hb;have hSd:w.heap.size+4≤Bd:=by omega
 replace hb:Below W.heap.size W w1:=hBd ▸ hb;clear hch Hg;clear cg0 cg1 cg2 cg3 cg4 cg5 cg6;replace hB:=hB.trans (hb.mono hB.size);replace kg:=kg.later hb;replace kr:=kr.later hb;replace hSz:=Nat.le_trans hSz hb.size;clear hb;obtain ⟨pa,pe,rfl,-⟩:=ho.form;rw [←hlen.out] at ho;rw [←hlen.out];have Ho:=Bx.mk ho;clear ho;obtain ⟨cr0,cr1,cr2,cr3,cr4,cr5,cr6⟩:=kr.c7;obtain ⟨fr0,fr1,fr2,fr3,fr4,fr5,fr6⟩:=kr.f7;go_wp2_with fail;replace kr:=kr.put7 (.int .i64 a) (.int .i64 b) (.int .i64 c) (.int .i64 d) (.int .i64 e) (.int .i64 f) (.slice pa xs.length pe);exact bodyPost_ret (v:=.agg #[a,b,c,d,e,f,.slice pa xs.length pe]) (results_cell_row rfl _ _ _ 28 #[a,b,c,d,e,f,.slice pa xs.length pe] (0,0) _ rfl kr Tryz.underlying28 rfl (by kernel_rfl)) rfl ⟨_,_,rfl,hlen.out,(((((((Ho.out.setBelow (by simp;omega) _).setBelow (by simp;omega) _).setBelow (by simp;omega) _).setBelow (by simp;omega) _).setBelow (by simp;omega) _).setBelow (by simp;omega) _).setBelow (by simp;omega) _).base (by omega),zKb hB (by omega) _ _ _ _ _ _ _⟩
end
end Go.Proofs.YtfcbajmjaifjlaaGreatDoor
