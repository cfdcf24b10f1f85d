/- M35, M36, M37, M38: joined by program. -/
import Derived.Test.YtfcbajmjaifjlaaGreatM11
set_option maxHeartbeats 8000000
set_option maxRecDepth 100000
set_option linter.all false
namespace Go.Proofs.YtfcbajmjaifjlaaGreat
section
open Go.RowKit Go.Sort Go.Maps
open Oct
attribute [local go_sem ↓] Go.wp_at_zero Go.wp_at_succ
theorem zNg (a b c d e f:Int) (ha:Option Addr) (hcp:Nat) (xs:List Int) (ax ay az dd m:Int) (Lv:Bx (∀ W,Calls Tryz.prog 35 #[.agg #[ax,ay,az],dd] W fun e w'=>e = .returned (.agg #[ax,ay,az,(ax+m:Int),(ay+m:Int),(az+m:Int)])∧Below W.heap.size W w')) (MV:zS (zn ⟨⟨ax,ay,az⟩,⟨ax+m,ay+m,az+m⟩⟩ ⟨⟨a,b,c⟩,⟨d,e,f⟩⟩)=true) (w:World) :
 Calls Tryz.prog 99 #[.agg #[a,b,c,d,e,f,.slice ha xs.length hcp],.agg #[ax,ay,az],(dd:Int)] w fun e' w'=>e' = .returned (.string (strOfNums (Tr.enc (.uni 0))))∧Below w.heap.size w w':=by
 have PO:=Bx.mk fun W=>zLD ax ay az (ax+m) (ay+m) (az+m) a b c d e f W;have MW:=Bx.mk fun W=>zK4 (zn ⟨⟨ax,ay,az⟩,⟨ax+m,ay+m,az+m⟩⟩ ⟨⟨a,b,c⟩,⟨d,e,f⟩⟩).lo.x (zn ⟨⟨ax,ay,az⟩,⟨ax+m,ay+m,az+m⟩⟩ ⟨⟨a,b,c⟩,⟨d,e,f⟩⟩).lo.y (zn ⟨⟨ax,ay,az⟩,⟨ax+m,ay+m,az+m⟩⟩ ⟨⟨a,b,c⟩,⟨d,e,f⟩⟩).lo.z (zn ⟨⟨ax,ay,az⟩,⟨ax+m,ay+m,az+m⟩⟩ ⟨⟨a,b,c⟩,⟨d,e,f⟩⟩).hi.x (zn ⟨⟨ax,ay,az⟩,⟨ax+m,ay+m,az+m⟩⟩ ⟨⟨a,b,c⟩,⟨d,e,f⟩⟩).hi.y (zn ⟨⟨ax,ay,az⟩,⟨ax+m,ay+m,az+m⟩⟩ ⟨⟨a,b,c⟩,⟨d,e,f⟩⟩).hi.z W;rw [show zS (⟨⟨(zn ⟨⟨ax,ay,az⟩,⟨ax+m,ay+m,az+m⟩⟩ ⟨⟨a,b,c⟩,⟨d,e,f⟩⟩).lo.x,(zn ⟨⟨ax,ay,az⟩,⟨ax+m,ay+m,az+m⟩⟩ ⟨⟨a,b,c⟩,⟨d,e,f⟩⟩).lo.y,(zn ⟨⟨ax,ay,az⟩,⟨ax+m,ay+m,az+m⟩⟩ ⟨⟨a,b,c⟩,⟨d,e,f⟩⟩).lo.z⟩,⟨(zn ⟨⟨ax,ay,az⟩,⟨ax+m,ay+m,az+m⟩⟩ ⟨⟨a,b,c⟩,⟨d,e,f⟩⟩).hi.x,(zn ⟨⟨ax,ay,az⟩,⟨ax+m,ay+m,az+m⟩⟩ ⟨⟨a,b,c⟩,⟨d,e,f⟩⟩).hi.y,(zn ⟨⟨ax,ay,az⟩,⟨ax+m,ay+m,az+m⟩⟩ ⟨⟨a,b,c⟩,⟨d,e,f⟩⟩).hi.z⟩⟩:Box)=true from MV] at MW;generalize (zn ⟨⟨ax,ay,az⟩,⟨ax+m,ay+m,az+m⟩⟩ ⟨⟨a,b,c⟩,⟨d,e,f⟩⟩)=M at *;clear MV;obtain ⟨⟨m0,m1,m2⟩,⟨m3,m4,m5⟩⟩:=M;have SO:=Bx.mk fun W=>zKy 0 (by decide) W
 generalize strOfNums (Tr.enc (.uni 0))=S at *;go_enter Tryz.func99,Tryz.ntmps99;go_wp2_with fail;generalize hW:(w.alloc _).alloc _=W;have JE:=sz2 hW;have hB:=bl2 hW;have kg:Bk W (w.heap.size) #[a,b,c,d,e,f,.slice ha xs.length hcp] 28:=bk1 hW;have kp:Bk W (w.heap.size+1) #[ax,ay,az] 23:=bk0 hW;clear hW;obtain ⟨cp0,cp1,cp2⟩:=kp.c3;go_wp2_with fail;refine (Lv.o _).mono ?_;rintro _ w1 ⟨rfl,Jr⟩;replace hB:=tr hB Jr;replace kg:=kg.la Jr;replace kp:=kp.la Jr;replace JE:=nlt JE Jr.size;clear Jr;clear cp0 cp1 cp2;have n0 : ∀ o,(w1.alloc o).cell? ⟨w.heap.size,0,none⟩=some (.int .i64 a):=fun o=>Bk.cell (zD kg) 0 rfl;have n1 : ∀ o,(w1.alloc o).cell? ⟨w.heap.size,1,none⟩=some (.int .i64 b):=fun o=>Bk.cell (zD kg) 1 rfl;have n2 : ∀ o,(w1.alloc o).cell? ⟨w.heap.size,2,none⟩=some (.int .i64 c):=fun o=>Bk.cell (zD kg) 2 rfl;have n3 : ∀ o,(w1.alloc o).cell? ⟨w.heap.size,3,none⟩=some (.int .i64 d):=fun o=>Bk.cell (zD kg) 3 rfl;have n4 : ∀ o,(w1.alloc o).cell? ⟨w.heap.size,4,none⟩=some (.int .i64 e):=fun o=>Bk.cell (zD kg) 4 rfl;have n5 : ∀ o,(w1.alloc o).cell? ⟨w.heap.size,5,none⟩=some (.int .i64 f):=fun o=>Bk.cell (zD kg) 5 rfl;go_wp2_with fail;generalize hW2:w1.alloc _=V2;have Js:=bl1 hW2;have kc:Bk V2 w1.heap.size #[ax,ay,az,(ax+m:Int),(ay+m:Int),(az+m:Int)] 25:=bk0 hW2 rfl;replace hB:=tr hB Js;replace kg:=kg.la Js;replace kp:=kp.la Js;replace JE:=nlt JE Js.size;clear Js;clear hW2 n0 n1 n2 n3 n4 n5;generalize w1.heap.size=gc at *;refine (PO.o _).mono ?_;rintro _ w3 ⟨rfl,Jv⟩;replace hB:=tr hB Jv;replace kg:=kg.la Jv;replace kp:=kp.la Jv;replace kc:=kc.la Jv;replace JE:=nlt JE Jv.size;clear Jv;go_wp2_with fail;refine (MW.o _).mono ?_;rintro _ w4 ⟨rfl,Jz⟩;replace hB:=tr hB Jz;replace kg:=kg.la Jz;replace kp:=kp.la Jz;replace kc:=kc.la Jz;replace JE:=nlt JE Jz.size;clear Jz;clear Lv PO MW;go_wp2_with fail;refine (SO.o _).mono ?_;rintro _ w5 ⟨rfl,K3⟩;replace hB:=tr hB K3;clear K3;go_wp2_with fail;go_ret;exact ⟨rfl,hB⟩
theorem zNh (a b c d e f:Int) (ha:Option Addr) (hcp:Nat) (xs:List Int) (HX:GoodG ⟨⟨a,b,c⟩,⟨d,e,f⟩⟩ xs hcp) (ax ay az m:Int) (hm:m=4) (hx:0≤ax∧ax≤16384) (hy:0≤ay∧ay≤16384) (hz:0≤az∧az≤16384) (Lv:Bx (∀ W,Calls Tryz.prog 35 #[.agg #[ax,ay,az],(2:Int)] W fun e w'=>e = .returned (.agg #[ax,ay,az,(ax+m:Int),(ay+m:Int),(az+m:Int)])∧Below W.heap.size W w')) (MV:zS (zn ⟨⟨ax,ay,az⟩,⟨ax+m,ay+m,az+m⟩⟩ ⟨⟨a,b,c⟩,⟨d,e,f⟩⟩)=false) (w:World) (Rn:Sl w .i64 ha xs) :
 Calls Tryz.prog 99 #[.agg #[a,b,c,d,e,f,.slice ha xs.length hcp],.agg #[ax,ay,az],(2:Int)] w fun e' w'=>e' = .returned (.string (strOfNums (Tr.enc (Tr.can (zE ⟨⟨a,b,c⟩,⟨d,e,f⟩⟩ xs) 0 ⟨ax,ay,az⟩))))∧Below w.heap.size w w':=by
 have PO:=Bx.mk fun W=>zLD ax ay az (ax+m) (ay+m) (az+m) a b c d e f W;have MW:=Bx.mk fun W=>zK4 (zn ⟨⟨ax,ay,az⟩,⟨ax+m,ay+m,az+m⟩⟩ ⟨⟨a,b,c⟩,⟨d,e,f⟩⟩).lo.x (zn ⟨⟨ax,ay,az⟩,⟨ax+m,ay+m,az+m⟩⟩ ⟨⟨a,b,c⟩,⟨d,e,f⟩⟩).lo.y (zn ⟨⟨ax,ay,az⟩,⟨ax+m,ay+m,az+m⟩⟩ ⟨⟨a,b,c⟩,⟨d,e,f⟩⟩).lo.z (zn ⟨⟨ax,ay,az⟩,⟨ax+m,ay+m,az+m⟩⟩ ⟨⟨a,b,c⟩,⟨d,e,f⟩⟩).hi.x (zn ⟨⟨ax,ay,az⟩,⟨ax+m,ay+m,az+m⟩⟩ ⟨⟨a,b,c⟩,⟨d,e,f⟩⟩).hi.y (zn ⟨⟨ax,ay,az⟩,⟨ax+m,ay+m,az+m⟩⟩ ⟨⟨a,b,c⟩,⟨d,e,f⟩⟩).hi.z W;rw [show zS (⟨⟨(zn ⟨⟨ax,ay,az⟩,⟨ax+m,ay+m,az+m⟩⟩ ⟨⟨a,b,c⟩,⟨d,e,f⟩⟩).lo.x,(zn ⟨⟨ax,ay,az⟩,⟨ax+m,ay+m,az+m⟩⟩ ⟨⟨a,b,c⟩,⟨d,e,f⟩⟩).lo.y,(zn ⟨⟨ax,ay,az⟩,⟨ax+m,ay+m,az+m⟩⟩ ⟨⟨a,b,c⟩,⟨d,e,f⟩⟩).lo.z⟩,⟨(zn ⟨⟨ax,ay,az⟩,⟨ax+m,ay+m,az+m⟩⟩ ⟨⟨a,b,c⟩,⟨d,e,f⟩⟩).hi.x,(zn ⟨⟨ax,ay,az⟩,⟨ax+m,ay+m,az+m⟩⟩ ⟨⟨a,b,c⟩,⟨d,e,f⟩⟩).hi.y,(zn ⟨⟨ax,ay,az⟩,⟨ax+m,ay+m,az+m⟩⟩ ⟨⟨a,b,c⟩,⟨d,e,f⟩⟩).hi.z⟩⟩:Box)=false from MV] at MW;generalize (zn ⟨⟨ax,ay,az⟩,⟨ax+m,ay+m,az+m⟩⟩ ⟨⟨a,b,c⟩,⟨d,e,f⟩⟩)=M at *;clear MV;obtain ⟨⟨m0,m1,m2⟩,⟨m3,m4,m5⟩⟩:=M;have h4:=zDm ax ay az;rw [←hm] at h4
 have QE:okB ⟨⟨ax,ay,az⟩,⟨ax+m,ay+m,az+m⟩⟩=true:=by
  simp only [okB,Bool.and_eq_true,zJK];omega
 have Lo:=Bx.mk fun W (h:Sl W .i64 ha xs)=>zK3 ax ay az (ax+m) (ay+m) (az+m) a b c d e f 64 ha hcp xs QE h4.1 h4.2.2 (by omega) HX W h
 have LM:=zCd ax ay az (zE ⟨⟨a,b,c⟩,⟨d,e,f⟩⟩ xs);rw [←hm] at LM;rw [LM] at Lo;have Kl:=Bx.mk fun (pa:Option Addr) (pc:Nat) W (h:Sl W .i64 pa (zCT (zE ⟨⟨a,b,c⟩,⟨d,e,f⟩⟩ xs) ⟨ax,ay,az⟩))=>zKr pa pc _ W (zCV _ _) (zCU HX.range _) h;rw [←zB0] at Kl;replace Lo:Bx (∀ W,Sl W .i64 ha xs→Calls Tryz.prog 28 #[.agg #[a,b,c,d,e,f,.slice ha xs.length hcp],.agg #[ax,ay,az,(ax+m:Int),(ay+m:Int),(az+m:Int)]] W fun e' w' => ∃ g cap,e' = .returned (.tuple #[.agg #[ax,ay,az,(ax+m:Int),(ay+m:Int),(az+m:Int),.slice (some ⟨g,0,none⟩) 64 cap],(0:Int)])∧Sl w' .i64 (some ⟨g,0,none⟩) (zCT (zE ⟨⟨a,b,c⟩,⟨d,e,f⟩⟩ xs) ⟨ax,ay,az⟩)∧Below W.heap.size W w'):=Lo;have Db:=Bx.mk Rn;clear Rn QE LM h4 HX hx hy hz hm;generalize strOfNums (Tr.enc (Tr.can (zE ⟨⟨a,b,c⟩,⟨d,e,f⟩⟩ xs) 0 ⟨ax,ay,az⟩))=S at *;generalize zCT (zE ⟨⟨a,b,c⟩,⟨d,e,f⟩⟩ xs) ⟨ax,ay,az⟩=zs at *;go_enter Tryz.func99,Tryz.ntmps99;go_wp2_with fail;generalize hW:(w.alloc _).alloc _=W;have JE:=sz2 hW;have hB:=bl2 hW;have kg:Bk W (w.heap.size) #[a,b,c,d,e,f,.slice ha xs.length hcp] 28:=bk1 hW;have kp:Bk W (w.heap.size+1) #[ax,ay,az] 23:=bk0 hW;clear hW;obtain ⟨cp0,cp1,cp2⟩:=kp.c3;go_wp2_with fail;refine (Lv.o _).mono ?_;rintro _ w1 ⟨rfl,Jr⟩;replace hB:=tr hB Jr;replace kg:=kg.la Jr;replace kp:=kp.la Jr;replace JE:=nlt JE Jr.size;clear Jr;clear cp0 cp1 cp2;have n0 : ∀ o,(w1.alloc o).cell? ⟨w.heap.size,0,none⟩=some (.int .i64 a):=fun o=>Bk.cell (zD kg) 0 rfl;have n1 : ∀ o,(w1.alloc o).cell? ⟨w.heap.size,1,none⟩=some (.int .i64 b):=fun o=>Bk.cell (zD kg) 1 rfl;have n2 : ∀ o,(w1.alloc o).cell? ⟨w.heap.size,2,none⟩=some (.int .i64 c):=fun o=>Bk.cell (zD kg) 2 rfl;have n3 : ∀ o,(w1.alloc o).cell? ⟨w.heap.size,3,none⟩=some (.int .i64 d):=fun o=>Bk.cell (zD kg) 3 rfl;have n4 : ∀ o,(w1.alloc o).cell? ⟨w.heap.size,4,none⟩=some (.int .i64 e):=fun o=>Bk.cell (zD kg) 4 rfl;have n5 : ∀ o,(w1.alloc o).cell? ⟨w.heap.size,5,none⟩=some (.int .i64 f):=fun o=>Bk.cell (zD kg) 5 rfl;go_wp2_with fail;generalize hW2:w1.alloc _=V2;have Js:=bl1 hW2;have kc:Bk V2 w1.heap.size #[ax,ay,az,(ax+m:Int),(ay+m:Int),(az+m:Int)] 25:=bk0 hW2 rfl;replace hB:=tr hB Js;replace kg:=kg.la Js;replace kp:=kp.la Js;replace JE:=nlt JE Js.size;clear Js;clear hW2 n0 n1 n2 n3 n4 n5;generalize w1.heap.size=gc at *;refine (PO.o _).mono ?_;rintro _ w3 ⟨rfl,Jv⟩;replace hB:=tr hB Jv;replace kg:=kg.la Jv;replace kp:=kp.la Jv;replace kc:=kc.la Jv;replace JE:=nlt JE Jv.size;clear Jv;go_wp2_with fail;refine (MW.o _).mono ?_;rintro _ w4 ⟨rfl,Jz⟩;replace hB:=tr hB Jz;replace kg:=kg.la Jz;replace kp:=kp.la Jz;replace kc:=kc.la Jz;replace JE:=nlt JE Jz.size;clear Jz;clear Lv PO MW;obtain ⟨F4,F5,F6,F7,F8,F9,FA⟩:=kg.c7;obtain ⟨cc0,cc1,cc2,cc3,cc4,cc5⟩:=kc.c6;go_wp2_with fail;refine (Lo.o _ (Db.o.below hB)).mono ?_;rintro _ w5 ⟨g,cap,rfl,TU,K3⟩;clear F4 F5 F6 F7 F8 F9 FA cc0 cc1 cc2 cc3 cc4 cc5;replace hB:=tr hB K3;have Dp:=Bx.mk TU;clear K3 Lo TU;go_wp2_with fail;generalize hW6:w5.alloc _=V6;have K4:=bl1 hW6;have Dq:=Bx.mk (Dp.o.below K4);replace hB:=tr hB K4;clear hW6 K4 Dp;refine (Kl.o _ _ _ Dq.o).mono ?_;rintro _ w7 ⟨rfl,K5⟩;replace hB:=tr hB K5;clear K5 Dq;go_wp2_with fail;go_ret;exact ⟨rfl,hB⟩
theorem zJN (w:World) (s:ByteArray) : ∀ j u,[Value.string s][j]? = some u→(w.alloc (.cells #[.string s] 9)).cell? ((⟨w.heap.size,0,none⟩:Addr).add j)=some u:=by
 intro j u hu
 match j with
 | 0=>simp at hu;subst hu;simp [Addr.add]
 | j+1=>simp at hu
theorem zJL {s:ByteArray} : ∀ u∈[Value.string s],u.oneCell'=true:=by
 intro u hu;rw [List.mem_singleton] at hu;subst hu;rfl
structure TrI (w:World) (gv pv:Array Value) (ha:Option Addr) (xs:List Int) (v:Value) (vs:List Value) (wr:World):Prop where
 kg:Bk wr w.heap.size gv 28
 kp:Bk wr (w.heap.size+1) pv 23
 own:Ownv wr (w.heap.size+1+1) 9 v vs
 bel:Below w.heap.size w wr
 sl:Sl wr .i64 ha xs
theorem TrI.la {w wr w':World} {gv pv:Array Value} {ha:Option Addr} {xs:List Int} {v:Value} {vs:List Value} (H:TrI w gv pv ha xs v vs wr) (h:Below wr.heap.size wr w'):TrI w gv pv ha xs v vs w' :=
 ⟨H.kg.la h,H.kp.la h,H.own.below h,tr H.bel h,H.sl.below h⟩
theorem zNi (a b c d e f:Int) (ha:Option Addr) (hcp:Nat) (xs:List Int) (n:Nat) (hn:n≤11) (F:Pt→Int) (hF : ∀ p,0≤F p∧F p≤255) (ax ay az m:Int) (hx:0≤ax∧ax≤16384) (hy:0≤ay∧ay≤16384) (hz:0≤az∧az≤16384) (Lv:Bx (∀ W,Calls Tryz.prog 35 #[.agg #[ax,ay,az],((n:Int)+3:Int)] W fun e w'=>e = .returned (.agg #[ax,ay,az,(ax+m:Int),(ay+m:Int),(az+m:Int)])∧Below W.heap.size W w')) (MV:zS (zn ⟨⟨ax,ay,az⟩,⟨ax+m,ay+m,az+m⟩⟩ ⟨⟨a,b,c⟩,⟨d,e,f⟩⟩)=false)
 (Nn:Bx (∀ (k:Nat),k<8 → ∀ W,Sl W .i64 ha xs→Calls Tryz.prog 99 #[.agg #[a,b,c,d,e,f,.slice ha xs.length hcp],.agg #[(ax+chX k (2 ^ (n+2)):Int),(ay+chY k (2 ^ (n+2)):Int),(az+chZ k (2 ^ (n+2)):Int)],((n:Int)+2:Int)] W fun e' w'=>e' = .returned (.string (strOfNums (Tr.enc (Tr.can F n (Tr.cor ⟨ax,ay,az⟩ n k)))))∧Below W.heap.size W w')) (w:World) (Rn:Sl w .i64 ha xs) :
 Calls Tryz.prog 99 #[.agg #[a,b,c,d,e,f,.slice ha xs.length hcp],.agg #[ax,ay,az],((n:Int)+3:Int)] w fun e' w'=>e' = .returned (.string (strOfNums (Tr.enc (Tr.can F (n+1) ⟨ax,ay,az⟩))))∧Below w.heap.size w w':=by
 obtain ⟨K,hK⟩ : ∃ K:Fin 8→Tr,K=fun i=>Tr.can F n (Tr.cor ⟨ax,ay,az⟩ n i.val):=⟨_,rfl⟩;obtain ⟨TK,JH⟩ : ∃ TK:Nat→ByteArray,TK=fun k=>strOfNums (Tr.enc (Tr.can F n (Tr.cor ⟨ax,ay,az⟩ n k))):=⟨_,rfl⟩;have RD:Tr.can F (n+1) ⟨ax,ay,az⟩=Tr.mkInner (n+3) K:=by rw [hK];rfl
 have Iq : ∀ i,Tr.WF (K i):=fun i=>by rw [hK];exact zAF hF n _ (by omega)
 have Ip:(Tr.enc (.node (n+3) K)).length≤1000000000000000:=by
  have hk:=fun i=>(show (Tr.enc (K i)).length≤100000000000000 by rw [hK];exact zB7 hF (by omega) _)
  rw [←Tr.pos_all (n+3) K]
  have key : ∀ k,k≤8→Tr.pos K k≤2+k * 100000000000000:=by
   intro k
   induction k with
   | zero=>intro _;rw [Tr.pos_zero];omega
   | succ k ih=>intro O9;rw [Tr.pos_succ K (by omega)];have h1:=ih (by omega);have h2:=hk ⟨k,by omega⟩;omega
  have:=key 8 nlr;omega
 obtain ⟨i0,Na,TQ,TR,TS⟩:=info_parts (show (Tryz.prog.info? 9).map (fun i=>(i.zero,i.size,i.bytes))=some (some (.string ByteArray.empty),1,16) by kernel_rfl)
 have Nw:=Bx.mk fun (a:Option Addr) (cap:Nat) W (h:Slv W a (zM5 (zg K)))=>zKw (n+3) (by omega) K Iq Ip a cap W h
 rw [←RD,show ((n+3:Nat):Int)=(n:Int)+3 by omega] at Nw
 have Im:=Bx.mk fun k (hk:k<8)=>(show zM5 ((zg K).take (k+1))=zM5 ((zg K).take k)++[.string (TK k)] by
  rw [zHI K hk,zM7,JH,hK])
 have Lk:=Bx.mk fun W (k:Nat) (hk:k<8)=>zDU (n+2) (by omega) ax ay az k hk (by omega) (by omega) (by omega) W
 rw [show ((n+2:Nat):Int)+1=(n:Int)+3 by omega] at Lk
 have S8:IntKind.i64.wrap ((n:Int)+3 - 1)=(n:Int)+2:=by rw [show (n:Int)+3 - 1=(n:Int)+2 by omega];exact wj _ (by omega)
 have h2:((n:Int)+3 == 2)=false:=by simp;omega
 have No:=Nn;clear Nn;have Nn:=Bx.mk fun (k:Nat) (hk:k<8) W (h:Sl W .i64 ha xs)=>(show Calls Tryz.prog 99 #[.agg #[a,b,c,d,e,f,.slice ha xs.length hcp],.agg #[(ax+chX k (2 ^ (n+2)):Int),(ay+chY k (2 ^ (n+2)):Int),(az+chZ k (2 ^ (n+2)):Int)],((n:Int)+2:Int)] W fun e' w'=>e' = .returned (.string (TK k))∧Below W.heap.size W w' from by rw [JH];exact No.o k hk W h)
 clear No;have PO:=Bx.mk fun W=>zLD ax ay az (ax+m) (ay+m) (az+m) a b c d e f W;have MW:=Bx.mk fun W=>zK4 (zn ⟨⟨ax,ay,az⟩,⟨ax+m,ay+m,az+m⟩⟩ ⟨⟨a,b,c⟩,⟨d,e,f⟩⟩).lo.x (zn ⟨⟨ax,ay,az⟩,⟨ax+m,ay+m,az+m⟩⟩ ⟨⟨a,b,c⟩,⟨d,e,f⟩⟩).lo.y (zn ⟨⟨ax,ay,az⟩,⟨ax+m,ay+m,az+m⟩⟩ ⟨⟨a,b,c⟩,⟨d,e,f⟩⟩).lo.z (zn ⟨⟨ax,ay,az⟩,⟨ax+m,ay+m,az+m⟩⟩ ⟨⟨a,b,c⟩,⟨d,e,f⟩⟩).hi.x (zn ⟨⟨ax,ay,az⟩,⟨ax+m,ay+m,az+m⟩⟩ ⟨⟨a,b,c⟩,⟨d,e,f⟩⟩).hi.y (zn ⟨⟨ax,ay,az⟩,⟨ax+m,ay+m,az+m⟩⟩ ⟨⟨a,b,c⟩,⟨d,e,f⟩⟩).hi.z W;rw [show zS (⟨⟨(zn ⟨⟨ax,ay,az⟩,⟨ax+m,ay+m,az+m⟩⟩ ⟨⟨a,b,c⟩,⟨d,e,f⟩⟩).lo.x,(zn ⟨⟨ax,ay,az⟩,⟨ax+m,ay+m,az+m⟩⟩ ⟨⟨a,b,c⟩,⟨d,e,f⟩⟩).lo.y,(zn ⟨⟨ax,ay,az⟩,⟨ax+m,ay+m,az+m⟩⟩ ⟨⟨a,b,c⟩,⟨d,e,f⟩⟩).lo.z⟩,⟨(zn ⟨⟨ax,ay,az⟩,⟨ax+m,ay+m,az+m⟩⟩ ⟨⟨a,b,c⟩,⟨d,e,f⟩⟩).hi.x,(zn ⟨⟨ax,ay,az⟩,⟨ax+m,ay+m,az+m⟩⟩ ⟨⟨a,b,c⟩,⟨d,e,f⟩⟩).hi.y,(zn ⟨⟨ax,ay,az⟩,⟨ax+m,ay+m,az+m⟩⟩ ⟨⟨a,b,c⟩,⟨d,e,f⟩⟩).hi.z⟩⟩:Box)=false from MV] at MW;generalize (zn ⟨⟨ax,ay,az⟩,⟨ax+m,ay+m,az+m⟩⟩ ⟨⟨a,b,c⟩,⟨d,e,f⟩⟩)=M at *;clear MV;obtain ⟨⟨m0,m1,m2⟩,⟨m3,m4,m5⟩⟩:=M;have Db:=Bx.mk Rn;clear hK JH RD Iq Ip hx hy hz hF Rn;generalize strOfNums (Tr.enc (Tr.can F (n+1) ⟨ax,ay,az⟩))=S2 at *;go_enter Tryz.func99,Tryz.ntmps99;go_wp2_with fail;generalize hW:(w.alloc _).alloc _=W;have JE:=sz2 hW;have hB:=bl2 hW;have kg:Bk W (w.heap.size) #[a,b,c,d,e,f,.slice ha xs.length hcp] 28:=bk1 hW;have kp:Bk W (w.heap.size+1) #[ax,ay,az] 23:=bk0 hW;clear hW;obtain ⟨cp0,cp1,cp2⟩:=kp.c3;go_wp2_with fail;refine (Lv.o _).mono ?_;rintro _ w1 ⟨rfl,Jr⟩;replace hB:=tr hB Jr;replace kg:=kg.la Jr;replace kp:=kp.la Jr;replace JE:=nlt JE Jr.size;clear Jr;clear cp0 cp1 cp2;have n0 : ∀ o,(w1.alloc o).cell? ⟨w.heap.size,0,none⟩=some (.int .i64 a):=fun o=>Bk.cell (zD kg) 0 rfl;have n1 : ∀ o,(w1.alloc o).cell? ⟨w.heap.size,1,none⟩=some (.int .i64 b):=fun o=>Bk.cell (zD kg) 1 rfl;have n2 : ∀ o,(w1.alloc o).cell? ⟨w.heap.size,2,none⟩=some (.int .i64 c):=fun o=>Bk.cell (zD kg) 2 rfl;have n3 : ∀ o,(w1.alloc o).cell? ⟨w.heap.size,3,none⟩=some (.int .i64 d):=fun o=>Bk.cell (zD kg) 3 rfl;have n4 : ∀ o,(w1.alloc o).cell? ⟨w.heap.size,4,none⟩=some (.int .i64 e):=fun o=>Bk.cell (zD kg) 4 rfl;have n5 : ∀ o,(w1.alloc o).cell? ⟨w.heap.size,5,none⟩=some (.int .i64 f):=fun o=>Bk.cell (zD kg) 5 rfl;go_wp2_with fail;generalize hW2:w1.alloc _=V2;have Js:=bl1 hW2;have kc:Bk V2 w1.heap.size #[ax,ay,az,(ax+m:Int),(ay+m:Int),(az+m:Int)] 25:=bk0 hW2 rfl;replace hB:=tr hB Js;replace kg:=kg.la Js;replace kp:=kp.la Js;replace JE:=nlt JE Js.size;clear Js;clear hW2 n0 n1 n2 n3 n4 n5;generalize w1.heap.size=gc at *;refine (PO.o _).mono ?_;rintro _ w3 ⟨rfl,Jv⟩;replace hB:=tr hB Jv;replace kg:=kg.la Jv;replace kp:=kp.la Jv;replace kc:=kc.la Jv;replace JE:=nlt JE Jv.size;clear Jv;go_wp2_with fail;refine (MW.o _).mono ?_;rintro _ w4 ⟨rfl,Jz⟩;replace hB:=tr hB Jz;replace kg:=kg.la Jz;replace kp:=kp.la Jz;replace kc:=kc.la Jz;replace JE:=nlt JE Jz.size;clear Jz;clear Lv PO MW;have HI:Bx (TrI w #[a,b,c,d,e,f,.slice ha xs.length hcp] #[ax,ay,az] ha xs (.slice none 0 0) (zM5 ((zg K).take 0)) w4):=⟨⟨kg,kp,Ownv.nil _ _ _,hB,Db.o.below hB⟩⟩;clear kg kp kc hB JE;go_wp2_with fail
 go_loopw [11,12] (fun v11 v12 wr => ∃ k:Nat,k≤8∧v12 = .int .i64 k∧Bx (TrI w #[a,b,c,d,e,f,.slice ha xs.length hcp] #[ax,ay,az] ha xs v11 (zM5 ((zg K).take k)) wr)) (fun _ i _=>8 - (intOf i).toNat)
 case atStart=>exact ⟨0,Nat.zero_le _,rfl,HI⟩
 case round =>
  clear HI;obtain ⟨k,hk,rfl,HI⟩:=hrel;by_cases hlt:k<8
  · have t0:decide ((k:Int)<8)=true:=by simp;omega
    have b1:(0:Int)≤(k:Int):=by omega
    have b2:(k:Int)<8:=by omega
    have Po:=Bx.mk (Im.o k hlt);have Dh:=Bx.mk (show (zM5 ((zg K).take k)).length≤1000000000 by rw [zAC,List.length_take];omega)
    obtain ⟨F4,F5,F6,F7,F8,F9,FA⟩:=HI.o.kg.c7;obtain ⟨cp0,cp1,cp2⟩:=HI.o.kp.c3;have Ob:w.heap.size+1+1≤wr.heap.size:=HI.o.kp.lt;go_wp2_with fail
    go_region_held3 (fun w'=>w'.cell? ⟨w.heap.size,0,none⟩=some (.int .i64 a)∧w'.cell? ⟨w.heap.size,1,none⟩=some (.int .i64 b)∧w'.cell? ⟨w.heap.size,2,none⟩=some (.int .i64 c)∧w'.cell? ⟨w.heap.size,3,none⟩=some (.int .i64 d)∧w'.cell? ⟨w.heap.size,4,none⟩=some (.int .i64 e)∧w'.cell? ⟨w.heap.size,5,none⟩=some (.int .i64 f)∧w'.cell? ⟨w.heap.size,6,none⟩=some (.slice ha xs.length hcp)∧w'.cell? ⟨w.heap.size+1,0,none⟩=some (.int .i64 ax)∧w'.cell? ⟨w.heap.size+1,1,none⟩=some (.int .i64 ay)∧w'.cell? ⟨w.heap.size+1,2,none⟩=some (.int .i64 az))
     (first | go_keep | (dsimp only;and_intros <;> assumption))
     (first
      | (go_at_call 99;refine (Nn.o k hlt _ Ap.sl).mono ?_;rintro e6 w6 ⟨rfl,K4⟩;have Aq:=Ap.la K4;have d0:=Aq.kg.cell 0 rfl;have d1:=Aq.kg.cell 1 rfl;have d2:=Aq.kg.cell 2 rfl;have d3:=Aq.kg.cell 3 rfl;have d4:=Aq.kg.cell 4 rfl;have d5:=Aq.kg.cell 5 rfl;have d6:=Aq.kg.cell 6 rfl;have e0':=Aq.kp.cell 0 rfl;have e1':=Aq.kp.cell 1 rfl;have e2':=Aq.kp.cell 2 rfl)
      | (go_at_call 152;refine (Lk.o _ k hlt).mono ?_;rintro e5 w5 ⟨rfl,K3⟩;have I5:=(Below.refl wr.heap.size wr).drew.trans K3;have Ap:=HI.o.la I5;have d0':=Ap.kg.cell 0 rfl;have d1':=Ap.kg.cell 1 rfl;have d2':=Ap.kg.cell 2 rfl;have d3':=Ap.kg.cell 3 rfl;have d4':=Ap.kg.cell 4 rfl;have d5':=Ap.kg.cell 5 rfl;have d6':=Ap.kg.cell 6 rfl;have GD:=Ap.kp.cell 0 rfl;have GE:=Ap.kp.cell 1 rfl;have GF:=Ap.kp.cell 2 rfl)
      | (refine step_append_lies _ (by rfl) (.tmp 38) (.tmp 47) 35 (by rfl) (w.heap.size+1+1) 9 i0 (.string ByteArray.empty) 1 16 Tryz.underlying35 Na TQ TR TS rfl (by omega) _ _ _ (by simp [Act.eval,Act.put]) (Aq.own.alloc _) ⟨w6.heap.size,0,none⟩ 1 1 [.string (TK k)] (by simp [Act.eval,Act.put]) rfl (zJN w6 _) zJL (by omega) (by have:=Dh.o;simp only [maxLen];omega) (by have:=Dh.o;omega) (by have:=Aq.kp.lt;simp;omega) (w6.heap.size+1) (by simp) ?_;intro g9 c9 w9 QW NB Jm PB;have Ar:=Aq.la (zB w6 (.cells #[.string (TK k)] 9));have Tp:=Bk.grownO Ar.kg NB (fun e=>by have:=(Ar.own.lt _ e).1;omega);have U0:=Bk.grownO Ar.kp NB (fun e=>by have:=(Ar.own.lt _ e).1;omega);have f0:=Tp.cell 0 rfl;have f1:=Tp.cell 1 rfl;have f2:=Tp.cell 2 rfl;have f3:=Tp.cell 3 rfl;have f4:=Tp.cell 4 rfl;have f5:=Tp.cell 5 rfl;have f6:=Tp.cell 6 rfl;have f0':=U0.cell 0 rfl;have f1':=U0.cell 1 rfl;have f2':=U0.cell 2 rfl))
    have hO:Ownv w9 (w.heap.size+1+1) 9 (.slice (some ⟨g9,0,none⟩) ((zM5 (List.take k (zg K))).length+1) c9) (zM5 ((zg K).take (k+1))):=by
     unfold Ownv;rw [Po.o,List.length_append,List.length_singleton];exact QW
    have K7:=(Ar.bel).grown NB Ar.bel.size (fun g hg=>by have:=(Ar.own.lt g hg).1;omega)
    have Am:=Bx.mk (show TrI w #[a,b,c,d,e,f,.slice ha xs.length hcp] #[ax,ay,az] ha xs _ (zM5 ((zg K).take (k+1))) w9 from ⟨Tp,U0,hO,K7,Db.o.below K7⟩);clear QW NB K7 hO Tp U0 Jm PB f0 f1 f2 f3 f4 f5 f6 f0' f1' f2' d0 d0' d1 d1' d2 d2' d3 d3' d4 d4' d5 d5' d6 d6' e0' GD e1' GE e2' GF Ar Aq Ap F4 F5 F6 F7 F8 F9 FA cp0 cp1 cp2;go_wp2_with fail
    go_roundw
    case rel=>exact ⟨k+1,by omega,by go_num,Am⟩
    case measure=>simp [intOf];omega
  · obtain rfl:k=8:=by omega
    have t0:decide (((8:Nat):Int)<8)=false:=by decide
    have QS:=HI.o.own;rw [List.take_of_length_le (by rw [zh];exact Nat.le_refl _)] at QS
    obtain ⟨pa,pc,rfl,Rn⟩:=QS.form;have OW:(zM5 (zg K)).length=8:=by rw [zAC,zh]
    rw [OW];have Db:=Bx.mk Rn;clear Rn QS OW;go_wp2_with fail;refine (Nw.o pa pc _ Db.o).mono ?_;rintro _ w9 ⟨rfl,K7⟩;have AB:=Bx.mk (tr HI.o.bel K7);clear K7;go_wp2_with fail;go_ret;exact ⟨rfl,AB.o⟩
end
section
open Go.RowKit Go.Sort Go.Maps
open Oct
theorem zNf (a b c d e f:Int) (ha:Option Addr) (hcp:Nat) (xs:List Int) (HX:GoodG ⟨⟨a,b,c⟩,⟨d,e,f⟩⟩ xs hcp) : ∀ (n:Nat),n≤12 → ∀ (ax ay az:Int),Tr.Al n ⟨ax,ay,az⟩→(0≤ax∧ax+2 ^ (n+2)≤16384)→(0≤ay∧ay+2 ^ (n+2)≤16384)→(0≤az∧az+2 ^ (n+2)≤16384) → ∀ (w:World),Sl w .i64 ha xs →
 Calls Tryz.prog 99 #[.agg #[a,b,c,d,e,f,.slice ha xs.length hcp],.agg #[ax,ay,az],((n:Int)+2:Int)] w fun e' w'=>e' = .returned (.string (strOfNums (Tr.enc (Tr.can (zE ⟨⟨a,b,c⟩,⟨d,e,f⟩⟩ xs) n ⟨ax,ay,az⟩))))∧Below w.heap.size w w':=by
 intro n
 induction n with
 | zero =>
   intro _ ax ay az Jb hx hy hz w Rn;have e4:(2:Int) ^ (0+2)=4:=by decide
   rw [e4] at hx hy hz;have Lv:=Bx.mk fun W=>zDp ax ay az 2 (by omega) (by omega) (by omega) (by omega) W
   rw [show (2:Int) ^ 2=4 by decide] at Lv
   cases MV:zS (zn ⟨⟨ax,ay,az⟩,⟨ax+4,ay+4,az+4⟩⟩ ⟨⟨a,b,c⟩,⟨d,e,f⟩⟩) with
   | true =>
     have h0:=zB9 0 ⟨ax,ay,az⟩ (zE ⟨⟨a,b,c⟩,⟨d,e,f⟩⟩ xs) Jb (fun p hp=>zIp (m:=4) (by decide) Jb MV xs hp)
     rw [h0];exact zNg a b c d e f ha hcp xs ax ay az _ 4 Lv MV w
   | false=>exact zNh a b c d e f ha hcp xs HX ax ay az 4 rfl (by omega) (by omega) (by omega) Lv MV w Rn
 | succ n ih =>
   intro hn ax ay az Jb hx hy hz w Rn;have Qr:=Tr.pow_succ2 n;have hp:=zt (show n+2≤14 by omega)
   have Lv:=Bx.mk fun W=>zDp ax ay az (n+3) (by omega) (by omega) (by omega) (by omega) W
   have h3:((n+1:Nat):Int)+2=(n:Int)+3:=by omega
   rw [show ((n+3:Nat):Int)=(n:Int)+3 by omega] at Lv
   rw [h3];cases MV:zS (zn ⟨⟨ax,ay,az⟩,⟨ax+2 ^ (n+3),ay+2 ^ (n+3),az+2 ^ (n+3)⟩⟩ ⟨⟨a,b,c⟩,⟨d,e,f⟩⟩) with
   | true =>
     have h0:=zB9 (n+1) ⟨ax,ay,az⟩ (zE ⟨⟨a,b,c⟩,⟨d,e,f⟩⟩ xs) Jb (fun p hp=>zIp (m:=2 ^ (n+3)) rfl Jb MV xs hp);rw [h0];exact zNg a b c d e f ha hcp xs ax ay az _ _ Lv MV w
   | false =>
     refine zNi a b c d e f ha hcp xs n (by omega) _ HX.range ax ay az _ (by omega) (by omega) (by omega) Lv MV ⟨fun k hk W h=>?_⟩ w Rn
     have hb:=zCg hk (show (0:Int)≤2 ^ (n+2) by omega)
     have Lg:=zDR ax ay az n k;have h1:=Tr.al_cor Jb k;rw [Lg] at h1 ⊢;exact ih (by omega) _ _ _ h1 (by omega) (by omega) (by omega) W h
theorem zKU {a b c x y z:Int} (ha:0<a) (hb:0<b) (hc:0<c) (h1:0≤x∧x≤a) (h2:0≤y∧y≤b) (h3:0≤z∧z≤c) (h:x * y * z=a * b * c):x=a∧y=b∧z=c:=by
 have JU:0<a * b:=Int.mul_pos ha hb;have hp:0<a * b * c:=Int.mul_pos JU hc;have TH:0≤x * y∧x * y≤a * b:=zIf h1.1 h2.1 h1.2 h2.2
 have hz:z=c:=by
  apply Classical.byContradiction;intro Ph;have TR:z≤c - 1:=by omega
  have:=zIf TH.1 h3.1 TH.2 TR;rw [h,Int.mul_sub,Int.mul_one] at this;omega
 rw [hz] at h;have TI:x * y=a * b:=Int.eq_of_mul_eq_mul_right (by omega) h
 have hy:y=b:=by
  apply Classical.byContradiction;intro Ph;have:=zIf h1.1 h2.1 h1.2 (show y≤b - 1 by omega)
  rw [TI,Int.mul_sub,Int.mul_one] at this;omega
 rw [hy] at TI;exact ⟨Int.eq_of_mul_eq_mul_right (by omega) TI,hy,hz⟩
theorem zN9 {A B:Box} (hB:zS B=false):(zAE (zn A B) == zAE B)=decide (zn A B=B):=by
 have hb:=zT.1 hB;have hv:=zBW hB;rw [Bool.eq_iff_iff,beq_iff_eq,decide_eq_true_iff];constructor
 · intro h;unfold zn at h ⊢;split at h
   · rename_i he;have:zAE Box.zero=0:=by decide
     omega
   · rename_i he;rw [if_neg he]
     have ML:zS (zGx A B)=false:=by cases hq:zS (zGx A B) with
      | true=>exact absurd hq he
      | false=>rfl
     have hj:=zT.1 ML;unfold zAE at h;rw [zAA ML,zAA hB] at h;unfold zGx at h hj ⊢;simp only [Pt.sub] at h hj;have:=zKU (by omega) (by omega) (by omega) (by omega) (by omega) (by omega) h
     obtain ⟨⟨l0,l1,l2⟩,⟨u0,u1,u2⟩⟩:=B;simp only [] at this hb ⊢;simp only [Box.mk.injEq,Pt.mk.injEq];omega
 · intro h;rw [h]
theorem zKs (a b c d e f:Int) (ha:Option Addr) (hcp:Nat) (xs:List Int) (hl:xs.length≤300) (dd:Int) (w:World) (Rn:Sl w .i64 ha xs) :
 Calls Tryz.prog 43 #[.agg #[a,b,c,d,e,f,.slice ha xs.length hcp],dd] w fun e' w'=>e' = .returned (.int .i64 (zFd ⟨⟨a,b,c⟩,⟨d,e,f⟩⟩ xs dd))∧Below w.heap.size w w':=by
 by_cases Oy:dd<2
 · have t1:decide (dd<2)=true:=by simpa using Oy
   have hr:=Bx.mk (show zFd ⟨⟨a,b,c⟩,⟨d,e,f⟩⟩ xs dd=13 by unfold zFd;rw [if_pos (.inl Oy)])
   clear Oy;go_enter Tryz.func43,Tryz.ntmps43;go_wp2_with fail;go_ret;exact ⟨by rw [hr.o];rfl,bf⟩
 · have t1:decide (dd<2)=false:=by simpa using Oy
   by_cases NX:14<dd
   · have t2:decide (14<dd)=true:=by simpa using NX
     have hr:=Bx.mk (show zFd ⟨⟨a,b,c⟩,⟨d,e,f⟩⟩ xs dd=13 by unfold zFd;rw [if_pos (.inr NX)])
     clear Oy NX;go_enter Tryz.func43,Tryz.ntmps43;go_wp2_with fail;go_ret;exact ⟨by rw [hr.o];rfl,bf⟩
   · have t2:decide (14<dd)=false:=by simpa using NX
     obtain ⟨L,hL⟩ : ∃ L:Nat,dd=L:=⟨dd.toNat,by omega⟩
     subst hL;have Sb:=Bx.mk fun W (h:Sl W .i64 ha xs)=>zLN a b c d e f ha hcp xs hl W h;have MW:=Bx.mk fun W=>zK4 a b c d e f W;have Lv:=Bx.mk fun W=>zDq L (by omega) W
     have Mm:zFd ⟨⟨a,b,c⟩,⟨d,e,f⟩⟩ xs L=if zN6 ⟨⟨a,b,c⟩,⟨d,e,f⟩⟩ xs=true∧(zS ⟨⟨a,b,c⟩,⟨d,e,f⟩⟩=true∨zL ⟨⟨0,0,0⟩,⟨2 ^ L,2 ^ L,2 ^ L⟩⟩ ⟨⟨a,b,c⟩,⟨d,e,f⟩⟩=true) then 0 else 1:=by
      unfold zFd;rw [if_neg (by omega)];rfl
     have Rv:zN6 ⟨⟨a,b,c⟩,⟨d,e,f⟩⟩ xs=true→Small ⟨⟨a,b,c⟩,⟨d,e,f⟩⟩ 1048575:=fun h=>by
      simp only [zN6,Bool.and_eq_true] at h;exact zJG h.1.1.1.1
     have Lh:zN6 ⟨⟨a,b,c⟩,⟨d,e,f⟩⟩ xs=true → ∀ W,Calls Tryz.prog 106 #[.agg #[(0:Int),(0:Int),(0:Int),(2 ^ L:Int),(2 ^ L:Int),(2 ^ L:Int)],.agg #[a,b,c,d,e,f]] W fun e' w'=>e' = .returned (.bool (zAE (zn ⟨⟨0,0,0⟩,⟨2 ^ L,2 ^ L,2 ^ L⟩⟩ ⟨⟨a,b,c⟩,⟨d,e,f⟩⟩) == zAE ⟨⟨a,b,c⟩,⟨d,e,f⟩⟩))∧Below W.heap.size W w':=fun h W=>zK1 0 0 0 (2 ^ L) (2 ^ L) (2 ^ L) a b c d e f (Rv h) W
     have Lx:zS ⟨⟨a,b,c⟩,⟨d,e,f⟩⟩=false→zL ⟨⟨0,0,0⟩,⟨2 ^ L,2 ^ L,2 ^ L⟩⟩ ⟨⟨a,b,c⟩,⟨d,e,f⟩⟩=(zAE (zn ⟨⟨0,0,0⟩,⟨2 ^ L,2 ^ L,2 ^ L⟩⟩ ⟨⟨a,b,c⟩,⟨d,e,f⟩⟩) == zAE ⟨⟨a,b,c⟩,⟨d,e,f⟩⟩):=fun h=>by
      rw [zN9 h];unfold zL;rw [h,Bool.false_or]
     have Db:=Bx.mk Rn;clear Rn Rv;generalize zL ⟨⟨0,0,0⟩,⟨2 ^ L,2 ^ L,2 ^ L⟩⟩ ⟨⟨a,b,c⟩,⟨d,e,f⟩⟩=cb at *;generalize (zAE (zn ⟨⟨0,0,0⟩,⟨2 ^ L,2 ^ L,2 ^ L⟩⟩ ⟨⟨a,b,c⟩,⟨d,e,f⟩⟩) == zAE ⟨⟨a,b,c⟩,⟨d,e,f⟩⟩)=vb at *;generalize zN6 ⟨⟨a,b,c⟩,⟨d,e,f⟩⟩ xs=va at *;generalize zS ⟨⟨a,b,c⟩,⟨d,e,f⟩⟩=em at *;generalize zFd ⟨⟨a,b,c⟩,⟨d,e,f⟩⟩ xs L=r at *;generalize (2:Int) ^ L=m at *;cases va with
     | false =>
       have Hr:=Bx.mk (show r=1 by simpa using Mm)
       clear Mm Lh Lx Oy NX;go_enter Tryz.func43,Tryz.ntmps43;go_wp2_with fail;generalize hW:w.alloc _=W;have JE:=sz1 hW;have hB:=bl1 hW;have kg:Bk W (w.heap.size) #[a,b,c,d,e,f,.slice ha xs.length hcp] 28:=bk0 hW;clear hW;obtain ⟨F4,F5,F6,F7,F8,F9,FA⟩:=kg.c7;go_wp2_with fail;refine (Sb.o _ (Db.o.below hB)).mono ?_;rintro _ w1 ⟨rfl,Jr⟩;replace hB:=tr hB Jr;replace kg:=kg.la Jr;replace JE:=nlt JE Jr.size;clear Jr;clear F4 F5 F6 F7 F8 F9 FA;go_wp2_with fail;go_ret;exact ⟨by rw [Hr.o];rfl,hB⟩
     | true =>
       have Li:=Bx.mk (Lh rfl);clear Lh;cases em with
       | true =>
         have Hr:=Bx.mk (show r=0 by simpa using Mm)
         clear Mm Lx Oy NX;go_enter Tryz.func43,Tryz.ntmps43;go_wp2_with fail;generalize hW:w.alloc _=W;have JE:=sz1 hW;have hB:=bl1 hW;have kg:Bk W (w.heap.size) #[a,b,c,d,e,f,.slice ha xs.length hcp] 28:=bk0 hW;clear hW;obtain ⟨F4,F5,F6,F7,F8,F9,FA⟩:=kg.c7;go_wp2_with fail;refine (Sb.o _ (Db.o.below hB)).mono ?_;rintro _ w1 ⟨rfl,Jr⟩;replace hB:=tr hB Jr;replace kg:=kg.la Jr;replace JE:=nlt JE Jr.size;clear Jr;clear F4 F5 F6 F7 F8 F9 FA;obtain ⟨F4,F5,F6,F7,F8,F9,FA⟩:=kg.c7;go_wp2_with fail;refine (MW.o _).mono ?_;rintro _ w2 ⟨rfl,Js⟩;replace hB:=tr hB Js;replace kg:=kg.la Js;replace JE:=nlt JE Js.size;clear Js;clear F4 F5 F6 F7 F8 F9 FA;go_wp2_with fail;obtain ⟨F4,F5,F6,F7,F8,F9,FA⟩:=kg.r7;have q0:=Bx.mk fun dk osk=>rq (Lv.o (grow (redrawn w2 dk) osk));have q1:=Bx.mk fun dk osk=>rq (Li.o (grow (redrawn w2 dk) osk));refine wg ?_
         repeat (first | go_big_quiet_step (with_reducible first | exact q0.o _ _ | exact q1.o _ _) | quiet_step (with_reducible first | exact q0.o _ _ | exact q1.o _ _))
         refine wq ?_;rintro _ ⟨⟨dq,osq⟩,rfl⟩;have hb:=bq w2 dq osq;clear F4 F5 F6 F7 F8 F9 FA;clear q0;clear q1;replace hB:=tr hB hb;replace kg:=kg.la hb;replace JE:=nlt JE hb.size;clear hb;generalize grow (redrawn w2 dq) osq=w3 at *;go_wp2_with fail;go_ret;exact ⟨by rw [Hr.o];rfl,hB⟩
       | false =>
         obtain rfl:cb=vb:=Lx rfl;have Hr:=Bx.mk (show r=if cb=true then 0 else 1 by simpa using Mm)
         clear Mm Lx Oy NX;go_enter Tryz.func43,Tryz.ntmps43;go_wp2_with fail;generalize hW:w.alloc _=W;have JE:=sz1 hW;have hB:=bl1 hW;have kg:Bk W (w.heap.size) #[a,b,c,d,e,f,.slice ha xs.length hcp] 28:=bk0 hW;clear hW;obtain ⟨F4,F5,F6,F7,F8,F9,FA⟩:=kg.c7;go_wp2_with fail;refine (Sb.o _ (Db.o.below hB)).mono ?_;rintro _ w1 ⟨rfl,Jr⟩;replace hB:=tr hB Jr;replace kg:=kg.la Jr;replace JE:=nlt JE Jr.size;clear Jr;clear F4 F5 F6 F7 F8 F9 FA;obtain ⟨F4,F5,F6,F7,F8,F9,FA⟩:=kg.c7;go_wp2_with fail;refine (MW.o _).mono ?_;rintro _ w2 ⟨rfl,Js⟩;replace hB:=tr hB Js;replace kg:=kg.la Js;replace JE:=nlt JE Js.size;clear Js;clear F4 F5 F6 F7 F8 F9 FA;go_wp2_with fail;obtain ⟨F4,F5,F6,F7,F8,F9,FA⟩:=kg.r7;have q0:=Bx.mk fun dk osk=>rq (Lv.o (grow (redrawn w2 dk) osk));have q1:=Bx.mk fun dk osk=>rq (Li.o (grow (redrawn w2 dk) osk));refine wg ?_
         repeat (first | go_big_quiet_step (with_reducible first | exact q0.o _ _ | exact q1.o _ _) | quiet_step (with_reducible first | exact q0.o _ _ | exact q1.o _ _))
         refine wq ?_;rintro _ ⟨⟨dq,osq⟩,rfl⟩;have hb:=bq w2 dq osq;clear F4 F5 F6 F7 F8 F9 FA;clear q0;clear q1;replace hB:=tr hB hb;replace kg:=kg.la hb;replace JE:=nlt JE hb.size;clear hb;generalize grow (redrawn w2 dq) osq=w3 at *;cases cb with
         | true =>
           go_wp2_with fail;go_ret;exact ⟨by rw [Hr.o];rfl,hB⟩
         | false =>
           go_wp2_with fail;go_ret;exact ⟨by rw [Hr.o];rfl,hB⟩
theorem zKu (a b c d e f:Int) (ha:Option Addr) (hcp:Nat) (xs:List Int) (hl:xs.length≤300) (n:Nat) (hn:n≤12) (HX:GoodG ⟨⟨a,b,c⟩,⟨d,e,f⟩⟩ xs hcp) (hE:zFd ⟨⟨a,b,c⟩,⟨d,e,f⟩⟩ xs ((n:Int)+2)=0) (w:World) (Rn:Sl w .i64 ha xs) :
 Calls Tryz.prog 34 #[.agg #[a,b,c,d,e,f,.slice ha xs.length hcp],((n:Int)+2:Int)] w fun e' w'=>e' = .returned (.tuple #[.string (strOfNums (Tr.enc (trF n (zE ⟨⟨a,b,c⟩,⟨d,e,f⟩⟩ xs)))),(0:Int)])∧Below w.heap.size w w':=by
 have LT:=Bx.mk fun W (h:Sl W .i64 ha xs)=>zKs a b c d e f ha hcp xs hl ((n:Int)+2) W h;rw [hE] at LT;have hp:=zt (show n+2≤14 by omega)
 have htr:=Bx.mk fun W (h:Sl W .i64 ha xs)=>zNf a b c d e f ha hcp xs HX n hn 0 0 0 (zA3 n) (by omega) (by omega) (by omega) W h
 have Db:=Bx.mk Rn;clear Rn hE HX hp;unfold trF;generalize strOfNums (Tr.enc (Tr.can (zE ⟨⟨a,b,c⟩,⟨d,e,f⟩⟩ xs) n ⟨0,0,0⟩))=S at *;go_enter Tryz.func34,Tryz.ntmps34;go_wp2_with fail;generalize hW:w.alloc _=W;have JE:=sz1 hW;have hB:=bl1 hW;have kg:Bk W (w.heap.size) #[a,b,c,d,e,f,.slice ha xs.length hcp] 28:=bk0 hW;clear hW;obtain ⟨F4,F5,F6,F7,F8,F9,FA⟩:=kg.c7;go_wp2_with fail;refine (LT.o _ (Db.o.below hB)).mono ?_;rintro _ w1 ⟨rfl,Jr⟩;replace hB:=tr hB Jr;replace kg:=kg.la Jr;replace JE:=nlt JE Jr.size;clear Jr;clear F4 F5 F6 F7 F8 F9 FA;obtain ⟨F4,F5,F6,F7,F8,F9,FA⟩:=kg.c7;go_wp2_with fail;refine (htr.o _ (Db.o.below hB)).mono ?_;rintro _ w2 ⟨rfl,Js⟩;clear F4 F5 F6 F7 F8 F9 FA;replace hB:=tr hB Js;replace kg:=kg.la Js;replace JE:=nlt JE Js.size;clear Js;go_wp2_with fail
 go_ret2
 exact ⟨rfl,hB⟩
def zIV (zs xs:List Int) (k:Nat):List Int:=zs.take k++xs.drop k
theorem zIX {zs xs:List Int} {k:Nat} (h1:zs.length=64) (h2:xs.length=64) (hk:k≤64):(zIV zs xs k).length=64:=by unfold zIV;simp;omega
theorem zIW {zs xs:List Int} {k:Nat} (h1:zs.length=64) (hk:k<64):(zIV zs xs k)[k]? = xs[k]? := by
 unfold zIV;rw [List.getElem?_append_right (by simp;omega),List.getElem?_drop]
 congr 1;simp;omega
theorem zIZ {zs xs:List Int} {k:Nat} {x:Int} (h1:zs.length=64) (h2:xs.length=64) (hk:k<64) (hx:zs[k]? = some x):(zIV zs xs k).set k x=zIV zs xs (k+1):=by
 unfold zIV;obtain ⟨hl,rfl⟩:=List.getElem?_eq_some_iff.1 hx;rw [List.set_append_right _ _ (by simp;omega),List.length_take,Nat.min_eq_left (by omega),Nat.sub_self,List.take_succ_eq_append_getElem hl,List.drop_eq_getElem_cons (show k<xs.length by omega),List.set_cons_zero,List.append_assoc]
 rfl
theorem zIY {zs xs:List Int} {k:Nat} (h1:zs.length=64) (h2:xs.length=64) (hk:k<64) (hx:zs[k]? = some (xs.getD k 0)):zIV zs xs (k+1)=zIV zs xs k:=by
 rw [←zIZ h1 h2 hk hx];have hg:=zIW (xs:=xs) h1 hk;rw [List.getD_eq_getElem?_getD,lge (show k<xs.length by omega)]
 rw [lge (show k<xs.length by omega)] at hg
 apply List.ext_getElem?;intro i;rw [List.getElem?_set];by_cases e:k=i
 · subst e;rw [if_pos rfl,if_pos (by rw [zIX h1 h2 (by omega)];omega),hg];rfl
 · rw [if_neg e]
structure MkI (w w6:World) (cb:Nat) (xv cv:Array Value) (v:Value) (zs:List Int) (wr:World):Prop where
 kx:Bk wr (w.heap.size+1) xv 164
 kc:Bk wr cb cv 25
 own:Own wr w6.heap.size 3 .i64 v zs
 bel:Below w.heap.size w wr
theorem MkI.la {w w6:World} {cb:Nat} {xv cv:Array Value} {v:Value} {zs:List Int} {wr w':World} (h:MkI w w6 cb xv cv v zs wr) (hb:Below wr.heap.size wr w'):MkI w w6 cb xv cv v zs w' :=
 ⟨h.kx.la hb,h.kc.la hb,h.own.below hb,tr h.bel hb⟩
theorem zH9 (κ a b c d e f cell q1 q2 q3 q4 q5 q6:Int) (ha:Option Addr) (hcp:Nat) (ys:List Int) (S S0 R:ByteArray) (ax ay az m:Int) (JC:Small ⟨⟨ax,ay,az⟩,⟨ax+m,ay+m,az+m⟩⟩ 1048575) (Ph:zS ⟨⟨ax,ay,az⟩,⟨ax+m,ay+m,az+m⟩⟩=false)
 (hA:zS (zn ⟨⟨ax,ay,az⟩,⟨ax+m,ay+m,az+m⟩⟩ ⟨⟨a,b,c⟩,⟨d,e,f⟩⟩)=true→R=S0)
 (hP:zS (zn ⟨⟨ax,ay,az⟩,⟨ax+m,ay+m,az+m⟩⟩ ⟨⟨a,b,c⟩,⟨d,e,f⟩⟩)=false→(⟨⟨ax,ay,az⟩,⟨ax+m,ay+m,az+m⟩⟩:Box)=⟨⟨a,b,c⟩,⟨d,e,f⟩⟩→κ=3→R=S)
 (hU:zS (zn ⟨⟨ax,ay,az⟩,⟨ax+m,ay+m,az+m⟩⟩ ⟨⟨a,b,c⟩,⟨d,e,f⟩⟩)=false → ¬((⟨⟨ax,ay,az⟩,⟨ax+m,ay+m,az+m⟩⟩:Box)=⟨⟨a,b,c⟩,⟨d,e,f⟩⟩∧κ=3)→zL ⟨⟨a,b,c⟩,⟨d,e,f⟩⟩ ⟨⟨ax,ay,az⟩,⟨ax+m,ay+m,az+m⟩⟩=true→κ=1→(0≤cell∧cell≤255)∧R=strOfNums (Tr.enc (.uni cell)))
 (Lv:Bx (∀ W,Calls Tryz.prog 35 #[.agg #[ax,ay,az],(2:Int)] W fun e w'=>e = .returned (.agg #[ax,ay,az,(ax+m:Int),(ay+m:Int),(az+m:Int)])∧Below W.heap.size W w'))
 (xs zs:List Int) (TF:xs.length=64) (TY:zs.length=64) (hv:zAE ⟨⟨ax,ay,az⟩,⟨ax+m,ay+m,az+m⟩⟩=64) (HX:GoodG ⟨⟨q1,q2,q3⟩,⟨q4,q5,q6⟩⟩ ys hcp)
 (LN:Bx (∀ W,Calls Tryz.prog 168 #[.string S0] W fun e w' => ∃ v,e = .returned v∧Own w' W.heap.size 3 .i64 v xs∧Below W.heap.size W w'))
 (Kl:Bx (∀ a cap W,Sl W .i64 a zs→Calls Tryz.prog 151 #[.slice a 64 cap] W fun e w'=>e = .returned (.string (strOfNums (Tr.enc (Tr.mkBrick zs))))∧Below W.heap.size W w'))
 (hZ:zS (zn ⟨⟨ax,ay,az⟩,⟨ax+m,ay+m,az+m⟩⟩ ⟨⟨a,b,c⟩,⟨d,e,f⟩⟩)=false → ¬((⟨⟨ax,ay,az⟩,⟨ax+m,ay+m,az+m⟩⟩:Box)=⟨⟨a,b,c⟩,⟨d,e,f⟩⟩∧κ=3) → ¬(zL ⟨⟨a,b,c⟩,⟨d,e,f⟩⟩ ⟨⟨ax,ay,az⟩,⟨ax+m,ay+m,az+m⟩⟩=true∧κ=1)→R=strOfNums (Tr.enc (Tr.mkBrick zs)) ∧ ∀ k:Nat,k<64→zs[k]? = some (if inB (atB ⟨⟨ax,ay,az⟩,⟨ax+m,ay+m,az+m⟩⟩ (k:Int)) ⟨⟨a,b,c⟩,⟨d,e,f⟩⟩=true∧κ=1 then cell else if inB (atB ⟨⟨ax,ay,az⟩,⟨ax+m,ay+m,az+m⟩⟩ (k:Int)) ⟨⟨a,b,c⟩,⟨d,e,f⟩⟩=true∧κ=2 then zE ⟨⟨q1,q2,q3⟩,⟨q4,q5,q6⟩⟩ ys (atB ⟨⟨ax,ay,az⟩,⟨ax+m,ay+m,az+m⟩⟩ (k:Int)) else xs.getD (k:Nat) 0)) (w:World) (Rn:Sl w .i64 ha ys) :
 Calls Tryz.prog 124 #[.string S0,.agg #[ax,ay,az],(2:Int),.agg #[.int .i64 κ,a,b,c,d,e,f,cell,q1,q2,q3,q4,q5,q6,.slice ha ys.length hcp,.string S]] w fun e' w'=>e' = .returned (.string R)∧Below w.heap.size w w':=by
 have PO:=Bx.mk fun W=>zLD ax ay az (ax+m) (ay+m) (az+m) a b c d e f W;generalize zn ⟨⟨ax,ay,az⟩,⟨ax+m,ay+m,az+m⟩⟩ ⟨⟨a,b,c⟩,⟨d,e,f⟩⟩=M at *;have MW:=Bx.mk fun W=>zK4 M.lo.x M.lo.y M.lo.z M.hi.x M.hi.y M.hi.z W;rw [show (⟨⟨M.lo.x,M.lo.y,M.lo.z⟩,⟨M.hi.x,M.hi.y,M.hi.z⟩⟩:Box)=M from rfl] at MW;generalize zS M=em at *;have Lh:=Bx.mk fun W=>zK1 a b c d e f ax ay az (ax+m) (ay+m) (az+m) JC W;have Lx:zL ⟨⟨a,b,c⟩,⟨d,e,f⟩⟩ ⟨⟨ax,ay,az⟩,⟨ax+m,ay+m,az+m⟩⟩=(zAE (zn ⟨⟨a,b,c⟩,⟨d,e,f⟩⟩ ⟨⟨ax,ay,az⟩,⟨ax+m,ay+m,az+m⟩⟩) == zAE ⟨⟨ax,ay,az⟩,⟨ax+m,ay+m,az+m⟩⟩):=by rw [zN9 Ph];unfold zL;rw [Ph,Bool.false_or]
 rw [←Lx] at Lh;clear Lx Ph;generalize zL ⟨⟨a,b,c⟩,⟨d,e,f⟩⟩ ⟨⟨ax,ay,az⟩,⟨ax+m,ay+m,az+m⟩⟩=ins at *;have Md:=Bx.mk fun W:World=>zEu ax ay az (ax+m) (ay+m) (az+m) a b c d e f W;have hA:=Bx.mk hA;have hP:=Bx.mk hP;have hU:=Bx.mk hU;have hZ:=Bx.mk hZ;have CJ:=Bx.mk TF;have CN:=Bx.mk TY;have HV:=Bx.mk hv;have HGX:=Bx.mk HX;have HSM:=Bx.mk JC;have Bv:=Bx.mk Rn;clear JC TF TY hv HX Rn;go_enter Tryz.func124,Tryz.ntmps124;go_upto_region 1 with fail;generalize hW:(w.alloc _).alloc _=W;have JE:W.heap.size=w.heap.size+1+1:=by rw [←hW];simp
 have hB:=bl2 hW;have kp:Bk W w.heap.size #[ax,ay,az] 23:=bk1 hW;have kx:Bk W (w.heap.size+1) #[.int .i64 κ,a,b,c,d,e,f,cell,q1,q2,q3,q4,q5,q6,.slice ha ys.length hcp,.string S] 164:=bk0 hW;clear hW;obtain ⟨cp0,cp1,cp2⟩:=kp.c3;go_wp2_with fail;refine (Lv.o _).mono ?_;rintro _ w2 ⟨rfl,hb⟩;have I2:=tr hB hb;have RY:=hb.size;replace kp:=kp.la hb;replace kx:=kx.la hb;clear cp0 cp1 cp2 hb hB;go_upto_region 2 with fail;generalize hW:w2.alloc _=W;have hb:=bl1 hW;have kc:Bk W w2.heap.size #[ax,ay,az,(ax+m:Int),(ay+m:Int),(az+m:Int)] 25:=bk0 hW;clear hW;replace kp:=kp.la hb;replace kx:=kx.la hb;have I3:=tr I2 hb;have LJ:w.heap.size+1+1≤w2.heap.size:=by omega
 clear hb I2 RY JE;generalize w2.heap.size=cb at *;obtain ⟨c0,c1,c2,c3,c4,c5⟩:=kc.c6;have x1:=kx.cell 1 rfl;have x2:=kx.cell 2 rfl;have x3:=kx.cell 3 rfl;have x4:=kx.cell 4 rfl;have x5:=kx.cell 5 rfl;have x6:=kx.cell 6 rfl;go_wp2_with fail;refine (PO.o _).mono ?_;rintro _ w4 ⟨rfl,hb⟩;replace kp:=kp.la hb;replace kx:=kx.la hb;replace kc:=kc.la hb;have I4:=tr I3 hb;clear hb I3 c0 c1 c2 c3 c4 c5 x1 x2 x3 x4 x5 x6;go_wp2_with fail;refine (MW.o _).mono ?_;rintro _ w5 ⟨rfl,hb⟩;have KP:=Bx.mk (kp.la hb);have KX:=Bx.mk (kx.la hb);have KC:=Bx.mk (kc.la hb);have HB:=Bx.mk (tr I4 hb);clear hb I4 kp kx kc MW PO Lv;cases em with
 | true =>
   go_wp2_with fail;go_ret;exact ⟨by rw [hA.o (by first | rfl | trivial)];rfl,HB.o⟩
 | false =>
 go_upto_region 5 with fail;by_cases hq:(⟨⟨ax,ay,az⟩,⟨ax+m,ay+m,az+m⟩⟩:Box)=⟨⟨a,b,c⟩,⟨d,e,f⟩⟩∧κ=3
 · have hR:Bx (R=S):=⟨hP.o (by first | rfl | trivial) hq.1 hq.2⟩
   have Mc : ∀ W:World,(binOp .eql 25 (.agg #[ax,ay,az,(ax+m:Int),(ay+m:Int),(az+m:Int)]) (.agg #[a,b,c,d,e,f])).run Tryz.prog W = .ok (.bool true) W:=fun W=>by rw [Md.o,decide_eq_true hq.1]
   have t1:(κ == 3)=true:=by simp [hq.2]
   clear hq Md;obtain ⟨c0,c1,c2,c3,c4,c5⟩:=KC.o.c6;obtain ⟨x0,x1,x2,x3,x4,x5,x6,x7,x8,x9,V5,V7⟩:=KX.o.c12;have V8:=KX.o.cell 12 rfl;have V9:=KX.o.cell 13 rfl;have VA:=KX.o.cell 14 rfl;have x15:=KX.o.cell 15 rfl;go_wp2_with fail;go_ret;exact ⟨by rw [hR.o];rfl,HB.o⟩
 go_cut [37] from 29 to 37 (fun v wx=>v = .bool false∧wx=w5)
 case first =>
  obtain ⟨c0,c1,c2,c3,c4,c5⟩:=KC.o.c6;obtain ⟨x0,x1,x2,x3,x4,x5,x6⟩:=KX.o.c7;by_cases he:(⟨⟨ax,ay,az⟩,⟨ax+m,ay+m,az+m⟩⟩:Box)=⟨⟨a,b,c⟩,⟨d,e,f⟩⟩
  · have Mc : ∀ W:World,(binOp .eql 25 (.agg #[ax,ay,az,(ax+m:Int),(ay+m:Int),(az+m:Int)]) (.agg #[a,b,c,d,e,f])).run Tryz.prog W = .ok (.bool true) W:=fun W=>by rw [Md.o,decide_eq_true he]
    have t1:(κ == 3)=false:=by simp;exact fun h=>hq ⟨he,h⟩
    clear hq Md he;go_wp2_with fail
    go_meet
    exact ⟨rfl,rfl⟩
  · have Mc : ∀ W:World,(binOp .eql 25 (.agg #[ax,ay,az,(ax+m:Int),(ay+m:Int),(az+m:Int)]) (.agg #[a,b,c,d,e,f])).run Tryz.prog W = .ok (.bool false) W:=fun W=>by rw [Md.o,decide_eq_false he]
    clear hq Md he;go_wp2_with fail
    go_meet
    exact ⟨rfl,rfl⟩
 case rest =>
 obtain ⟨rfl,hw⟩:=hcut;replace hw:=hw.symm;subst hw;have Hq:=Bx.mk hq;clear hq Md hP hA;go_upto_region 7 with fail;obtain ⟨c0,c1,c2,c3,c4,c5⟩:=KC.o.c6;have x1:=KX.o.cell 1 rfl;have x2:=KX.o.cell 2 rfl;have x3:=KX.o.cell 3 rfl;have x4:=KX.o.cell 4 rfl;have x5:=KX.o.cell 5 rfl;have x6:=KX.o.cell 6 rfl;go_wp2_with fail;refine (Lh.o _).mono ?_;rintro _ w6 ⟨rfl,hb⟩;replace KP:=Bx.mk (KP.o.la hb);replace KX:=Bx.mk (KX.o.la hb);replace KC:=Bx.mk (KC.o.la hb);replace HB:=Bx.mk (tr HB.o hb);have Oc:=hb.size;clear hb c0 c1 c2 c3 c4 c5 x1 x2 x3 x4 x5 x6 Lh;go_upto_region 8 with fail;by_cases hu:ins=true∧κ=1
 · obtain ⟨LZ,hR⟩:=hU.o (by first | rfl | trivial) Hq.o hu.1 hu.2
   have HR:=Bx.mk hR;have SP:=Bx.mk fun W=>zKy cell LZ W;obtain ⟨rfl,hk⟩:=hu;have t1:(κ == 1)=true:=by simp [hk]
   have x0:=KX.o.cell 0 rfl;have x7:=KX.o.cell 7 rfl;clear hk hR LZ hU;go_wp2_with fail;refine (SP.o _).mono ?_;rintro _ w7 ⟨rfl,hb⟩;have AA:=Bx.mk (tr HB.o hb);clear hb;go_wp2_with fail;go_ret;exact ⟨by rw [HR.o];rfl,AA.o⟩
 go_cut [49] from 44 to 49 (fun v wx=>v = .bool false∧wx=w6)
 case first =>
  have x0:=KX.o.cell 0 rfl;cases ins with
  | true =>
    have t1:(κ == 1)=false:=by simp;exact fun h=>hu ⟨rfl,h⟩
    clear hu;go_wp2_with fail
    go_meet
    exact ⟨rfl,rfl⟩
  | false =>
    clear hu;go_wp2_with fail
    go_meet
    exact ⟨rfl,rfl⟩
 case rest =>
 obtain ⟨rfl,hw⟩:=hcut;replace hw:=hw.symm;subst hw;have Hu:=Bx.mk hu;clear hu hU;go_upto_region 10 with fail;have Ug:((2:Int) == 2)=true:=by decide
 obtain ⟨hR,TW⟩:=hZ.o (by first | rfl | trivial) Hq.o Hu.o
 have HR:=Bx.mk hR;have HZK:=Bx.mk TW;clear hR TW hZ Hq Hu;go_wp2_with fail;refine (LN.o _).mono ?_;rintro _ w7 ⟨v,rfl,ho,hb⟩;obtain ⟨g,cap,rfl,-,-,-,-,-⟩:=ho.at (by rw [CJ.o];decide)
 rw [CJ.o] at ho ⊢;have hcb6:w.heap.size≤w6.heap.size:=HB.o.size;have hcb7:w.heap.size+1+1≤w6.heap.size:=nll KX.o.lt nlr;have hcb8:cb<w6.heap.size:=KC.o.lt;have HI:Bx (MkI w w6 cb #[.int .i64 κ,a,b,c,d,e,f,cell,q1,q2,q3,q4,q5,q6,.slice ha ys.length hcp,.string S] #[ax,ay,az,(ax+m:Int),(ay+m:Int),(az+m:Int)] (.slice (some ⟨g,0,none⟩) 64 cap) (zIV zs xs 0) w7):=⟨⟨KX.o.la hb,KC.o.la hb,by unfold zIV;simpa using ho,tr HB.o hb⟩⟩
 clear ho hb KX KC KP HB LN Oc Ug;go_wp2_with fail
 go_loopw [13] (fun v13 wr => ∃ k:Nat,k≤64∧v13 = .int .i64 k∧Bx (MkI w w6 cb #[.int .i64 κ,a,b,c,d,e,f,cell,q1,q2,q3,q4,q5,q6,.slice ha ys.length hcp,.string S] #[ax,ay,az,(ax+m:Int),(ay+m:Int),(az+m:Int)] (.slice (some ⟨g,0,none⟩) 64 cap) (zIV zs xs k) wr)) (fun i _=>64 - (intOf i).toNat)
 case atStart=>exact ⟨0,Nat.zero_le _,rfl,HI⟩
 case round =>
  clear HI;obtain ⟨k,hk,rfl,HI⟩:=hrel;by_cases hlt:k<64
  · have t0:decide ((k:Int)<64)=true:=by simp;omega
    have TW:=HZK.o k hlt;have Jk:=Bx.mk fun W=>zK0 ax ay az (ax+m) (ay+m) (az+m) (k:Int) HSM.o ⟨by omega,by rw [HV.o];omega⟩ W
    obtain ⟨⟨px,py,pz⟩,hp⟩ : ∃ p,p=atB ⟨⟨ax,ay,az⟩,⟨ax+m,ay+m,az+m⟩⟩ (k:Int):=⟨_,rfl⟩;rw [←hp] at Jk TW;clear hp;have hin:=Bx.mk fun W=>zK8 px py pz a b c d e f W;have NG:=Bx.mk fun W h=>zK5 q1 q2 q3 q4 q5 q6 px py pz ha hcp ys HGX.o W h;obtain ⟨Ta,Nv⟩ : ∃ Ta,inB ⟨px,py,pz⟩ ⟨⟨a,b,c⟩,⟨d,e,f⟩⟩=Ta:=⟨_,rfl⟩;rw [Nv] at hin TW;clear Nv;have HZ:=Bx.mk TW;clear TW;have b1:(0:Int)≤(k:Int):=by omega
    have b2:(k:Int)<64:=by omega
    obtain ⟨c0,c1,c2,c3,c4,c5⟩:=HI.o.kc.c6;go_wp2_with fail;refine (Jk.o _).mono ?_;rintro _ w8 ⟨rfl,hb⟩;replace HI:=Bx.mk (HI.o.la hb);clear hb c0 c1 c2 c3 c4 c5 Jk
    go_upto_region 16 with fail;generalize hW:w8.alloc _=W9;have hb:=bl1 hW;have kq:Bk W9 w8.heap.size #[px,py,pz] 23:=bk0 hW rfl;clear hW;have Ar:=Bx.mk (HI.o.la hb);clear hb HI;generalize w8.heap.size=pb at *;obtain ⟨p0,p1,p2⟩:=kq.c3;have x1:=Ar.o.kx.cell 1 rfl;have x2:=Ar.o.kx.cell 2 rfl;have x3:=Ar.o.kx.cell 3 rfl;have x4:=Ar.o.kx.cell 4 rfl;have x5:=Ar.o.kx.cell 5 rfl;have x6:=Ar.o.kx.cell 6 rfl;go_wp2_with fail;refine (hin.o _).mono ?_;rintro _ w10 ⟨rfl,hb⟩;have As:=Bx.mk (Ar.o.la hb);have KQ:=Bx.mk (kq.la hb);clear hb kq Ar p0 p1 p2 x1 x2 x3 x4 x5 x6 hin;have x0:=As.o.kx.cell 0 rfl;cases Ta with
    | false =>
      have HJ:Bx (MkI w w6 cb #[.int .i64 κ,a,b,c,d,e,f,cell,q1,q2,q3,q4,q5,q6,.slice ha ys.length hcp,.string S] #[ax,ay,az,(ax+m:Int),(ay+m:Int),(az+m:Int)] (.slice (some ⟨g,0,none⟩) 64 cap) (zIV zs xs (k+1)) w10):=⟨by
       have hh:=As.o;rw [zIY CN.o CJ.o hlt (by simpa using HZ.o)];exact hh⟩
      clear As HZ x0;go_wp2_with fail
      go_roundw
      case rel=>exact ⟨k+1,by omega,by go_num,HJ⟩
      case measure=>simp [intOf];omega
    | true =>
      by_cases k1:κ=1
      · have t1:(κ == 1)=true:=by simp [k1]
        have t2:(κ == 2)=false:=by simp [k1]
        have TS:zs[k]? = some cell:=by have:=HZ.o;simpa [k1] using this
        have CM:=Bx.mk TS;have x7:=As.o.kx.cell 7 rfl;have QM:=As.o.own.at (by rw [zIX CN.o CJ.o (by omega)];decide)
        rw [zIX CN.o CJ.o (by omega)] at QM
        obtain ⟨g',Et,SQ,-,NT,h3,h4,h5⟩:=QM;injection SQ with SV SW SX;injection SV with SV;injection SV with SV;subst SV SX;obtain ⟨old,QI⟩ : ∃ x,(zIV zs xs k)[k]? = some x:=⟨_,lge (by rw [zIX CN.o CJ.o (by omega)];omega)⟩
        have LO:=h3 k old QI;have Mu:=h4 k;have h6:=h5 k cell;rw [zIZ CN.o CJ.o hlt CM.o] at h6;have NK:=(As.o.own.lt g rfl).1;have HJ:Bx (MkI w w6 cb #[.int .i64 κ,a,b,c,d,e,f,cell,q1,q2,q3,q4,q5,q6,.slice ha ys.length hcp,.string S] #[ax,ay,az,(ax+m:Int),(ay+m:Int),(az+m:Int)] (.slice (some ⟨g,0,none⟩) 64 cap) (zIV zs xs (k+1)) (w10.setCell ⟨g,k,none⟩ (.int .i64 cell))):=⟨⟨As.o.kx.other ⟨g,k,none⟩ _ (by show w.heap.size+1 ≠ g;omega),As.o.kc.other ⟨g,k,none⟩ _ (by show cb ≠ g;omega),h6,As.o.bel.setCell (by show w.heap.size≤g;omega) _⟩⟩
        clear h3 h4 h5 h6 QI NK;have y0:=HJ.o.kx.cell 0 rfl;clear k1 TS As HZ;go_wp2_with fail
        go_roundw
        case rel=>exact ⟨k+1,by omega,by go_num,HJ⟩
        case measure=>simp [intOf];omega
      · by_cases k2:κ=2
        · have t1:(κ == 1)=false:=by simp [k2]
          have t2:(κ == 2)=true:=by simp [k2]
          have TS:zs[k]? = some (zE ⟨⟨q1,q2,q3⟩,⟨q4,q5,q6⟩⟩ ys ⟨px,py,pz⟩):=by have:=HZ.o;simpa [k2] using this
          have CM:=Bx.mk TS;clear k1 k2 TS HZ;generalize zE ⟨⟨q1,q2,q3⟩,⟨q4,q5,q6⟩⟩ ys ⟨px,py,pz⟩=gv at *;obtain ⟨p0,p1,p2⟩:=KQ.o.c3;have x8:=As.o.kx.cell 8 rfl;have x9:=As.o.kx.cell 9 rfl;have V5:=As.o.kx.cell 10 rfl;have V7:=As.o.kx.cell 11 rfl;have V8:=As.o.kx.cell 12 rfl;have V9:=As.o.kx.cell 13 rfl;have VA:=As.o.kx.cell 14 rfl;go_wp2_with fail;refine (NG.o _ (Bv.o.below As.o.bel)).mono ?_;rintro _ w11 ⟨rfl,hb⟩;replace As:=Bx.mk (As.o.la hb);clear hb x0 p0 p1 p2 x8 x9 V5 V7 V8 V9 VA;have QM:=As.o.own.at (by rw [zIX CN.o CJ.o (by omega)];decide)
          rw [zIX CN.o CJ.o (by omega)] at QM
          obtain ⟨g',Et,SQ,-,NT,h3,h4,h5⟩:=QM;injection SQ with SV SW SX;injection SV with SV;injection SV with SV;subst SV SX;obtain ⟨old,QI⟩ : ∃ x,(zIV zs xs k)[k]? = some x:=⟨_,lge (by rw [zIX CN.o CJ.o (by omega)];omega)⟩
          have LO:=h3 k old QI;have Mu:=h4 k;have h6:=h5 k gv;rw [zIZ CN.o CJ.o hlt CM.o] at h6;have NK:=(As.o.own.lt g rfl).1;have HJ:Bx (MkI w w6 cb #[.int .i64 κ,a,b,c,d,e,f,cell,q1,q2,q3,q4,q5,q6,.slice ha ys.length hcp,.string S] #[ax,ay,az,(ax+m:Int),(ay+m:Int),(az+m:Int)] (.slice (some ⟨g,0,none⟩) 64 cap) (zIV zs xs (k+1)) (w11.setCell ⟨g,k,none⟩ (.int .i64 gv))):=⟨⟨As.o.kx.other ⟨g,k,none⟩ _ (by show w.heap.size+1 ≠ g;omega),As.o.kc.other ⟨g,k,none⟩ _ (by show cb ≠ g;omega),h6,As.o.bel.setCell (by show w.heap.size≤g;omega) _⟩⟩
          clear h3 h4 h5 h6 QI NK;clear As;go_wp2_with fail
          go_roundw
          case rel=>exact ⟨k+1,by omega,by go_num,HJ⟩
          case measure=>simp [intOf];omega
        · have t1:(κ == 1)=false:=by simp [k1]
          have t2:(κ == 2)=false:=by simp [k2]
          have HJ:Bx (MkI w w6 cb #[.int .i64 κ,a,b,c,d,e,f,cell,q1,q2,q3,q4,q5,q6,.slice ha ys.length hcp,.string S] #[ax,ay,az,(ax+m:Int),(ay+m:Int),(az+m:Int)] (.slice (some ⟨g,0,none⟩) 64 cap) (zIV zs xs (k+1)) w10):=⟨by
           have hh:=As.o;rw [zIY CN.o CJ.o hlt (by have:=HZ.o;simpa [k1,k2] using this)];exact hh⟩
          clear As HZ k1 k2;go_wp2_with fail
          go_roundw
          case rel=>exact ⟨k+1,by omega,by go_num,HJ⟩
          case measure=>simp [intOf];omega
  · obtain rfl:k=64:=by omega
    have t0:decide (((64:Nat):Int)<64)=false:=by decide
    have Mz:zIV zs xs 64=zs:=by unfold zIV;rw [List.take_of_length_le (by rw [CN.o];exact Nat.le_refl _),List.drop_eq_nil_of_le (by rw [CJ.o];exact Nat.le_refl _),List.append_nil]
    have ho:=HI.o.own;rw [Mz] at ho;obtain ⟨pa,pc,Qf,Rn⟩:=ho.form;injection Qf with e1 e2 e3;subst e1;have DX:=Bx.mk Rn;have HBe:=Bx.mk HI.o.bel;clear ho Rn Mz HI e2 e3;go_wp2_with fail;refine (Kl.o _ _ _ DX.o).mono ?_;rintro _ w12 ⟨rfl,hb⟩;have HBf:=Bx.mk (tr HBe.o hb);clear hb;go_wp2_with fail;go_ret;exact ⟨by rw [HR.o];rfl,HBf.o⟩
structure MnI (w:World) (pv xv:Array Value) (v:Value) (vs:List Value) (wr:World):Prop where
 kp:Bk wr w.heap.size pv 23
 kx:Bk wr (w.heap.size+1) xv 164
 own:Ownv wr (w.heap.size+1+1) 9 v vs
 bel:Below w.heap.size w wr
theorem MnI.la {w wr w':World} {pv xv:Array Value} {v:Value} {vs:List Value} (H:MnI w pv xv v vs wr) (h:Below wr.heap.size wr w'):MnI w pv xv v vs w' :=
 ⟨H.kp.la h,H.kx.la h,H.own.below h,tr H.bel h⟩
theorem zIA (κ a b c d e f cell q1 q2 q3 q4 q5 q6:Int) (ha:Option Addr) (hcp:Nat) (ys:List Int) (S S0 R:ByteArray) (ax ay az m:Int) (JC:Small ⟨⟨ax,ay,az⟩,⟨ax+m,ay+m,az+m⟩⟩ 1048575) (Ph:zS ⟨⟨ax,ay,az⟩,⟨ax+m,ay+m,az+m⟩⟩=false)
 (hA:zS (zn ⟨⟨ax,ay,az⟩,⟨ax+m,ay+m,az+m⟩⟩ ⟨⟨a,b,c⟩,⟨d,e,f⟩⟩)=true→R=S0)
 (hP:zS (zn ⟨⟨ax,ay,az⟩,⟨ax+m,ay+m,az+m⟩⟩ ⟨⟨a,b,c⟩,⟨d,e,f⟩⟩)=false→(⟨⟨ax,ay,az⟩,⟨ax+m,ay+m,az+m⟩⟩:Box)=⟨⟨a,b,c⟩,⟨d,e,f⟩⟩→κ=3→R=S)
 (hU:zS (zn ⟨⟨ax,ay,az⟩,⟨ax+m,ay+m,az+m⟩⟩ ⟨⟨a,b,c⟩,⟨d,e,f⟩⟩)=false → ¬((⟨⟨ax,ay,az⟩,⟨ax+m,ay+m,az+m⟩⟩:Box)=⟨⟨a,b,c⟩,⟨d,e,f⟩⟩∧κ=3)→zL ⟨⟨a,b,c⟩,⟨d,e,f⟩⟩ ⟨⟨ax,ay,az⟩,⟨ax+m,ay+m,az+m⟩⟩=true→κ=1→(0≤cell∧cell≤255)∧R=strOfNums (Tr.enc (.uni cell)))
 (n:Nat) (hn:n≤11) (hx:0≤ax∧ax≤16384) (hy:0≤ay∧ay≤16384) (hz:0≤az∧az≤16384) 
 (Lv:Bx (∀ W,Calls Tryz.prog 35 #[.agg #[ax,ay,az],((n:Int)+3:Int)] W fun e w'=>e = .returned (.agg #[ax,ay,az,(ax+m:Int),(ay+m:Int),(az+m:Int)])∧Below W.heap.size W w'))
 (K:Fin 8→Tr) (Iq : ∀ i,Tr.WF (K i)) (Ip:(Tr.enc (.node (n+3) K)).length≤1000000000000000) (SC:Nat→ByteArray)
 (LT:Bx (∀ (k:Nat),k<8 → ∀ W,Calls Tryz.prog 129 #[.string S0,(k:Int)] W fun e w'=>e = .returned (.string (SC k))∧Below W.heap.size W w'))
 (hZ:zS (zn ⟨⟨ax,ay,az⟩,⟨ax+m,ay+m,az+m⟩⟩ ⟨⟨a,b,c⟩,⟨d,e,f⟩⟩)=false → ¬((⟨⟨ax,ay,az⟩,⟨ax+m,ay+m,az+m⟩⟩:Box)=⟨⟨a,b,c⟩,⟨d,e,f⟩⟩∧κ=3) → ¬(zL ⟨⟨a,b,c⟩,⟨d,e,f⟩⟩ ⟨⟨ax,ay,az⟩,⟨ax+m,ay+m,az+m⟩⟩=true∧κ=1)→R=strOfNums (Tr.enc (Tr.mkInner (n+3) K)) ∧ ∀ (k:Nat) (hk:k<8),∀ W,Sl W .i64 ha ys→Calls Tryz.prog 124 #[.string (SC k),.agg #[(ax+chX k (2 ^ (n+2)):Int),(ay+chY k (2 ^ (n+2)):Int),(az+chZ k (2 ^ (n+2)):Int)],((n:Int)+2:Int),.agg #[.int .i64 κ,a,b,c,d,e,f,cell,q1,q2,q3,q4,q5,q6,.slice ha ys.length hcp,.string S]] W fun e' w'=>e' = .returned (.string (strOfNums (Tr.enc (K ⟨k,hk⟩))))∧Below W.heap.size W w') (w:World) (Rn:Sl w .i64 ha ys) :
 Calls Tryz.prog 124 #[.string S0,.agg #[ax,ay,az],((n:Int)+3:Int),.agg #[.int .i64 κ,a,b,c,d,e,f,cell,q1,q2,q3,q4,q5,q6,.slice ha ys.length hcp,.string S]] w fun e' w'=>e' = .returned (.string R)∧Below w.heap.size w w':=by
 have PO:=Bx.mk fun W=>zLD ax ay az (ax+m) (ay+m) (az+m) a b c d e f W;generalize zn ⟨⟨ax,ay,az⟩,⟨ax+m,ay+m,az+m⟩⟩ ⟨⟨a,b,c⟩,⟨d,e,f⟩⟩=M at *;have MW:=Bx.mk fun W=>zK4 M.lo.x M.lo.y M.lo.z M.hi.x M.hi.y M.hi.z W;rw [show (⟨⟨M.lo.x,M.lo.y,M.lo.z⟩,⟨M.hi.x,M.hi.y,M.hi.z⟩⟩:Box)=M from rfl] at MW;generalize zS M=em at *;have Lh:=Bx.mk fun W=>zK1 a b c d e f ax ay az (ax+m) (ay+m) (az+m) JC W;have Lx:zL ⟨⟨a,b,c⟩,⟨d,e,f⟩⟩ ⟨⟨ax,ay,az⟩,⟨ax+m,ay+m,az+m⟩⟩=(zAE (zn ⟨⟨a,b,c⟩,⟨d,e,f⟩⟩ ⟨⟨ax,ay,az⟩,⟨ax+m,ay+m,az+m⟩⟩) == zAE ⟨⟨ax,ay,az⟩,⟨ax+m,ay+m,az+m⟩⟩):=by rw [zN9 Ph];unfold zL;rw [Ph,Bool.false_or]
 rw [←Lx] at Lh;clear Lx Ph;generalize zL ⟨⟨a,b,c⟩,⟨d,e,f⟩⟩ ⟨⟨ax,ay,az⟩,⟨ax+m,ay+m,az+m⟩⟩=ins at *;have Md:=Bx.mk fun W:World=>zEu ax ay az (ax+m) (ay+m) (az+m) a b c d e f W;have hA:=Bx.mk hA;have hP:=Bx.mk hP;have hU:=Bx.mk hU;have hZ:=Bx.mk hZ;have Bv:=Bx.mk Rn;obtain ⟨TK,JH⟩ : ∃ TK:Nat→ByteArray,TK=fun k=>if h:k<8 then strOfNums (Tr.enc (K ⟨k,h⟩)) else ByteArray.empty:=⟨_,rfl⟩;have HTK:=Bx.mk (fun k:Nat=>congrFun JH k);obtain ⟨i0,Na,TQ,TR,TS⟩:=info_parts (show (Tryz.prog.info? 9).map (fun i=>(i.zero,i.size,i.bytes))=some (some (.string ByteArray.empty),1,16) by kernel_rfl)
 have Nw:=Bx.mk fun (a:Option Addr) (cap:Nat) W (h:Slv W a (zM5 (zg K)))=>zKw (n+3) (by omega) K Iq Ip a cap W h
 rw [show ((n+3:Nat):Int)=(n:Int)+3 by omega] at Nw
 have Im:=Bx.mk fun k (hk:k<8)=>(show zM5 ((zg K).take (k+1))=zM5 ((zg K).take k)++[.string (TK k)] by
  rw [zHI K hk,zM7,JH];simp only [];rw [dif_pos hk])
 have Lk:=Bx.mk fun W (k:Nat) (hk:k<8)=>zDS (n+2) (by omega) ax ay az k hk (by omega) (by omega) (by omega) W
 rw [show ((n+2:Nat):Int)+1=(n:Int)+3 by omega] at Lk
 have S8:IntKind.i64.wrap ((n:Int)+3 - 1)=(n:Int)+2:=by rw [show (n:Int)+3 - 1=(n:Int)+2 by omega];exact wj _ (by omega)
 clear JC Rn JH Iq Ip hx hy hz;go_enter Tryz.func124,Tryz.ntmps124;go_upto_region 1 with fail;generalize hW:(w.alloc _).alloc _=W;have JE:W.heap.size=w.heap.size+1+1:=by rw [←hW];simp
 have hB:=bl2 hW;have kp:Bk W w.heap.size #[ax,ay,az] 23:=bk1 hW;have kx:Bk W (w.heap.size+1) #[.int .i64 κ,a,b,c,d,e,f,cell,q1,q2,q3,q4,q5,q6,.slice ha ys.length hcp,.string S] 164:=bk0 hW;clear hW;obtain ⟨cp0,cp1,cp2⟩:=kp.c3;go_wp2_with fail;refine (Lv.o _).mono ?_;rintro _ w2 ⟨rfl,hb⟩;have I2:=tr hB hb;have RY:=hb.size;replace kp:=kp.la hb;replace kx:=kx.la hb;clear cp0 cp1 cp2 hb hB;go_upto_region 2 with fail;generalize hW:w2.alloc _=W;have hb:=bl1 hW;have kc:Bk W w2.heap.size #[ax,ay,az,(ax+m:Int),(ay+m:Int),(az+m:Int)] 25:=bk0 hW;clear hW;replace kp:=kp.la hb;replace kx:=kx.la hb;have I3:=tr I2 hb;have LJ:w.heap.size+1+1≤w2.heap.size:=by omega
 clear hb I2 RY JE;generalize w2.heap.size=cb at *;obtain ⟨c0,c1,c2,c3,c4,c5⟩:=kc.c6;have x1:=kx.cell 1 rfl;have x2:=kx.cell 2 rfl;have x3:=kx.cell 3 rfl;have x4:=kx.cell 4 rfl;have x5:=kx.cell 5 rfl;have x6:=kx.cell 6 rfl;go_wp2_with fail;refine (PO.o _).mono ?_;rintro _ w4 ⟨rfl,hb⟩;replace kp:=kp.la hb;replace kx:=kx.la hb;replace kc:=kc.la hb;have I4:=tr I3 hb;clear hb I3 c0 c1 c2 c3 c4 c5 x1 x2 x3 x4 x5 x6;go_wp2_with fail;refine (MW.o _).mono ?_;rintro _ w5 ⟨rfl,hb⟩;have KP:=Bx.mk (kp.la hb);have KX:=Bx.mk (kx.la hb);have KC:=Bx.mk (kc.la hb);have HB:=Bx.mk (tr I4 hb);clear hb I4 kp kx kc MW PO Lv;cases em with
 | true =>
   go_wp2_with fail;go_ret;exact ⟨by rw [hA.o (by first | rfl | trivial)];rfl,HB.o⟩
 | false =>
 go_upto_region 5 with fail;by_cases hq:(⟨⟨ax,ay,az⟩,⟨ax+m,ay+m,az+m⟩⟩:Box)=⟨⟨a,b,c⟩,⟨d,e,f⟩⟩∧κ=3
 · have hR:Bx (R=S):=⟨hP.o (by first | rfl | trivial) hq.1 hq.2⟩
   have Mc : ∀ W:World,(binOp .eql 25 (.agg #[ax,ay,az,(ax+m:Int),(ay+m:Int),(az+m:Int)]) (.agg #[a,b,c,d,e,f])).run Tryz.prog W = .ok (.bool true) W:=fun W=>by rw [Md.o,decide_eq_true hq.1]
   have t1:(κ == 3)=true:=by simp [hq.2]
   clear hq Md;obtain ⟨c0,c1,c2,c3,c4,c5⟩:=KC.o.c6;obtain ⟨x0,x1,x2,x3,x4,x5,x6,x7,x8,x9,V5,V7⟩:=KX.o.c12;have V8:=KX.o.cell 12 rfl;have V9:=KX.o.cell 13 rfl;have VA:=KX.o.cell 14 rfl;have x15:=KX.o.cell 15 rfl;go_wp2_with fail;go_ret;exact ⟨by rw [hR.o];rfl,HB.o⟩
 go_cut [37] from 29 to 37 (fun v wx=>v = .bool false∧wx=w5)
 case first =>
  obtain ⟨c0,c1,c2,c3,c4,c5⟩:=KC.o.c6;obtain ⟨x0,x1,x2,x3,x4,x5,x6⟩:=KX.o.c7;by_cases he:(⟨⟨ax,ay,az⟩,⟨ax+m,ay+m,az+m⟩⟩:Box)=⟨⟨a,b,c⟩,⟨d,e,f⟩⟩
  · have Mc : ∀ W:World,(binOp .eql 25 (.agg #[ax,ay,az,(ax+m:Int),(ay+m:Int),(az+m:Int)]) (.agg #[a,b,c,d,e,f])).run Tryz.prog W = .ok (.bool true) W:=fun W=>by rw [Md.o,decide_eq_true he]
    have t1:(κ == 3)=false:=by simp;exact fun h=>hq ⟨he,h⟩
    clear hq Md he;go_wp2_with fail
    go_meet
    exact ⟨rfl,rfl⟩
  · have Mc : ∀ W:World,(binOp .eql 25 (.agg #[ax,ay,az,(ax+m:Int),(ay+m:Int),(az+m:Int)]) (.agg #[a,b,c,d,e,f])).run Tryz.prog W = .ok (.bool false) W:=fun W=>by rw [Md.o,decide_eq_false he]
    clear hq Md he;go_wp2_with fail
    go_meet
    exact ⟨rfl,rfl⟩
 case rest =>
 obtain ⟨rfl,hw⟩:=hcut;replace hw:=hw.symm;subst hw;have Hq:=Bx.mk hq;clear hq Md hP hA;go_upto_region 7 with fail;obtain ⟨c0,c1,c2,c3,c4,c5⟩:=KC.o.c6;have x1:=KX.o.cell 1 rfl;have x2:=KX.o.cell 2 rfl;have x3:=KX.o.cell 3 rfl;have x4:=KX.o.cell 4 rfl;have x5:=KX.o.cell 5 rfl;have x6:=KX.o.cell 6 rfl;go_wp2_with fail;refine (Lh.o _).mono ?_;rintro _ w6 ⟨rfl,hb⟩;replace KP:=Bx.mk (KP.o.la hb);replace KX:=Bx.mk (KX.o.la hb);replace KC:=Bx.mk (KC.o.la hb);replace HB:=Bx.mk (tr HB.o hb);have Oc:=hb.size;clear hb c0 c1 c2 c3 c4 c5 x1 x2 x3 x4 x5 x6 Lh;go_upto_region 8 with fail;by_cases hu:ins=true∧κ=1
 · obtain ⟨LZ,hR⟩:=hU.o (by first | rfl | trivial) Hq.o hu.1 hu.2
   have HR:=Bx.mk hR;have SP:=Bx.mk fun W=>zKy cell LZ W;obtain ⟨rfl,hk⟩:=hu;have t1:(κ == 1)=true:=by simp [hk]
   have x0:=KX.o.cell 0 rfl;have x7:=KX.o.cell 7 rfl;clear hk hR LZ hU;go_wp2_with fail;refine (SP.o _).mono ?_;rintro _ w7 ⟨rfl,hb⟩;have AA:=Bx.mk (tr HB.o hb);clear hb;go_wp2_with fail;go_ret;exact ⟨by rw [HR.o];rfl,AA.o⟩
 go_cut [49] from 44 to 49 (fun v wx=>v = .bool false∧wx=w6)
 case first =>
  have x0:=KX.o.cell 0 rfl;cases ins with
  | true =>
    have t1:(κ == 1)=false:=by simp;exact fun h=>hu ⟨rfl,h⟩
    clear hu;go_wp2_with fail
    go_meet
    exact ⟨rfl,rfl⟩
  | false =>
    clear hu;go_wp2_with fail
    go_meet
    exact ⟨rfl,rfl⟩
 case rest =>
 obtain ⟨rfl,hw⟩:=hcut;replace hw:=hw.symm;subst hw;have Hu:=Bx.mk hu;clear hu hU;go_upto_region 10 with fail;have Ug:((n:Int)+3 == 2)=false:=by simp;omega
 obtain ⟨hR,Nn⟩:=hZ.o (by first | rfl | trivial) Hq.o Hu.o
 have HR:=Bx.mk hR;have Nn:=Bx.mk Nn;clear hR hZ Hq Hu;have HI:Bx (MnI w #[ax,ay,az] #[.int .i64 κ,a,b,c,d,e,f,cell,q1,q2,q3,q4,q5,q6,.slice ha ys.length hcp,.string S] (.slice none 0 0) (zM5 ((zg K).take 0)) w6):=⟨⟨KP.o,KX.o,Ownv.nil _ _ _,HB.o⟩⟩;clear KP KX KC HB Oc;go_wp2_with fail;clear Ug
 go_loopw [17,18] (fun v17 v18 wr => ∃ k:Nat,k≤8∧v18 = .int .i64 k∧Bx (MnI w #[ax,ay,az] #[.int .i64 κ,a,b,c,d,e,f,cell,q1,q2,q3,q4,q5,q6,.slice ha ys.length hcp,.string S] v17 (zM5 ((zg K).take k)) wr)) (fun _ i _=>8 - (intOf i).toNat)
 case atStart=>exact ⟨0,Nat.zero_le _,rfl,HI⟩
 case round =>
  clear HI;obtain ⟨k,hk,rfl,HI⟩:=hrel;by_cases hlt:k<8
  · have t0:decide ((k:Int)<8)=true:=by simp;omega
    have b1:(0:Int)≤(k:Int):=by omega
    have b2:(k:Int)<8:=by omega
    have Po:=Bx.mk (Im.o k hlt);have Dh:=Bx.mk (show (zM5 ((zg K).take k)).length≤1000000000 by rw [zAC,List.length_take];omega)
    have LX:=Bx.mk (LT.o k hlt);have Np:=Bx.mk (Nn.o k hlt);rw [show strOfNums (Tr.enc (K ⟨k,hlt⟩))=TK k by rw [HTK.o,dif_pos hlt]] at Np
    obtain ⟨cp0,cp1,cp2⟩:=HI.o.kp.c3;obtain ⟨cx0,cx1,cx2,G0,G1,cx5,cx6,cx7,cx8,cx9,cx10,cx11⟩:=HI.o.kx.c12;have Fw:=HI.o.kx.cell 12 rfl;have Fx:=HI.o.kx.cell 13 rfl;have Fy:=HI.o.kx.cell 14 rfl;have Fz:=HI.o.kx.cell 15 rfl;have Ob:w.heap.size+1+1≤wr.heap.size:=HI.o.kx.lt;go_wp2_with fail
    go_region_held3 (fun w'=>w'.cell? ⟨w.heap.size,0,none⟩=some (.int .i64 ax)∧w'.cell? ⟨w.heap.size,1,none⟩=some (.int .i64 ay)∧w'.cell? ⟨w.heap.size,2,none⟩=some (.int .i64 az)∧w'.cell? ⟨w.heap.size+1,0,none⟩=some (.int .i64 κ)∧w'.cell? ⟨w.heap.size+1,1,none⟩=some (.int .i64 a)∧w'.cell? ⟨w.heap.size+1,2,none⟩=some (.int .i64 b)∧w'.cell? ⟨w.heap.size+1,3,none⟩=some (.int .i64 c)∧w'.cell? ⟨w.heap.size+1,4,none⟩=some (.int .i64 d)∧w'.cell? ⟨w.heap.size+1,5,none⟩=some (.int .i64 e)∧w'.cell? ⟨w.heap.size+1,6,none⟩=some (.int .i64 f)∧w'.cell? ⟨w.heap.size+1,7,none⟩=some (.int .i64 cell)∧w'.cell? ⟨w.heap.size+1,8,none⟩=some (.int .i64 q1)∧w'.cell? ⟨w.heap.size+1,9,none⟩=some (.int .i64 q2)∧w'.cell? ⟨w.heap.size+1,10,none⟩=some (.int .i64 q3)∧w'.cell? ⟨w.heap.size+1,11,none⟩=some (.int .i64 q4)∧w'.cell? ⟨w.heap.size+1,12,none⟩=some (.int .i64 q5)∧w'.cell? ⟨w.heap.size+1,13,none⟩=some (.int .i64 q6)∧w'.cell? ⟨w.heap.size+1,14,none⟩=some (.slice ha ys.length hcp)∧w'.cell? ⟨w.heap.size+1,15,none⟩=some (.string S))
     (first | go_keep | (dsimp only;and_intros <;> assumption))
     (first
      | (go_at_call 124;refine (Np.o _ (Bv.o.below Ap.bel)).mono ?_;rintro e6 w6 ⟨rfl,K4⟩;have Aq:=Ap.la K4;have dp0:=Aq.kp.cell 0 rfl;have dp1:=Aq.kp.cell 1 rfl;have dp2:=Aq.kp.cell 2 rfl;have dx0:=Aq.kx.cell 0 rfl;have dx1:=Aq.kx.cell 1 rfl;have dx2:=Aq.kx.cell 2 rfl;have dx3:=Aq.kx.cell 3 rfl;have dx4:=Aq.kx.cell 4 rfl;have dx5:=Aq.kx.cell 5 rfl;have dx6:=Aq.kx.cell 6 rfl;have dx7:=Aq.kx.cell 7 rfl;have dx8:=Aq.kx.cell 8 rfl;have dx9:=Aq.kx.cell 9 rfl;have G7:=Aq.kx.cell 10 rfl;have G8:=Aq.kx.cell 11 rfl;have G9:=Aq.kx.cell 12 rfl;have GA:=Aq.kx.cell 13 rfl;have GB:=Aq.kx.cell 14 rfl;have GC:=Aq.kx.cell 15 rfl)
      | (go_at_call 130;refine (Lk.o _ k hlt).mono ?_;rintro e5 w5 ⟨rfl,K3⟩;have Ap:=Ao.la K3;have ep0:=Ap.kp.cell 0 rfl;have ep1:=Ap.kp.cell 1 rfl;have ep2:=Ap.kp.cell 2 rfl;have ex0:=Ap.kx.cell 0 rfl;have ex1:=Ap.kx.cell 1 rfl;have ex2:=Ap.kx.cell 2 rfl;have ex3:=Ap.kx.cell 3 rfl;have ex4:=Ap.kx.cell 4 rfl;have ex5:=Ap.kx.cell 5 rfl;have ex6:=Ap.kx.cell 6 rfl;have ex7:=Ap.kx.cell 7 rfl;have ex8:=Ap.kx.cell 8 rfl;have ex9:=Ap.kx.cell 9 rfl;have GG:=Ap.kx.cell 10 rfl;have GH:=Ap.kx.cell 11 rfl;have GI:=Ap.kx.cell 12 rfl;have GJ:=Ap.kx.cell 13 rfl;have GK:=Ap.kx.cell 14 rfl;have GL:=Ap.kx.cell 15 rfl)
      | (go_at_call 129;refine (LX.o _).mono ?_;rintro e4 w4 ⟨rfl,Jz⟩;have I4:=(Below.refl wr.heap.size wr).drew.trans Jz;have Ao:=HI.o.la I4;have fp0:=Ao.kp.cell 0 rfl;have fp1:=Ao.kp.cell 1 rfl;have fp2:=Ao.kp.cell 2 rfl;have fx0:=Ao.kx.cell 0 rfl;have fx1:=Ao.kx.cell 1 rfl;have fx2:=Ao.kx.cell 2 rfl;have fx3:=Ao.kx.cell 3 rfl;have fx4:=Ao.kx.cell 4 rfl;have fx5:=Ao.kx.cell 5 rfl;have fx6:=Ao.kx.cell 6 rfl;have fx7:=Ao.kx.cell 7 rfl;have fx8:=Ao.kx.cell 8 rfl;have fx9:=Ao.kx.cell 9 rfl;have Gd:=Ao.kx.cell 10 rfl;have Ge:=Ao.kx.cell 11 rfl;have Gf:=Ao.kx.cell 12 rfl;have Gg:=Ao.kx.cell 13 rfl;have Gh:=Ao.kx.cell 14 rfl;have Gi:=Ao.kx.cell 15 rfl)
      | (refine step_append_lies _ (by rfl) (.tmp 101) (.tmp 113) 35 (by rfl) (w.heap.size+1+1) 9 i0 (.string ByteArray.empty) 1 16 Tryz.underlying35 Na TQ TR TS rfl (by omega) _ _ _ (by simp [Act.eval,Act.put]) (Aq.own.alloc _) ⟨w6.heap.size,0,none⟩ 1 1 [.string (TK k)] (by simp [Act.eval,Act.put]) rfl (zJN w6 _) zJL (by omega) (by have:=Dh.o;simp only [maxLen];omega) (by have:=Dh.o;omega) (by have:=Aq.kx.lt;simp;omega) (w6.heap.size+1) (by simp) ?_;intro g9 c9 w9 QW NB Jm PB;have Ar:=Aq.la (zB w6 (.cells #[.string (TK k)] 9));have U0:=Bk.grownO Ar.kp NB (fun e=>by have:=(Ar.own.lt _ e).1;omega);have U8:=Bk.grownO Ar.kx NB (fun e=>by have:=(Ar.own.lt _ e).1;omega);have gp0:=U0.cell 0 rfl;have gp1:=U0.cell 1 rfl;have gp2:=U0.cell 2 rfl;have gx0:=U8.cell 0 rfl;have gx1:=U8.cell 1 rfl;have gx2:=U8.cell 2 rfl;have gx3:=U8.cell 3 rfl;have gx4:=U8.cell 4 rfl;have gx5:=U8.cell 5 rfl;have gx6:=U8.cell 6 rfl;have gx7:=U8.cell 7 rfl;have gx8:=U8.cell 8 rfl;have gx9:=U8.cell 9 rfl;have Gk:=U8.cell 10 rfl;have Gl:=U8.cell 11 rfl;have Gm:=U8.cell 12 rfl;have Gn:=U8.cell 13 rfl;have Gp:=U8.cell 14 rfl;have Gq:=U8.cell 15 rfl))
    have hO:Ownv w9 (w.heap.size+1+1) 9 (.slice (some ⟨g9,0,none⟩) ((zM5 (List.take k (zg K))).length+1) c9) (zM5 ((zg K).take (k+1))):=by
     unfold Ownv;rw [Po.o,List.length_append,List.length_singleton];exact QW
    have K7:=(Ar.bel).grown NB Ar.bel.size (fun g hg=>by have:=(Ar.own.lt g hg).1;omega)
    have Am:=Bx.mk (show MnI w #[ax,ay,az] #[.int .i64 κ,a,b,c,d,e,f,cell,q1,q2,q3,q4,q5,q6,.slice ha ys.length hcp,.string S] _ (zM5 ((zg K).take (k+1))) w9 from ⟨U0,U8,hO,K7⟩);clear QW NB K7 hO U0 U8 Jm PB gp0 gp1 gp2 gx0 gx1 gx2 gx3 gx4 gx5 gx6 gx7 gx8 gx9 Gk Gl Gm Gn Gp Gq dp0 dp1 dp2 dx0 dx1 dx2 dx3 dx4 dx5 dx6 dx7 dx8 dx9 G7 G8 G9 GA GB GC ep0 ep1 ep2 ex0 ex1 ex2 ex3 ex4 ex5 ex6 ex7 ex8 ex9 GG GH GI GJ GK GL fp0 fp1 fp2 fx0 fx1 fx2 fx3 fx4 fx5 fx6 fx7 fx8 fx9 Gd Ge Gf Gg Gh Gi cp0 cp1 cp2 cx0 cx1 cx2 G0 G1 cx5 cx6 cx7 cx8 cx9 cx10 cx11 Fw Fx Fy Fz Ar Aq Ap Ao;go_wp2_with fail
    go_roundw
    case rel=>exact ⟨k+1,by omega,by go_num,Am⟩
    case measure=>simp [intOf];omega
  · obtain rfl:k=8:=by omega
    have t0:decide (((8:Nat):Int)<8)=false:=by decide
    have QS:=HI.o.own;rw [List.take_of_length_le (by rw [zh];exact Nat.le_refl _)] at QS
    obtain ⟨pa,pc,rfl,Rn⟩:=QS.form;have OW:(zM5 (zg K)).length=8:=by rw [zAC,zh]
    rw [OW];have Db:=Bx.mk Rn;clear Rn QS OW;go_wp2_with fail;refine (Nw.o pa pc _ Db.o).mono ?_;rintro _ w9 ⟨rfl,K7⟩;have AB:=Bx.mk (tr HI.o.bel K7);clear K7;go_wp2_with fail;go_ret;exact ⟨by rw [HR.o];rfl,AB.o⟩
structure MadeC (V:Nat→Pt→Prop) (N:Nat) (κ:Int) (b:Box) (cell:Int) (gb:Box) (ys:List Int) (S:ByteArray) (f f':Pt→Int):Prop where
 vtop:V N ⟨0,0,0⟩
 vkid : ∀ n a i,i<8→InT N (n+1) a→V (n+1) a→zS (zn (zM (n+1) a) b)=false → ¬(zM (n+1) a=b∧κ=3)→V n (Tr.cor a n i)
 off : ∀ n a,InT N n a→V n a→zS (zn (zM n a) b)=true→Tr.can f' n a=Tr.can f n a
 part : ∀ n a,InT N n a→κ=3→zM n a=b→S=strOfNums (Tr.enc (Tr.can f' n a))
 uni : ∀ n a,InT N n a→κ=1→zL b (zM n a)=true→(0≤cell∧cell≤255)∧Tr.can f' n a = .uni cell
 cells : ∀ a,InT N 0 a→V 0 a→zS (zn (zM 0 a) b)=false → ¬(zM 0 a=b∧κ=3) → ∀ p,inB p (zM 0 a)=true→f' p=if inB p b=true∧κ=1 then cell else if inB p b=true∧κ=2 then zE gb ys p else f p
theorem zDt (n:Nat) (a:Pt):zS (zM n a)=false:=by
 have hp:=Tr.pow_pos2 n;exact zT.2 (by simp only [];omega)
theorem InT.small {N n:Nat} {a:Pt} (hN:N≤12) (h:InT N n a):Small (zM n a) 1048575:=by
 obtain ⟨b1,b2,b3⟩:=h.bd hN;have h1:=zt (show n+2≤14 by have:=h.le;omega)
 exact ⟨by simp only [];omega,by simp only [];omega,by simp only [];omega,by simp only [];omega,by simp only [];omega,by simp only [];omega⟩
theorem zCJ {f:Pt→Int} (hf : ∀ p,0≤f p∧f p≤255) (a:Pt):(zG f a).all Pal.cell=true:=by
 rw [List.all_eq_true];intro x hx;unfold zG at hx;obtain ⟨k,-,rfl⟩:=List.mem_map.1 hx;have:=hf (Tr.cellAt a k);rw [Pal.cell_eq];simpa using this
theorem zCK (f:Pt→Int) (a:Pt) {k:Nat} (hk:k<64):(zG f a)[k]? = some (f (atB (zM 0 a) (k:Int))):=by
 rw [zCL];have hv:zAE (zDn a)=64:=(zDm a.x a.y a.z).2.2;exact zJ (by rw [hv];exact hk)
theorem zH8 {V:Nat→Pt→Prop} {N:Nat} {κ a b c d e f cell q1 q2 q3 q4 q5 q6:Int} {ys:List Int} {S:ByteArray} {g g':Pt→Int} (hN:N≤12) (C:MadeC V N κ ⟨⟨a,b,c⟩,⟨d,e,f⟩⟩ cell ⟨⟨q1,q2,q3⟩,⟨q4,q5,q6⟩⟩ ys S g g') (hg : ∀ p,0≤g p∧g p≤255) (N1 : ∀ p,0≤g' p∧g' p≤255) (ha:Option Addr) (hcp:Nat) (HX:GoodG ⟨⟨q1,q2,q3⟩,⟨q4,q5,q6⟩⟩ ys hcp) :
 ∀ (n : Nat) (p : Pt) (_hin : InT N n p) (_hV : V n p) (w : World) (_hsl : Sl w .i64 ha ys),
   Calls Tryz.prog 124 #[.string (strOfNums (Tr.enc (Tr.can g n p))),.agg #[p.x,p.y,p.z],((n:Int)+2:Int),.agg #[.int .i64 κ,a,b,c,d,e,f,cell,q1,q2,q3,q4,q5,q6,.slice ha ys.length hcp,.string S]] w
    fun e' w'=>e' = .returned (.string (strOfNums (Tr.enc (Tr.can g' n p))))∧Below w.heap.size w w':=by
 intro n
 induction n with
 | zero =>
   intro p hin hV w Rn;have Rv:=hin.small hN;have Ph:=zDt 0 p;obtain ⟨b1,b2,b3⟩:=hin.bd hN;have Lv:Bx (∀ W,Calls Tryz.prog 35 #[.agg #[p.x,p.y,p.z],(2:Int)] W fun e w'=>e = .returned (.agg #[p.x,p.y,p.z,(p.x+2 ^ (0+2):Int),(p.y+2 ^ (0+2):Int),(p.z+2 ^ (0+2):Int)])∧Below W.heap.size W w'):=⟨fun W=>zDp p.x p.y p.z 2 (by omega) (by omega) (by omega) (by omega) W⟩
   rw [show (((0:Nat):Int)+2)=2 from rfl];refine zH9 κ a b c d e f cell q1 q2 q3 q4 q5 q6 ha hcp ys S _ _ p.x p.y p.z (2 ^ (0+2)) Rv Ph ?_ ?_ ?_ Lv (zG g p) (zG g' p) (zH _ _) (zH _ _) (zDm p.x p.y p.z).2.2 HX ⟨fun W=>zCN _ (zH _ _) (zCJ hg p) W⟩ ⟨fun pa cap W h=>zKr pa cap _ W (zH _ _) (zCJ N1 p) h⟩ ?_ w Rn
   · intro h;rw [C.off 0 p hin hV h];rfl
   · intro _ h1 h2;exact (C.part 0 p hin h2 h1).symm
   · intro _ _ h1 h2;obtain ⟨h3,h4⟩:=C.uni 0 p hin h2 h1;exact ⟨h3,by rw [h4]⟩
   · intro h1 h2 h3;refine ⟨rfl,fun k hk=>?_⟩;have hv:zAE (zM 0 p)=64:=(zDm p.x p.y p.z).2.2;have Jk:=(zBV (b:=zM 0 p) (i:=(k:Int)) (by omega) (by rw [hv];omega)).1
     rw [zCK g' p hk,C.cells p hin hV h1 h2 _ Jk,List.getD_eq_getElem?_getD,zCK g p hk];rfl
 | succ n ih =>
   intro p hin hV w Rn;have Rv:=hin.small hN;have Ph:=zDt (n+1) p;obtain ⟨b1,b2,b3⟩:=hin.bd hN;have OY:=hin.le;have e3:(((n+1:Nat):Int)+2)=(n:Int)+3:=by omega
   have Lv:Bx (∀ W,Calls Tryz.prog 35 #[.agg #[p.x,p.y,p.z],((n:Int)+3:Int)] W fun e w'=>e = .returned (.agg #[p.x,p.y,p.z,(p.x+2 ^ (n+1+2):Int),(p.y+2 ^ (n+1+2):Int),(p.z+2 ^ (n+1+2):Int)])∧Below W.heap.size W w'):=⟨fun W=>by
    have h:=zDp p.x p.y p.z (n+1+2) (by omega) (by omega) (by omega) (by omega) W
    rw [show ((n+1+2:Nat):Int)=(n:Int)+3 by omega] at h
    exact h⟩
   have hW : ∀ i:Fin 8,Tr.WF (Tr.can g' n (Tr.cor p n i.val)):=fun i=>zAF N1 n _ (by omega)
   have Ip:(Tr.enc (.node (n+3) (fun i:Fin 8=>Tr.can g' n (Tr.cor p n i.val)))).length≤1000000000000000:=by
    have hk:=fun i:Fin 8=>zB7 N1 (show n≤12 by omega) (Tr.cor p n i.val)
    rw [←Tr.pos_all (n+3) (fun i:Fin 8=>Tr.can g' n (Tr.cor p n i.val))]
    have key : ∀ k,k≤8→Tr.pos (fun i:Fin 8=>Tr.can g' n (Tr.cor p n i.val)) k≤2+k * 100000000000000:=by
     intro k
     induction k with
     | zero=>intro _;rw [Tr.pos_zero];omega
     | succ k ih2=>intro O9;rw [Tr.pos_succ _ (by omega)];have h1:=ih2 (by omega);have h2:=hk ⟨k,by omega⟩;omega
    have:=key 8 nlr;omega
   rw [e3];refine zIA κ a b c d e f cell q1 q2 q3 q4 q5 q6 ha hcp ys S _ _ p.x p.y p.z (2 ^ (n+1+2)) Rv Ph ?_ ?_ ?_ n (by omega) b1 b2 b3 Lv (fun i:Fin 8=>Tr.can g' n (Tr.cor p n i.val)) hW Ip (fun k=>strOfNums (Tr.enc (Tr.can g n (Tr.cor p n k)))) ⟨fun k hk W=>?_⟩ ?_ w Rn
   · intro h;rw [C.off (n+1) p hin hV h]
   · intro _ h1 h2;exact (C.part (n+1) p hin h2 h1).symm
   · intro _ _ h1 h2;obtain ⟨h3,h4⟩:=C.uni (n+1) p hin h2 h1;exact ⟨h3,by rw [h4]⟩
   · have h:=zCm (Tr.can g (n+1) p) (zAF hg (n+1) p (by omega)) (by have:=zB7 hg (show n+1≤12 by omega) p;omega) k hk W
     rw [zB3] at h;exact h
   · intro h1 h2 h3;refine ⟨rfl,fun k hk W hs=>?_⟩;have h:=ih (Tr.cor p n k) (hin.kid hk) (C.vkid n p k hk hin hV h1 h2) W hs;exact h
end
section
open Go.Sort Go.RowKit
section
variable {P:Program} {l:List Oper} {n:Nat} {R:Nat→Value→World→Prop} {W:World} {a:Act}
theorem zLc (hn:n≤l.length) (B:RelB l n) (hb:zBa .any l n=true) (ht:zNH .any l n=true) (hf : ∀ i,i<n→zAO (R i)) (hd : ∀ i d,i<n→zR l i=some d→d<a.tmps.size)
 (QL : ∀ i o,i<n→l[i]? = some o → ∀ (ρ:Operand→Value) w,Below W.heap.size W w→(∀ v,ρ (.const v)=v)→(∀ g,ρ (.global g) = .pointer (some ⟨g,0,none⟩))→(∀ f,ρ (.func f) = .func (.func f) #[] #[]) →
  (∀ d,.tmp d∈o.op.operands→zAS l n R a d (ρ (.tmp d)) w)→zLT P w (R i) ((execOp ρ o).run P w))
 {Q:Exit→Act→World→Prop} (MY : ∀ a' w',RI l n R W a (Array.replicate n true) a' w'→wpAny P .any l.toArray Q (l.length - n) (Array.replicate n true++Array.replicate (l.length - n) false) a' w') :
 ∀ (f:Nat) (s:Array Bool) (a':Act) (w':World),s.size=n→zAf .any l s→unl s=f→RI l n R W a s a' w'→wpAny P .any l.toArray Q (f+(l.length - n)) (s++Array.replicate (l.length - n) false) a' w'
 | 0, s, a', w', hs, _, hu, I => by
   have e:s=Array.replicate n true:=by rw [←hs];exact zN0 hu
   rw [Nat.zero_add,e];rw [e] at I;exact MY a' w' I
 | f + 1, s, a', w', hs, Rj, hu, I => by
   obtain ⟨k,hk,SO⟩:=zNy (s:=s) (by omega)
   rw [show f+1+(l.length - n)=(f+(l.length - n))+1 by omega]
   refine ⟨fun h0=>?_,fun i hi=>?_⟩
   · obtain ⟨i,hi⟩:=zKp (g:=l.length - n) hs hn hb (k+1) k (by omega) (by omega) SO
     rw [h0] at hi;cases hi
   · have hin:=zKo hs Rj (by omega:k<n) SO ht hi
     have Ny:s.getD i true=false:=by have:=(mem_ready.1 hi).1;rwa [zBQ hs hin] at this
     refine wpOp_mono (fun a'' V0 I'=>?_) (zLe B hf hd QL hs I hin hi Ny);rw [zBR (by omega)]
     refine zLc hn B hb ht hf hd QL MY f _ a'' V0 (by simpa using hs) (zMI Rj (zKm hs hin hb hi) hin) ?_ I'
     have:=zNz (s:=s) (by omega) Ny
     omega
def zGH (l:List Oper) (n:Nat):Bool :=
 decide (n<l.length) && zBa .any l n && zNH .any l n && relB l n && Region.seqB .any l.toArray (l.length - n) n (Array.replicate n true++Array.replicate (l.length - n) false)
theorem zBH {Q:Exit→Act→World→Prop} (n:Nat) (R:Nat→Value→World→Prop) (hB:zGH l n=true) (m:Nat) (MI:zEY l m=true) (Jf:a.tmps.size=m)
 (hf : ∀ i,i<n→zAO (R i))
 (QL : ∀ i o,i<n→l[i]? = some o → ∀ (ρ:Operand→Value) w,Below W.heap.size W w→(∀ v,ρ (.const v)=v)→(∀ g,ρ (.global g) = .pointer (some ⟨g,0,none⟩))→(∀ f,ρ (.func f) = .func (.func f) #[] #[]) →
  (∀ d,.tmp d∈o.op.operands→zAS l n R a d (ρ (.tmp d)) w)→zLT P w (R i) ((execOp ρ o).run P w))
 (h : ∀ (vs:List Value) w',vs.length=n→Below W.heap.size W w'→(∀ i v,vs[i]? = some v→R i v w')→wpList P l.toArray Q (l.drop n) (zKg (((l.take n).map (·.dst)).zip vs) a) w'):wpAny P .any l.toArray Q l.toArray.size (Array.replicate l.toArray.size false) a { W with drawn:=W.drawn+1 }:=by
 simp only [zGH,Bool.and_eq_true,decide_eq_true_eq] at hB;obtain ⟨⟨⟨⟨hn,hb⟩,ht⟩,hrel⟩,Rh⟩:=hB;have B:=zLQ hrel;have hd : ∀ i d,i<n→zR l i=some d→d<a.tmps.size:=fun i d _ hd=>by rw [Jf];exact zEZ MI hd
 have:=zLc (Q:=Q) (by omega) B hb ht hf hd QL (fun a' w' I=>?_) n (Array.replicate n false) a { W with drawn:=W.drawn+1 } (by simp) (fun m k h=>by
  simp only [Array.getD_eq_getD_getElem?,Array.getElem?_replicate] at h;split at h <;> simp at h) (by simp [unl])
  ⟨rfl,rfl,fun x _=>rfl,fun i d _ hs=>(by rw [getD_replicate_false] at hs;cases hs),⟨rfl,rfl,rfl,Nat.le_refl _,fun _ _=>rfl⟩⟩
 · have e:Array.replicate n false++Array.replicate (l.length - n) false=Array.replicate l.toArray.size false:=by
    rw [Array.replicate_append_replicate];congr 1;simp;omega
   rw [e,show n+(l.length - n)=l.toArray.size by simp;omega] at this
   exact this
 · have hv : ∀ i,∃ v,i<n→(∃ d,zR l i=some d∧a'.tmps[d]? = some v)∧R i v w':=by
    intro i;by_cases hi:i<n
    · obtain ⟨o,ho⟩ : ∃ o,l[i]? = some o:=⟨_,lge (by omega)⟩
      obtain ⟨d,MA⟩:=B.dst i o hi ho;have MG:zR l i=some d:=by simp [zR,ho,MA]
      obtain ⟨v,h1,h2⟩:=I.head i d hi (by simp [hi]) MG
      exact ⟨v,fun _=>⟨⟨d,MG,h1⟩,h2⟩⟩
    · exact ⟨undef,fun h=>absurd h hi⟩
   obtain ⟨g,hg⟩:=Classical.axiomOfChoice hv;have Od:((List.range n).map g).length=n:=by simp
   have hz : ∀ i,i<n→(((l.take n).map (·.dst)).zip ((List.range n).map g))[i]? = some (zR l i,g i):=by
    intro i hi;rw [(List.getElem?_zip_eq_some (z:=(zR l i,g i))).2];refine ⟨?_,by simp [hi]⟩
    rw [List.getElem?_map,List.getElem?_take,if_pos hi];unfold zR;rw [lge (show i<l.length by omega)];rfl
   have hlt : ∀ {i p},(((l.take n).map (·.dst)).zip ((List.range n).map g))[i]? = some p→i<n:=by
    intro i p hp;have:=(List.getElem?_eq_some_iff.1 hp).1;simp at this;omega
   have Mc:a'=zKg (((l.take n).map (·.dst)).zip ((List.range n).map g)) a:=by
    refine zAl ?_ fun x=>?_
    · rw [(zKj _ _).2];exact I.defers
    · by_cases hx : ∃ i,i<n∧zR l i=some x
      · obtain ⟨i,hi,MK⟩:=hx;obtain ⟨⟨d,h1,h2⟩,_⟩:=hg i hi;rw [MK] at h1;obtain rfl:=osi h1;rw [h2];symm;refine zKh _ a x _ (hd i x hi MK) ?_ (List.mem_iff_getElem?.2 ⟨i,by rw [hz i hi,MK]⟩)
        rw [List.pairwise_iff_getElem];intro p q hp hq Qo d' e1 e2;have n1:=hz p (hlt (lge hp));have n2:=hz q (hlt (lge hq));rw [lge hp] at n1;rw [lge hq] at n2;rw [osi n1] at e1;rw [osi n2] at e2;exact B.dist p q d' (hlt (lge hp)) (hlt (lge hq)) (by omega) e1 e2
      · rw [zKi _ _ x (fun p hp e=>by
         obtain ⟨i,hi⟩:=List.mem_iff_getElem?.1 hp;have hin:=hlt hi;rw [hz i hin] at hi;have:=osi hi;subst this;exact hx ⟨i,hin,e⟩)]
        exact I.old x fun i hi _ e=>hx ⟨i,hi,e⟩
   have RD:=h ((List.range n).map g) w' Od I.below (fun i v hi=>by
    have hin:i<n:=by have:=(List.getElem?_eq_some_iff.1 hi).1;simpa using this
    have:v=g i:=by simpa [hin] using hi.symm
    rw [this];exact (hg i hin).2)
   rw [←Mc] at RD;have:=wpAny_of_seq (P:=P) (md:=.any) (ops:=l.toArray) (Q':=Q) (l.drop n) n (Array.replicate n true++Array.replicate (l.length - n) false) a' w' (fun j=>by simp [List.getElem?_drop]) (by simpa using Rh) RD
   simpa using this
theorem zAL {id:Nat} {Q:Exit→Act→World→Prop} (n:Nat) (R:Nat→Value→World→Prop) (hm:P.follows .mixedOrders=true) (hB:zGH l n=true) (m:Nat) (MI:zEY l m=true) (Jf:a.tmps.size=m)
 (hf : ∀ i,i<n→zAO (R i))
 (QL : ∀ i o,i<n→l[i]? = some o → ∀ (ρ:Operand→Value) w,Below W.heap.size W w→(∀ v,ρ (.const v)=v)→(∀ g,ρ (.global g) = .pointer (some ⟨g,0,none⟩))→(∀ f,ρ (.func f) = .func (.func f) #[] #[]) →
  (∀ d,.tmp d∈o.op.operands→zAS l n R a d (ρ (.tmp d)) w)→zLT P w (R i) ((execOp ρ o).run P w))
 (h : ∀ (vs:List Value) w',vs.length=n→Below W.heap.size W w'→(∀ i v,vs[i]? = some v→R i v w')→wpList P l.toArray Q (l.drop n) (zKg (((l.take n).map (·.dst)).zip vs) a) w'):(Code.region id l.toArray true).wp P Q a W :=
 wp_region_any hm (zBH n R hB m MI Jf hf QL h)
end
end
end Go.Proofs.YtfcbajmjaifjlaaGreat