/- M42, M43, M44: joined by program. -/
import Derived.Test.YtfcbajmjaifjlaaGreatM13
import Derived.Sort.CutIn
set_option maxHeartbeats 8000000
set_option maxRecDepth 100000
set_option linter.all false
attribute [local simp] Go.Op.operands Go.Call.operands
namespace Go.Proofs.YtfcbajmjaifjlaaGreat
section
open Go.RowKit Go.Sort Go.Maps
open Oct
attribute [local go_sem] Oper.semAt_some
def zGB (b:Box) (cs:List Int) (x:Pt × Nat × Tr):Bool :=
 match x.2.2 with
 | .uni d => !zS (zn (cb x.1 (x.2.1+2)) b) && cs.any (d == ·)
 | .brick l => !zS (zn (cb x.1 (x.2.1+2)) b) && (cellsOf (zn (cb x.1 (x.2.1+2)) b) (zE (cb x.1 (x.2.1+2)) l)).any fun y=>cs.any (y == ·)
 | .node _ _=>false
def SlcR (B:Nat) (ys:List Int) (v:Value) (w:World):Prop := ∃ va vc,v = .slice va ys.length vc∧Own w B 3 .i64 (.slice va ys.length vc) ys
theorem SlcR.firm {B:Nat} {ys:List Int} {v:Value} {w w':World} (h:SlcR B ys v w) (hb:Below w.heap.size w w'):SlcR B ys v w':=by
 obtain ⟨va,vc,e,ho⟩:=h;exact ⟨va,vc,e,ho.below hb⟩
def GrdR (B:Nat) (c0 c1 c2 c3 c4 c5:Int) (ys:List Int) (v:Value) (w:World):Prop := ∃ va vc,v = .agg #[c0,c1,c2,c3,c4,c5,.slice va ys.length vc]∧Own w B 3 .i64 (.slice va ys.length vc) ys
theorem GrdR.firm {B:Nat} {c0 c1 c2 c3 c4 c5:Int} {ys:List Int} {v:Value} {w w':World} (h:GrdR B c0 c1 c2 c3 c4 c5 ys v w) (hb:Below w.heap.size w w'):GrdR B c0 c1 c2 c3 c4 c5 ys v w':=by
 obtain ⟨va,vc,e,ho⟩:=h;exact ⟨va,vc,e,ho.below hb⟩
theorem Bk.put7' {w:World} {g:Nat} {x0 x1 x2 x3 x4 x5 x6:Value} {t:TypeId} (h:Bk w g #[x0,x1,x2,x3,x4,x5,x6] t) (a b c d e f i:Value) :
 Bk (((((((w.setCell ⟨g,0,none⟩ a).setCell ⟨g,1,none⟩ b).setCell ⟨g,2,none⟩ c).setCell ⟨g,3,none⟩ d).setCell ⟨g,4,none⟩ e).setCell ⟨g,5,none⟩ f).setCell ⟨g,6,none⟩ i) g #[a,b,c,d,e,f,i] t:=by
 simpa using ((((((h.set 0 a).set 1 b).set 2 c).set 3 d).set 4 e).set 5 f).set 6 i
theorem zNt {w w1 w2:World} {g:Nat} (hb:Below w.heap.size w w1) (hg:w1.grownBy w2 (some g)) (hge:w.heap.size≤g):Below w.heap.size w w2 :=
 hb.trans ⟨hg.os,hg.tape,hg.output,hg.size,fun k hk=>hg.block k (nll hk hb.size) (fun e=>by have:=osi e;omega)⟩
theorem zNR (UA:Int) (ts:List Tr) (hG:Good ts) (Od:ts.length≤4194304) (sb n:Nat) (hn:n≤12) (T:Tr) (hT:T∈ts) (IM:Dep n T) (b0 b1 b2 b3 b4 b5:Int) (ca:Option Addr) (cc:Nat) (cs:List Int) (LZ:cs.length≤1000000000) (w:World) (Rn:Sl w .i64 ca cs) (Far:Nat→Prop) (hS:StoreIs w Far sb UA ts) :
 Calls Tryz.prog 21 #[.pointer (some ⟨sb,0,none⟩),(idT ts T:Int),((n:Int)+2:Int),.agg #[b0,b1,b2,b3,b4,b5],.slice ca cs.length cc] w fun e w'=>e = .returned (.bool ((zl n ⟨0,0,0⟩ T).any (zGB ⟨⟨b0,b1,b2⟩,⟨b3,b4,b5⟩⟩ cs)))∧Below w.heap.size w w':=by
 refine (callsIn_wide (n:=5)).1 ?_;refine callsIn_of_wp_marks Tryz.func21 rfl trivial ?_ rfl;generalize Le:cs.length=cn at *;simp only [Tryz.ntmps21,List.size_toArray,List.length_cons,List.length_nil,Nat.reduceAdd,Nat.reduceSub,Array.replicate_succ,Array.replicate_zero,List.push_toArray,List.append_toArray,List.nil_append,List.cons_append]
 gi_wp2_with ((try refine ⟨trivial,?_⟩);gi_at_call 25;refine (callsIn_wide.2 (zNS _ _ _ _)).mono ?_;rintro _ _ ⟨rfl,rfl⟩)
 generalize hW0:World.alloc (World.alloc (World.alloc (World.alloc (World.alloc (World.alloc _ _) _) _) _) _) _=W0;have I0:Below w.heap.size w W0:=by rw [←hW0];exact (((((bf.alloc (by simp) _).alloc (by simp;omega) _).alloc (by simp;omega) _).alloc (by simp;omega) _).alloc (by simp;omega) _).alloc (by simp;omega) _
 have S9:W0.heap.size=w.heap.size+7:=by rw [←hW0];simp
 have ks:Bk W0 w.heap.size #[.pointer (some ⟨sb,0,none⟩)] 32:=by rw [←hW0];exact zD (zD (zD (zD (zD (zD (zC _ _ _ (by simp)))))))
 have kb:Bk W0 (w.heap.size+1) #[b0,b1,b2,b3,b4,b5] 25:=by rw [←hW0];exact zD (zD (zD (zD (zD (zC _ _ _ (by simp))))))
 have kc:Bk W0 (w.heap.size+1+1) #[.slice ca cn cc] 26:=by rw [←hW0];exact zD (zD (zD (zD (zC _ _ _ (by simp)))))
 have kn:Bk W0 (w.heap.size+1+1+1) #[.bool false] 4:=by rw [←hW0];exact zD (zD (zD (zC _ _ _ (by simp))))
 have U6:Bk W0 (w.heap.size+1+1+1+1) #[.pointer (some ⟨sb,0,none⟩)] 32:=bk2 hW0;have ki:Bk W0 (w.heap.size+1+1+1+1+1) #[(idT ts T:Int)] 3:=bk1 hW0;have kd:Bk W0 (w.heap.size+1+1+1+1+1+1) #[((n:Int)+2:Int)] 3:=bk0 hW0;clear hW0;have J2:StoreIs W0 (fun k=>k=w.heap.size+1+1+1∨W0.heap.size≤k) sb UA ts:=(((hS.less (Far:=fun _=>False) (fun k h=>h.elim)).widen (Far':=fun k=>w.heap.size≤k) (fun k hk=>.inr hk)).la I0).less (fun k hk=>by rcases hk with rfl | hk <;> omega)
 have Oo:=zHa ts hG n n ⟨0,0,0⟩ T (InT.top n) IM hT;have Rh:=zHo (fun k=>k=w.heap.size+1+1+1) W0.heap.size (w.heap.size+1+1+1+1) (w.heap.size+1+1+1+1+1+1) (w.heap.size+1+1+1+1+1) sb n hn UA ts hG Od T hT IM (5 - 1) W0 U6 kd ki J2 (by omega) (by omega) nlr
 have IJ:=Bx.mk fun t ht W (h:StoreIs W (fun k=>k=w.heap.size+1+1+1∨W0.heap.size≤k) sb UA ts)=>zCc W _ sb UA ts t ht hG (by omega) h
 have ND:=Bx.mk hG.bytes;clear hT IM Od hG hS U6 kd ki;have Ct:=Bx.mk hn;have Bq:=Bx.mk J2;have D6:=Bx.mk Oo;have A2:=Bx.mk I0;have Bv:=Bx.mk Rn;have AS:=Bx.mk LZ;have AU:=Bx.mk Le;clear hn J2 Oo I0 Rn LZ Le
 refine wpIn_rangeFunc_ownH rfl (by decide) (gf:=83) (lb:=#[.pointer (some ⟨w.heap.size+1+1+1+1,0,none⟩),.pointer (some ⟨w.heap.size+1+1+1+1+1+1,0,none⟩),.pointer (some ⟨w.heap.size+1+1+1+1+1,0,none⟩)]) rfl trivial (enters_of Tryz.func83 (by kernel_rfl) rfl)
  Rh KpE.trans (fun W l o o' hl h hc _=>KpE.putObj W l o o' hl h hc) br (fun _=>rfl)
  (fun (pre:List { x // x∈zl n ⟨0,0,0⟩ T }) W=>(Bk W (w.heap.size+1+1+1) #[.bool false] 4∧KpE (fun k=>k=w.heap.size+1+1+1) W0.heap.size W0 W)∧(pre.map (·.1)).any (zGB ⟨⟨b0,b1,b2⟩,⟨b3,b4,b5⟩⟩ cs)=false)
  (fun c (pre:List { x // x∈zl n ⟨0,0,0⟩ T }) W=>(Bk W (w.heap.size+1+1+1) #[.bool true] 4∧KpE (fun k=>k=w.heap.size+1+1+1) W0.heap.size W0 W)∧(c = .ret∧(pre.map (·.1)).any (zGB ⟨⟨b0,b1,b2⟩,⟨b3,b4,b5⟩⟩ cs)=true))
  (OwnFrom.and (OwnFrom.and (zJZ _ (fun (_:List { x // x∈zl n ⟨0,0,0⟩ T })=>#[.bool false]) _) zJa) (ownFrom_pure _ _))
  (fun c=>OwnFrom.and (OwnFrom.and (zJZ _ (fun (_:List { x // x∈zl n ⟨0,0,0⟩ T })=>#[.bool true]) _) zJa) (ownFrom_pure _ _))
  ⟨⟨kn,KpE.refl _ _ _⟩,rfl⟩
  (fun x a' W => ∃ xb,W0.heap.size≤xb∧Bk W xb #[.int .i64 x.1.1.x,.int .i64 x.1.1.y,.int .i64 x.1.1.z,.int .i64 ((x.1.2.1:Int)+2)] 39∧a'={ tmps:=#[.pointer (some ⟨sb,0,none⟩),.int .i64 (idT ts T:Int),.int .i64 ((n:Int)+2),.agg #[.int .i64 b0,.int .i64 b1,.int .i64 b2,.int .i64 b3,.int .i64 b4,.int .i64 b5],.slice ca cn cc,.pointer (some ⟨w.heap.size,0,none⟩),undef,undef,.pointer (some ⟨w.heap.size+1,0,none⟩),.pointer (some ⟨w.heap.size+1+1,0,none⟩),.pointer (some ⟨w.heap.size+1+1+1,0,none⟩),.pointer (some ⟨xb,0,none⟩),.int .i64 (idT ts x.1.2.2:Int),undef,undef,.pointer (some ⟨sb,0,none⟩),.int .i64 (idT ts T:Int),.int .i64 ((n:Int)+2),.func (.func 83) #[] #[.pointer (some ⟨w.heap.size+1+1+1+1,0,none⟩),.pointer (some ⟨w.heap.size+1+1+1+1+1+1,0,none⟩),.pointer (some ⟨w.heap.size+1+1+1+1+1,0,none⟩)],zO x.1.1.x x.1.1.y x.1.1.z ((x.1.2.1:Int)+2),.int .i64 (idT ts x.1.2.2:Int),undef,undef,undef,undef,undef,undef,undef,undef,undef,undef,undef,undef,undef,undef,undef,undef,undef,undef,undef,undef,undef,undef,undef,undef,undef,undef],defers:=[] })
  (fun x a'=>fun _ X Y row hs hg hr=>by obtain ⟨xb,h1,h2,h3⟩:=hs;exact ⟨xb,h1,zJZ xb (fun (_:Unit)=>#[.int .i64 x.1.1.x,.int .i64 x.1.1.y,.int .i64 x.1.1.z,((x.1.2.1:Int)+2:Int)]) _ () X Y row h2 hg hr,h3⟩)
  ?assign ?body ?done ?stop
 case assign =>
  rintro l pre x W K ⟨⟨Tu,O5⟩,Px⟩ hK;have K8:Below W.heap.size W (W.alloc (.cells #[.int .i64 x.1.1.x,.int .i64 x.1.1.y,.int .i64 x.1.1.z,((x.1.2.1:Int)+2:Int)] 39)):=bf;have HK:=hK _ _ (zGz K8) (KpE.below K8) ⟨⟨Tu.la K8,O5.trans (KpE.below K8)⟩,Px⟩ ⟨W.heap.size,O5.size,zC _ _ _ (by simp),rfl⟩
  replace HK:=Bx.mk HK;clear hK
  gi_wp2
  exact HK.o
 case done =>
  rintro D ys W hD TG ⟨⟨Tu,O5⟩,Px⟩ hK;rw [TG] at Px;have Ij:=(KeepsOthers.setCell W ⟨w.heap.size+1+1+1,0,none⟩ (.bool false)).same D _ hK rfl;have OH:=Bx.mk (O5.trans (((Rnd.set (E:=fun k=>k=w.heap.size+1+1+1) (n₀:=W0.heap.size) W (w.heap.size+1+1+1) (.bool false) rfl).kp).trans (KpE.putObj (W.setCell ⟨w.heap.size+1+1+1,0,none⟩ (.bool false)) D _ (.deferred none) hD Ij rfl)));have c1:=Tu.cell 0 rfl;have f1:=Tu.frozen 0;have L9:=cell_kept ((Bk.put1 Tu (.bool false)).cell 0 rfl) (grownBy_putObj' _ D (.deferred none)) (fun r e=>by cases e;exact ⟨_,Ij,rfl⟩)
  have AP:=Bx.mk L9;have BP:=Bx.mk Px;clear Px L9
  gi_wp2
  refine ⟨by simp,.inl ⟨_,_,rfl,run_takeDeferred Ij,?_⟩⟩
  have L9:=AP.o;refine ⟨.bool false,?_,by rw [BP.o],?_⟩
  · simp [results,Tryz.f21,go_sem,L9]
  · exact A2.o.trans ⟨OH.o.os,OH.o.tape,OH.o.output,OH.o.size,fun k hk=>by
     have hlt:k<W0.heap.size:=by omega
     have e:W0.heap[k]? = some W0.heap[k]:=Array.getElem?_eq_getElem hlt;rw [e];exact OH.o.blk k _ e (show ¬(k=w.heap.size+1+1+1) by omega) (.inl hlt)⟩
 case stop =>
  rintro D cc' pre W hD Ry ⟨⟨Tu,O5⟩,rfl,TM⟩ hK;have OH:=Bx.mk (O5.trans (KpE.putObj W D _ (.deferred none) hD hK rfl));have L9:=cell_kept (Tu.cell 0 rfl) (grownBy_putObj' _ D (.deferred none)) (fun r e=>by cases e;exact ⟨_,hK,rfl⟩)
  have AP:=Bx.mk L9
  have BP:Bx ((zl n ⟨0,0,0⟩ T).any (zGB ⟨⟨b0,b1,b2⟩,⟨b3,b4,b5⟩⟩ cs)=true):=⟨by
   obtain ⟨x,hx,TB⟩:=List.any_eq_true.1 TM;exact List.any_eq_true.2 ⟨x,Ry.subset hx,TB⟩⟩
  clear TM L9
  gi_wp2
  refine ⟨by simp,.inl ⟨_,_,rfl,run_takeDeferred hK,?_⟩⟩
  have L9:=AP.o;refine ⟨.bool true,?_,by rw [BP.o],?_⟩
  · simp [results,Tryz.f21,go_sem,L9]
  · exact A2.o.trans ⟨OH.o.os,OH.o.tape,OH.o.output,OH.o.size,fun k hk=>by
     have hlt:k<W0.heap.size:=by omega
     have e:W0.heap[k]? = some W0.heap[k]:=Array.getElem?_eq_getElem hlt;rw [e];exact OH.o.blk k _ e (show ¬(k=w.heap.size+1+1+1) by omega) (.inl hlt)⟩
 case body =>
  rintro l pre ⟨⟨a,lv,t⟩,hx⟩ a' W hl hr ⟨⟨Tu,O5⟩,Px⟩ ⟨xb,TC,kx,rfl⟩ hlt;obtain ⟨ht,hin,SF⟩:=D6.o _ hx;simp only [] at ht hin SF kx ⊢;have OY:=hin.le;have Pa:=Ct.o;obtain ⟨x1,x2,x3⟩:=hin.far Pa;have AE:=Bx.mk (hin.bd Pa);have By:=Bx.mk (O5.store Bq.o);have Kp:=ND.o t ht;have KS:=Bx.mk (O5.bk ks (show ¬(w.heap.size=w.heap.size+1+1+1) by omega))
  have Dx:=Bx.mk (O5.bk kb (show ¬(w.heap.size+1=w.heap.size+1+1+1) by omega))
  have E2:=Bx.mk (O5.bk kc (show ¬(w.heap.size+1+1=w.heap.size+1+1+1) by omega))
  have B1:=Bx.mk O5;have KX:=Bx.mk kx
  have AG:Bx (Below w.heap.size w W):=⟨A2.o.trans ⟨O5.os,O5.tape,O5.output,O5.size,fun k hk=>by
   have hlt:k<W0.heap.size:=by omega
   have e:W0.heap[k]? = some W0.heap[k]:=Array.getElem?_eq_getElem hlt;rw [e];exact O5.blk k _ e (show ¬(k=w.heap.size+1+1+1) by omega) (.inl hlt)⟩⟩
  have B5:=Bx.mk Tu;have CR:Bx (∀ v:Bool,zGB ⟨⟨b0,b1,b2⟩,⟨b3,b4,b5⟩⟩ cs (a,lv,t)=v→((pre++[(⟨(a,lv,t),hx⟩:{ x // x∈zl n ⟨0,0,0⟩ T })]).map (·.1)).any (zGB ⟨⟨b0,b1,b2⟩,⟨b3,b4,b5⟩⟩ cs)=v):=⟨fun v hv=>by rw [List.map_append,List.any_append,Px];simp [hv]⟩
  generalize hP:pre++[(⟨(a,lv,t),hx⟩:{ x // x∈zl n ⟨0,0,0⟩ T })]=P at *;have AY:=Bx.mk fun W' (hb:Below W.heap.size W W')=>IJ.o t ht W' (By.o.la hb);have Ki:=Bx.mk fun W'=>zBo (lv+2) (by omega) a.x a.y a.z _ rfl x1 x2 x3 W'
  have Kj:((lv+2:Nat):Int)=(lv:Int)+2:=by omega
  rw [Kj] at Ki;have Iv:Bx (zn ⟨⟨a.x,a.y,a.z⟩,⟨a.x+2 ^ (lv+2),a.y+2 ^ (lv+2),a.z+2 ^ (lv+2)⟩⟩ ⟨⟨b0,b1,b2⟩,⟨b3,b4,b5⟩⟩=zn (cb a (lv+2)) ⟨⟨b0,b1,b2⟩,⟨b3,b4,b5⟩⟩):=⟨rfl⟩;have Nx:=Bx.mk fun W'=>zIN a.x a.y a.z (a.x+2 ^ (lv+2)) (a.y+2 ^ (lv+2)) (a.z+2 ^ (lv+2)) b0 b1 b2 b3 b4 b5 W';rw [Iv.o] at Nx;generalize hM:zn (cb a (lv+2)) ⟨⟨b0,b1,b2⟩,⟨b3,b4,b5⟩⟩=M at *;obtain ⟨⟨m0,m1,m2⟩,⟨m3,m4,m5⟩⟩:=M;have BK:=Bx.mk hM;simp only [] at Nx;generalize Qv:(2:Int) ^ (lv+2)=pw at *;have Bc:=Bx.mk Qv;have MW:=Bx.mk fun W'=>zU m0 m1 m2 m3 m4 m5 W';generalize QO:zJV t=ys at *;have BW:=Bx.mk QO;clear IJ hP hx ht Px hM Qv Kj Iv QO Tu O5 kx hin
  gi_upto_region 4 with fail
  refine zOV l _ 5 (fun i v w'=>match i with
   | 0=>v=zO a.x a.y a.z ((lv:Int)+2)
   | 1=>v = .agg #[a.x,a.y,a.z,(a.x+pw:Int),(a.y+pw:Int),(a.z+pw:Int)]
   | 2=>v = .agg #[b0,b1,b2,b3,b4,b5]
   | 3=>v = .agg #[m0,m1,m2,m3,m4,m5]
   | _ => ∃ g,v = .pointer (some ⟨g,0,none⟩)∧W.heap.size≤g∧Bk w' g #[(0:Int),(0:Int),(0:Int),(0:Int),(0:Int),(0:Int)] 25) (by kernel_rfl) (by kernel_rfl) (by kernel_rfl) (by rintro ⟨_,_,h⟩;exact h) 47 (by kernel_rfl) (by rfl) ?_ ?_ ?_
  · intro i hi v u1 u2 hb h
    match i,hi with
    | 0,_=>exact h
    | 1,_=>exact h
    | 2,_=>exact h
    | 3,_=>exact h
    | 4,_=>obtain ⟨g2,h1,h2,h3⟩:=h;exact ⟨g2,h1,h2,h3.la hb⟩
  · intro i o hi ho ρ w1 hb L3 L5 L6 hk
    match i,hi with
    | 0, _ =>
      obtain rfl:=osi ho;have g0:ρ (.tmp 11) = .pointer (some ⟨xb,0,none⟩):=hk 11 (by simp)
      have k1:=KX.o.la hb;obtain ⟨z0,z1,z2,z3⟩:=k1.c4;clear hk hb Ki Nx MW AY KS Dx E2 KX B5 B1 By CR Bq;go_simp;exact br
    | 1, _ =>
      obtain rfl:=osi ho;have g0:ρ (.tmp 21)=zO a.x a.y a.z ((lv:Int)+2):=hk 21 (by simp)
      have h4:=Ki.o w1;have H4:=Bx.mk h4;clear h4;clear hk hb Ki Nx MW AY KS Dx E2 KX B5 B1 By CR Bq;go_simp
      all_goals exact H4.o
    | 2, _ =>
      obtain rfl:=osi ho;have g0:ρ (.tmp 8) = .pointer (some ⟨w.heap.size+1,0,none⟩):=hk 8 (by simp)
      have k1:=Dx.o.la hb;obtain ⟨z0,z1,z2,z3,z4,z5⟩:=k1.c6;clear hk hb Ki Nx MW AY KS Dx E2 KX B5 B1 By CR Bq;go_simp;exact br
    | 3, _ =>
      obtain rfl:=osi ho;have g0:ρ (.tmp 22) = .agg #[a.x,a.y,a.z,(a.x+pw:Int),(a.y+pw:Int),(a.z+pw:Int)]:=hk 22 (by simp)
      have g1:ρ (.tmp 23) = .agg #[b0,b1,b2,b3,b4,b5]:=hk 23 (by simp)
      have h4:=Nx.o w1;have H4:=Bx.mk h4;clear h4;clear hk hb Ki Nx MW AY KS Dx E2 KX B5 B1 By CR Bq;go_simp
      all_goals exact H4.o
    | 4, _ =>
      obtain rfl:=osi ho;have Ko:=hb.size;have Hn:=Bx.mk (show Bk (w1.alloc (.cells #[(0:Int),(0:Int),(0:Int),(0:Int),(0:Int),(0:Int)] 25)) w1.heap.size #[(0:Int),(0:Int),(0:Int),(0:Int),(0:Int),(0:Int)] 25 from Bk.new _ _ _);clear hk hb Ki Nx MW AY KS Dx E2 KX B5 B1 By CR Bq;go_simp;exact ⟨bf,Hn.o⟩
  · intro vs W1 Od hb hR
    match vs,Od with
    | [v0, v1, v2, v3, v4], _ =>
      have r0:v0=zO a.x a.y a.z ((lv:Int)+2):=hR 0 v0 rfl;have r1:v1 = .agg #[a.x,a.y,a.z,(a.x+pw:Int),(a.y+pw:Int),(a.z+pw:Int)]:=hR 1 v1 rfl;have r2:v2 = .agg #[b0,b1,b2,b3,b4,b5]:=hR 2 v2 rfl;have r3:v3 = .agg #[m0,m1,m2,m3,m4,m5]:=hR 3 v3 rfl;obtain ⟨g,r4,N3,kg⟩:=hR 4 v4 rfl;clear hR;subst r0 r1 r2 r3 r4;have HB:=Bx.mk hb;have KG:=Bx.mk kg;obtain ⟨c0,c1,c2,c3,c4,c5⟩:=kg.c6;obtain ⟨f0,f1,f2,f3,f4,f5⟩:=kg.f6;clear hb kg;simp only [zKg,List.take_succ_cons,List.take_zero,List.drop_succ_cons,List.drop_zero,List.map_cons,List.map_nil,List.zip_cons_cons,List.zip_nil_right,List.foldl_cons,List.foldl_nil];go_wp2_with fail;generalize hW2:World.setCell (World.setCell (World.setCell (World.setCell (World.setCell (World.setCell W1 _ _) _ _) _ _) _ _) _ _) _ _=W2
      have Js:Below W.heap.size W W2:=by
       rw [←hW2];exact zNt HB.o (zW (zW (zW (zW (zW (zW (World.grownBy.refl _ _) _ _) _ _) _ _) _ _) _ _) _ _) N3
      have Tl:Bk W2 g #[m0,m1,m2,m3,m4,m5] 25:=by rw [←hW2];exact KG.o.put6 _ _ _ _ _ _
      have A4:=Bx.mk Js;have E5:=Bx.mk Tl;obtain ⟨z0,z1,z2,z3,z4,z5⟩:=Tl.c6;clear hW2 Js Tl c0 c1 c2 c3 c4 c5 f0 f1 f2 f3 f4 f5 HB KG;cases hE:zS ⟨⟨m0,m1,m2⟩,⟨m3,m4,m5⟩⟩ with
      | true =>
        rw [hE] at MW
        have hW:Bx (zGB ⟨⟨b0,b1,b2⟩,⟨b3,b4,b5⟩⟩ cs (a,lv,t)=false):=⟨by
         rcases SF with ⟨d,rfl⟩ | ⟨rfl,l',rfl⟩
         · unfold zGB;simp only [];rw [BK.o,hE];rfl
         · unfold zGB;simp only [];rw [BK.o,hE];rfl⟩
        clear hE SF
        gi_wp2_with ((try refine ⟨trivial,?_⟩);gi_at_call 74;refine (CallsIn.inRound l (callsIn_wide.2 (MW.o _))).mono ?_;rintro _ W3 ⟨rfl,Jv⟩)
        have J0:Rnd (fun k=>k=w.heap.size+1+1+1) W0.heap.size W W3:=(Rnd.below A4.o).trans (Rnd.below Jv);exact ⟨J0.kf,J0.kp,⟨(B5.o.la A4.o).la Jv,B1.o.trans J0.kp⟩,CR.o _ hW.o⟩
      | false =>
        rw [hE] at MW
        gi_upto_region 6 with ((try refine ⟨trivial,?_⟩);gi_at_call 74;refine (CallsIn.inRound l (callsIn_wide.2 (MW.o _))).mono ?_;rintro _ W3 ⟨rfl,Jv⟩)
        have Jt:=tr A4.o Jv;have EV:=Bx.mk (KX.o.la Jt);have EJ:=Bx.mk (KS.o.la Jt);have Dy:=Bx.mk (Dx.o.la Jt);have E3:=Bx.mk (E2.o.la Jt);have E6:=Bx.mk (E5.o.la Jv);have A6:=Bx.mk Jt;have II:=Bx.mk fun W' (hb:Below W3.heap.size W3 W')=>AY.o W' (tr Jt hb);have HE:=Bx.mk hE;have Gw:=Jt.size;generalize hiX:(idT ts t:Int)=iX at *;clear Jv Jt z0 z1 z2 z3 z4 z5 AY KX KS Dx E5 hE hiX
        refine zOV l _ 7 (fun i v w'=>match i with
         | 0=>v=zO a.x a.y a.z ((lv:Int)+2)
         | 1=>v = .agg #[a.x,a.y,a.z,(a.x+pw:Int),(a.y+pw:Int),(a.z+pw:Int)]
         | 2=>v = .pointer (some ⟨sb,0,none⟩)
         | 3=>v = .int .i64 iX
         | 4=>SlcR W3.heap.size ys v w'
         | 5=>GrdR W3.heap.size (a.x) (a.y) (a.z) (a.x+pw) (a.y+pw) (a.z+pw) ys v w'
         | _ => ∃ g,v = .pointer (some ⟨g,0,none⟩)∧W3.heap.size≤g∧Bk w' g #[(0:Int),(0:Int),(0:Int),(0:Int),(0:Int),(0:Int),.slice none 0 0] 28) (by kernel_rfl) (by kernel_rfl) (by kernel_rfl) (by rintro ⟨_,_,h⟩;exact h) 47 (by kernel_rfl) (by rfl) ?_ ?_ ?_
        · intro i hi v u1 u2 hb h
          match i,hi with
          | 0,_=>exact h
          | 1,_=>exact h
          | 2,_=>exact h
          | 3,_=>exact h
          | 4,_=>exact h.firm hb
          | 5,_=>exact h.firm hb
          | 6,_=>obtain ⟨g2,h1,h2,h3⟩:=h;exact ⟨g2,h1,h2,h3.la hb⟩
        · intro i o hi ho ρ w1 hb L3 L5 L6 hk
          match i,hi with
          | 0, _ =>
            obtain rfl:=osi ho;have g0:ρ (.tmp 11) = .pointer (some ⟨xb,0,none⟩):=hk 11 (by simp)
            have k1:=EV.o.la hb;obtain ⟨z0,z1,z2,z3⟩:=k1.c4;clear hk hb Ki Nx MW II EJ Dy E3 EV B5 B1 By CR Bq E6 A4 E2;go_simp;exact br
          | 1, _ =>
            obtain rfl:=osi ho;have g0:ρ (.tmp 27)=zO a.x a.y a.z ((lv:Int)+2):=hk 27 (by simp)
            have h4:=Ki.o w1;have H4:=Bx.mk h4;clear h4;clear hk hb Ki Nx MW II EJ Dy E3 EV B5 B1 By CR Bq E6 A4 E2;go_simp
            all_goals exact H4.o
          | 2, _ =>
            obtain rfl:=osi ho;have g0:ρ (.tmp 5) = .pointer (some ⟨w.heap.size,0,none⟩):=hk 5 (by simp)
            have k1:=EJ.o.la hb;have z0:=k1.cell 0 rfl;clear hk hb Ki Nx MW II EJ Dy E3 EV B5 B1 By CR Bq E6 A4 E2;go_simp;exact br
          | 3, _ =>
            obtain rfl:=osi ho;have g0:ρ (.tmp 12) = .int .i64 iX:=hk 12 (by simp)
            clear hk hb Ki Nx MW II EJ Dy E3 EV B5 B1 By CR Bq E6 A4 E2;go_simp;exact br
          | 4, _ =>
            obtain rfl:=osi ho;have g0:ρ (.tmp 29) = .pointer (some ⟨sb,0,none⟩):=hk 29 (by simp)
            have g1:ρ (.tmp 30) = .int .i64 iX:=hk 30 (by simp)
            have h4:=II.o w1 hb;have H4:=Bx.mk h4;clear h4;have Jy:=hb.size;clear hk hb Ki Nx MW II EJ Dy E3 EV B5 B1 By CR Bq E6 A4 E2;go_simp
            all_goals (refine H4.o.mono ?_;rintro e w9 ⟨v9,rfl,ho,K7⟩;obtain ⟨va,vc,rfl⟩:=zy ho;exact ⟨_,rfl,K7,va,vc,rfl,ho.base Jy⟩)
          | 5, _ =>
            obtain rfl:=osi ho;have g0:ρ (.tmp 28) = .agg #[a.x,a.y,a.z,(a.x+pw:Int),(a.y+pw:Int),(a.z+pw:Int)]:=hk 28 (by simp)
            have k31:SlcR W3.heap.size ys (ρ (.tmp 31)) w1:=hk 31 (by simp)
            obtain ⟨va,vc,g31,ho⟩:=k31;have HO:=Bx.mk ho;clear ho;clear hk hb Ki Nx MW II EJ Dy E3 EV B5 B1 By CR Bq E6 A4 E2;go_simp;exact ⟨br,va,vc,rfl,HO.o⟩
          | 6, _ =>
            obtain rfl:=osi ho;have Ko:=hb.size;have Hn:=Bx.mk (show Bk (w1.alloc (.cells #[(0:Int),(0:Int),(0:Int),(0:Int),(0:Int),(0:Int),.slice none 0 0] 28)) w1.heap.size #[(0:Int),(0:Int),(0:Int),(0:Int),(0:Int),(0:Int),.slice none 0 0] 28 from Bk.new _ _ _);clear hk hb Ki Nx MW II EJ Dy E3 EV B5 B1 By CR Bq E6 A4 E2;go_simp;exact ⟨bf,Hn.o⟩
        · intro vs W4 Od hb hR
          match vs,Od with
          | [v0, v1, v2, v3, v4, v5, v6], _ =>
            have r0:v0=zO a.x a.y a.z ((lv:Int)+2):=hR 0 v0 rfl;have r1:v1 = .agg #[a.x,a.y,a.z,(a.x+pw:Int),(a.y+pw:Int),(a.z+pw:Int)]:=hR 1 v1 rfl;have r2:v2 = .pointer (some ⟨sb,0,none⟩):=hR 2 v2 rfl;have r3:v3 = .int .i64 iX:=hR 3 v3 rfl;obtain ⟨va,vc,r5,ho⟩:=hR 5 v5 rfl;obtain ⟨g',r6,N9,kg⟩:=hR 6 v6 rfl;clear hR;subst r0 r1 r2 r3 r5 r6;have HB:=Bx.mk hb;have KG:=Bx.mk kg;have HO:=Bx.mk ho;obtain ⟨c0,c1,c2,c3,c4,c5,c6⟩:=kg.c7;obtain ⟨f0,f1,f2,f3,f4,f5,f6⟩:=kg.f7;clear hb kg ho;simp only [zKg,List.take_succ_cons,List.take_zero,List.drop_succ_cons,List.drop_zero,List.map_cons,List.map_nil,List.zip_cons_cons,List.zip_nil_right,List.foldl_cons,List.foldl_nil];go_wp2_with fail;generalize hW5:World.setCell (World.setCell (World.setCell (World.setCell (World.setCell (World.setCell (World.setCell W4 _ _) _ _) _ _) _ _) _ _) _ _) _ _=W5;have NQ:W4.grownBy W5 (some g'):=by rw [←hW5];exact (zW (zW (zW (zW (zW (zW (zW (World.grownBy.refl _ _) _ _) _ _) _ _) _ _) _ _) _ _) _ _)
            have Tm:Bk W5 g' #[a.x,a.y,a.z,(a.x+pw:Int),(a.y+pw:Int),(a.z+pw:Int),.slice va ys.length vc] 28:=by rw [←hW5];exact KG.o.put7' _ _ _ _ _ _ _
            have Jw:Below W3.heap.size W3 W5:=zNt HB.o NQ N9;have Q8:=HO.o.grown NQ (.inr (zJd HO.o KG.o (by decide)))
            have K3:=A6.o.trans (Jw.mono Gw);have A8:=Bx.mk K3;have BN:=Bx.mk (B5.o.la K3);have Bi:Bx (Rnd (fun k=>k=w.heap.size+1+1+1) W0.heap.size W W5):=⟨Rnd.below K3⟩;have E7:=Bx.mk Tm;have KM5:=Bx.mk (E6.o.la Jw);have KC5:=Bx.mk (E3.o.la Jw);have BS:=Bx.mk Q8;have y6:=Tm.cell 6 rfl;have n5:=BN.o.cell 0 rfl;have nf5:=BN.o.frozen 0;have Lc:Bx (∀ (W':World),Below W5.heap.size W5 W' → ∀ x:Int,Calls Tryz.prog 77 #[x,.pointer (some ⟨w.heap.size+1+1,0,none⟩)] W' fun e w'=>e = .returned (.bool (cs.any (x == ·)))∧W'=w'):=⟨fun W' Jp x=>zF6 (w.heap.size+1+1) ca cc cs x W' (by have h1:=AS.o;have h2:=AU.o;omega) (Bv.o.below ((tr AG.o K3).trans (Jp.mono (Nat.le_trans AG.o.size K3.size)))) (by rw [AU.o];exact KC5.o.la Jp)⟩
            have A5:Bx (W.heap.size≤W3.heap.size):=⟨Gw⟩;have NA:=N9;have B6:=B5;clear hW5 NQ Tm Jw Q8 HB HO KG E6 E3 EV EJ Dy II A6 A4 c0 c1 c2 c3 c4 c5 c6 f0 f1 f2 f3 f4 f5 f6 N9 Gw MW Nx Ki B5;rcases SF with ⟨d,rfl⟩ | ⟨rfl,l',rfl⟩
            · have TJ:ys=[d]:=BW.o.symm;have t7:decide ((1:Int)<(ys.length:Int))=false:=by rw [TJ];rfl
              have AR:=Bx.mk (zDK (w.heap.size+1+1) (fun y=>cs.any (y == ·)) va vc ys W5 (by rw [TJ];simp) BS.o.sl (Lc.o W5 br))
              have CI:Bx (zGB ⟨⟨b0,b1,b2⟩,⟨b3,b4,b5⟩⟩ cs (a,lv,.uni d)=ys.any (fun y=>cs.any (y == ·))):=⟨by unfold zGB;simp only [];rw [BK.o,HE.o,TJ];simp⟩
              generalize TZ:ys=zs at *;clear TJ Lc Kp TZ;cases hans:zs.any (fun y=>cs.any (y == ·)) with
              | true =>
                rw [hans] at AR CI;clear hans
                gi_wp2_with ((try refine ⟨trivial,?_⟩);gi_at_call 76;refine (CallsIn.inRound l (callsIn_wide.2 AR.o)).mono ?_;rintro _ _ ⟨rfl,rfl⟩)
                exact ⟨(Bi.o.trans (Rnd.set _ _ _ rfl)).kf,⟨⟨Bk.put1 BN.o _,B1.o.trans (Bi.o.trans (Rnd.set _ _ _ rfl)).kp⟩,rfl,CR.o _ CI.o⟩⟩
              | false =>
                rw [hans] at AR CI;clear hans
                gi_wp2_with ((try refine ⟨trivial,?_⟩);gi_at_call 76;refine (CallsIn.inRound l (callsIn_wide.2 AR.o)).mono ?_;rintro _ _ ⟨rfl,rfl⟩)
                exact ⟨Bi.o.kf,Bi.o.kp,⟨BN.o,B1.o.trans Bi.o.kp⟩,CR.o _ CI.o⟩
            · have TJ:ys=l':=BW.o.symm;have TN:ys.length=64:=by rw [TJ];exact (Kp.bricks _ rfl).1
              have t7:decide ((1:Int)<(ys.length:Int))=true:=by rw [TN];rfl
              obtain ⟨KL,KM,KO⟩:=AE.o;have LR:=zDi (b:=⟨⟨b0,b1,b2⟩,⟨b3,b4,b5⟩⟩) KL KM KO (by rw [show cb a 2=cb a (0+2) from rfl,BK.o];exact HE.o)
              rw [show cb a 2=cb a (0+2) from rfl,BK.o] at LR;obtain ⟨Ph,SV,SW⟩:=LR;have Qw:pw=4:=by rw [←Bc.o];rfl
              have LJ:cb a (0+2)=⟨⟨a.x,a.y,a.z⟩,⟨a.x+pw,a.y+pw,a.z+pw⟩⟩:=by rw [←Bc.o];rfl
              have J9:Small ⟨⟨a.x,a.y,a.z⟩,⟨a.x+pw,a.y+pw,a.z+pw⟩⟩ 1048575:=⟨by simp only [];omega,by simp only [];omega,by simp only [];omega,by simp only [];omega,by simp only [];omega,by simp only [];omega⟩
              have SY:zAE ⟨⟨a.x,a.y,a.z⟩,⟨a.x+pw,a.y+pw,a.z+pw⟩⟩=64:=by
               unfold zAE;rw [zAA (zT.2 ⟨by simp only [];omega,by simp only [];omega,by simp only [];omega⟩)]
               simp only [Pt.sub];rw [show a.x+pw - a.x=4 by omega,show a.y+pw - a.y=4 by omega,show a.z+pw - a.z=4 by omega]
               rfl
              have AV:=Bx.mk (zDj m0 m1 m2 m3 m4 m5 a.x a.y a.z (a.x+pw) (a.y+pw) (a.z+pw) va vc (zAE ⟨⟨m0,m1,m2⟩,⟨m3,m4,m5⟩⟩).toNat ys Ph HE.o (by omega) J9 (by rw [TN,SY];rfl) (by omega) (zJb BS.o) W5 BS.o.sl)
              have CI:Bx (zGB ⟨⟨b0,b1,b2⟩,⟨b3,b4,b5⟩⟩ cs (a,0,.brick l')=(cellsOf ⟨⟨m0,m1,m2⟩,⟨m3,m4,m5⟩⟩ (zE ⟨⟨a.x,a.y,a.z⟩,⟨a.x+pw,a.y+pw,a.z+pw⟩⟩ ys)).any (fun y=>cs.any (y == ·))):=⟨by unfold zGB;simp only [];rw [BK.o,HE.o,TJ,LJ];rfl⟩
              have TY:(cellsOf ⟨⟨m0,m1,m2⟩,⟨m3,m4,m5⟩⟩ (zE ⟨⟨a.x,a.y,a.z⟩,⟨a.x+pw,a.y+pw,a.z+pw⟩⟩ ys)).length≤64:=by rw [zK];omega
              generalize TZ:cellsOf ⟨⟨m0,m1,m2⟩,⟨m3,m4,m5⟩⟩ (zE ⟨⟨a.x,a.y,a.z⟩,⟨a.x+pw,a.y+pw,a.z+pw⟩⟩ ys)=zs at *;obtain ⟨z0,z1,z2,z3,z4,z5⟩:=KM5.o.c6;obtain ⟨y0,y1,y2,y3,y4,y5⟩:=E7.o.c6;have CN:=Bx.mk TY;have hgW5:g'<W5.heap.size:=E7.o.lt;clear TZ TY Ph SV SW Qw LJ J9 SY TJ TN Kp KL KM KO
              gi_upto_region 9 with ((try refine ⟨trivial,?_⟩);gi_at_call 75;refine (CallsIn.inRound l (callsIn_wide.2 AV.o)).mono ?_;rintro _ W6 ⟨pa,pc,rfl,Q9,K4⟩;have Tn:=E7.o.la K4;have BT:=Bx.mk Q9;have A9:=Bx.mk K4;have E8:=Bx.mk Tn;have q0:=Tn.cell 0 rfl;have q1:=Tn.cell 1 rfl;have q2:=Tn.cell 2 rfl;have q3:=Tn.cell 3 rfl;have q4:=Tn.cell 4 rfl;have q5:=Tn.cell 5 rfl;have q6:=Tn.cell 6 rfl;have e0:=Tn.frozen 0;have e1:=Tn.frozen 1;have e2:=Tn.frozen 2;have e3:=Tn.frozen 3;have e4:=Tn.frozen 4;have e5:=Tn.frozen 5;have e6:=Tn.frozen 6;clear Tn Q9 K4)
              generalize hW7:World.setCell (World.setCell (World.setCell (World.setCell (World.setCell (World.setCell (World.setCell W6 _ _) _ _) _ _) _ _) _ _) _ _) _ _=W7;have NQ:W6.grownBy W7 (some g'):=by rw [←hW7];exact (zW (zW (zW (zW (zW (zW (zW (World.grownBy.refl _ _) _ _) _ _) _ _) _ _) _ _) _ _) _ _)
              have To:Bk W7 g' #[m0,m1,m2,m3,m4,m5,.slice pa zs.length pc] 28:=by rw [←hW7];exact E8.o.put7' _ _ _ _ _ _ _
              have QA:=BT.o.grown NQ (.inr (zJd BT.o E8.o (by decide)))
              have hg'W:W.heap.size≤g':=nlt A5.o NA;have K5:Below W.heap.size W W7:=(tr A8.o A9.o).trans ⟨NQ.os,NQ.tape,NQ.output,NQ.size,fun k hk=>NQ.block k (nll hk (nlt A8.o.size A9.o.size)) (fun e=>by have:=osi e;omega)⟩
              have BO:=Bx.mk (B6.o.la K5);have Bm:Bx (Rnd (fun k=>k=w.heap.size+1+1+1) W0.heap.size W W7):=⟨Rnd.below K5⟩;have AR:=Bx.mk (zDK (w.heap.size+1+1) (fun y=>cs.any (y == ·)) pa pc zs W7 (by have:=CN.o;omega) QA.sl (fun x=>zF6 (w.heap.size+1+1) ca cc cs x W7 (by have h1:=AS.o;have h2:=AU.o;omega) (Bv.o.below (tr AG.o K5)) (by rw [AU.o];exact E2.o.la K5)))
              have p6:=To.cell 6 rfl;have n7:=BO.o.cell 0 rfl;have nf7:=BO.o.frozen 0;clear hW7 NQ To QA K5 q0 q1 q2 q3 q4 q5 q6 e0 e1 e2 e3 e4 e5 e6 AV Lc n5 nf5 y0 y1 y2 y3 y4 y5 y6 z0 z1 z2 z3 z4 z5 t7;cases hans:zs.any (fun y=>cs.any (y == ·)) with
              | true =>
                rw [hans] at AR CI;clear hans
                gi_wp2_with ((try refine ⟨trivial,?_⟩);gi_at_call 76;refine (CallsIn.inRound l (callsIn_wide.2 AR.o)).mono ?_;rintro _ _ ⟨rfl,rfl⟩)
                exact ⟨(Bm.o.trans (Rnd.set _ _ _ rfl)).kf,⟨⟨Bk.put1 BO.o _,B1.o.trans (Bm.o.trans (Rnd.set _ _ _ rfl)).kp⟩,rfl,CR.o _ CI.o⟩⟩
              | false =>
                rw [hans] at AR CI;clear hans
                gi_wp2_with ((try refine ⟨trivial,?_⟩);gi_at_call 76;refine (CallsIn.inRound l (callsIn_wide.2 AR.o)).mono ?_;rintro _ _ ⟨rfl,rfl⟩)
                exact ⟨Bm.o.kf,Bm.o.kp,⟨BO.o,B1.o.trans Bm.o.kp⟩,CR.o _ CI.o⟩
end
section
open Go.RowKit Go.Sort Go.Maps
open Oct
theorem zBU (x y z:Int) (w:World) :
 Calls Tryz.prog 51 #[x,y,z] w fun e w'=>e = .returned (.agg #[x,y,z])∧Below w.heap.size w w':=by
 go_enter Tryz.func51,Tryz.ntmps51;go_wp2;exact bodyPost_ret (v:=.agg #[x,y,z]) (by simp [results,Tryz.results51,go_sem]) rfl ⟨rfl,bf⟩
theorem zHT (x y z x2 y2 z2:Int) (w:World) :
 Calls Tryz.prog 50 #[.agg #[x,y,z],.agg #[x2,y2,z2]] w fun e w'=>e = .returned (.agg #[x,y,z,x2,y2,z2])∧Below w.heap.size w w':=by
 go_enter Tryz.func50,Tryz.ntmps50;go_wp2_with fail;exact bodyPost_ret (v:=.agg #[x,y,z,x2,y2,z2]) (by simp [results,Tryz.results50,go_sem]) rfl ⟨rfl,(bf.alloc (by simp) _).alloc (by simp;omega) _⟩
def SlK (w:World) (a:Option Addr) (L:List (Pt × Nat)):Prop := ∀ (i:Nat) (c:Pt × Nat),L[i]? = some c → ∃ b off,a=some ⟨b,off,none⟩∧w.cell? ⟨b,off+i * 4,none⟩=some (.int .i64 c.1.x)∧w.cell? ⟨b,off+i * 4+1,none⟩=some (.int .i64 c.1.y)∧w.cell? ⟨b,off+i * 4+2,none⟩=some (.int .i64 c.1.z)∧w.cell? ⟨b,off+i * 4+3,none⟩=some (.int .i64 ((c.2:Int)+2))
theorem SlK.below {w w':World} {a:Option Addr} {L:List (Pt × Nat)} (h:SlK w a L) (hb:Below w.heap.size w w'):SlK w' a L:=by
 intro i c hc;obtain ⟨b,off,rfl,c0,c1,c2,c3⟩:=h i c hc;have hh:=hb.block b (World.block_lt_of_cell? w _ c0);exact ⟨b,off,rfl,(World.cell?_of_block hh).trans c0,(World.cell?_of_block hh).trans c1,(World.cell?_of_block hh).trans c2,(World.cell?_of_block hh).trans c3⟩
theorem zJg {W:World} {B:Nat} {v:Value} {l:List (Pt × Nat)} (h:W.ownsRow B 39 4 v l.length (zP l)) : ∃ hc cap,v = .slice hc l.length cap∧SlK W hc l:=by
 have LO:=fun g (hg:v.ownBlock=some g)=>h.cells hg;rcases h.2 with ⟨rfl,hn⟩ | ⟨g,cap,cur,rfl,-,-,hc,-⟩
 · exact ⟨none,0,by rw [hn],fun i c hi=>by rw [List.length_eq_zero_iff.1 hn] at hi;simp at hi⟩
 · refine ⟨_,cap,rfl,fun i c hi=>⟨g,0,rfl,?_⟩⟩;have LO:=LO g rfl
   have key : ∀ (l:List (Pt × Nat)) (i:Nat) (c:Pt × Nat) (j:Nat),l[i]? = some c→j<4→(zP l)[i * 4+j]? = (zD6 c)[j]? := by
    intro l
    induction l with
    | nil=>intro i c j hi;simp at hi
    | cons d r ih =>
      intro i c j hi hj
      show (zD6 d++zP r)[i * 4+j]? = _
      cases i with
      | zero =>
        obtain rfl:=osi hi;rw [Nat.zero_mul,Nat.zero_add,List.getElem?_append_left (by simpa [zD6] using hj)]
      | succ i =>
        rw [List.getElem?_append_right (by simp [zD6];omega)]
        have:=ih i c j hi hj;rw [show (i+1) * 4+j - (zD6 d).length=i * 4+j by simp [zD6];omega]
        exact this
   have get : ∀ j u,j<4→(zD6 c)[j]? = some u→W.cell? ⟨g,0+i * 4+j,none⟩=some u:=fun j u hj hu=>by
    have:=LO (i * 4+j) u ((key l i c j hi hj).trans hu);rw [Nat.zero_add];by_cases h0:i * 4+j=0
    · rw [h0] at this ⊢; exact this
    · unfold Addr.add at this;rw [if_neg (by simpa using h0)] at this
      simpa using this
   exact ⟨by simpa using get 0 _ (by decide) rfl,by simpa using get 1 _ (by decide) rfl,by simpa using get 2 _ (by decide) rfl,by simpa using get 3 _ (by decide) rfl⟩
theorem zD1 (x y:Pt × Nat) (w:World):(binOp .neq 39 (.agg #[.int .i64 x.1.x,.int .i64 x.1.y,.int .i64 x.1.z,((x.2:Int)+2:Int)]) (.agg #[.int .i64 y.1.x,.int .i64 y.1.y,.int .i64 y.1.z,((y.2:Int)+2:Int)])).run Tryz.prog w = .ok (.bool (!decide (x=y))) w:=by
 have h:=zEv x.1.x x.1.y x.1.z ((x.2:Int)+2) y.1.x y.1.y y.1.z ((y.2:Int)+2) w
 have e:decide (x.1.x=y.1.x∧x.1.y=y.1.y∧x.1.z=y.1.z∧(x.2:Int)+2=(y.2:Int)+2)=decide (x=y):=by
  apply decide_eq_decide.2;obtain ⟨⟨a,b,c⟩,d⟩:=x;obtain ⟨⟨a',b',c'⟩,d'⟩:=y;simp only [Prod.mk.injEq,Pt.mk.injEq];omega
 rw [e] at h;rw [run_eql_struct] at h;rw [run_neq_struct];generalize Sem.run Tryz.prog (Op.equalIn _ _ _ _) w=r at *;cases r with
 | ok b w' =>
   simp only [Result.andThen] at h ⊢;injection h with h1 h2;injection h1 with h1;rw [h1,h2]
 | halt x w'=>simp only [Result.andThen] at h;cases h
theorem zL4 (L M:List (Pt × Nat)) (a a':Option Addr) (cap Et:Nat) (w:World) (hL:L.length≤1000000000000) (hM:M.length≤1000000000000) (hA:SlK w a L) (hB:SlK w a' M) :
 Calls Tryz.prog 18 #[.slice a L.length cap,.slice a' M.length Et] w fun e w'=>e = .returned (.bool (decide (L=M)))∧Below w.heap.size w w':=by
 by_cases Od:L.length=M.length
 rotate_left
 · have Ph:decide (L=M)=false:=by simp;intro e;exact Od (by rw [e])
   rw [Ph];have t0:((L.length:Int) == (M.length:Int))=false:=by simp;omega
   generalize (L.length:Nat)=n at *;generalize (M.length:Nat)=n2 at *;clear hA hB;go_enter Tryz.func18,Tryz.ntmps18;go_wp2_with fail;go_ret;exact ⟨rfl,br⟩
 rw [←Od];generalize hn:L.length=n at *;have HN:=Bx.mk hn;have HM:=Bx.mk Od;have HA:=Bx.mk hA;have HB:=Bx.mk hB;have t0:((n:Int) == (n:Int))=true:=by simp
 clear hA hB Od hn;go_enter Tryz.func18,Tryz.ntmps18;go_wp2_with fail;clear t0
 go_loopw [5] (fun v5 wr => ∃ k:Nat,k≤n∧v5 = .int .i64 k∧Bx (Below w.heap.size w wr∧L.take k=M.take k)) (fun i _=>n - (intOf i).toNat)
 case atStart=>exact ⟨0,Nat.zero_le _,rfl,⟨br,by simp⟩⟩
 case round =>
  obtain ⟨k,hk,rfl,HI⟩:=hrel;by_cases hlt:k<n
  · have t1:decide ((k:Int)<(n:Int))=true:=by simp;omega
    obtain ⟨x,hx⟩ : ∃ x,L[k]? = some x:=⟨_,lge (by have:=HN.o;omega)⟩
    obtain ⟨y,hy⟩ : ∃ y,M[k]? = some y:=⟨_,lge (by have:=HM.o;omega)⟩
    obtain ⟨bA,oA,rfl,x0,x1,x2,x3⟩:=(HA.o.below HI.o.1) k x hx;obtain ⟨bB,oB,rfl,y0,y1,y2,y3⟩:=(HB.o.below HI.o.1) k y hy;have b1:(0:Int)≤(k:Int):=by omega
    have b2:(k:Int)<(n:Int):=by omega
    have hq:=Bx.mk fun W=>zD1 x y W;have HX:Bx (∀ w1,Below wr.heap.size wr w1→w1.cell? ⟨bA,oA+k * 4,none⟩=some (.int .i64 x.1.x)∧w1.cell? ⟨bA,oA+k * 4+1,none⟩=some (.int .i64 x.1.y)∧w1.cell? ⟨bA,oA+k * 4+2,none⟩=some (.int .i64 x.1.z)∧w1.cell? ⟨bA,oA+k * 4+3,none⟩=some (.int .i64 ((x.2:Int)+2))):=⟨fun w1 hb=>⟨cell_later hb x0,cell_later hb x1,cell_later hb x2,cell_later hb x3⟩⟩;have HY:Bx (∀ w1,Below wr.heap.size wr w1→w1.cell? ⟨bB,oB+k * 4,none⟩=some (.int .i64 y.1.x)∧w1.cell? ⟨bB,oB+k * 4+1,none⟩=some (.int .i64 y.1.y)∧w1.cell? ⟨bB,oB+k * 4+2,none⟩=some (.int .i64 y.1.z)∧w1.cell? ⟨bB,oB+k * 4+3,none⟩=some (.int .i64 ((y.2:Int)+2))):=⟨fun w1 hb=>⟨cell_later hb y0,cell_later hb y1,cell_later hb y2,cell_later hb y3⟩⟩;have Hx:=Bx.mk hx;have Hy:=Bx.mk hy;clear x0 x1 x2 x3 y0 y1 y2 y3 hx hy;go_upto_region 6 with fail
    refine zAL 8 (fun i v w'=>match i with
     | 0=>v = .slice (some ⟨bA,oA,none⟩) n cap
     | 1=>v = .int .i64 (k:Int)
     | 2=>v = .pointer (some ⟨bA,oA+k * 4,none⟩)
     | 3=>v = .agg #[.int .i64 x.1.x,.int .i64 x.1.y,.int .i64 x.1.z,((x.2:Int)+2:Int)]
     | 4=>v = .slice (some ⟨bB,oB,none⟩) n Et
     | 5=>v = .int .i64 (k:Int)
     | 6=>v = .pointer (some ⟨bB,oB+k * 4,none⟩)
     | _=>v = .agg #[.int .i64 y.1.x,.int .i64 y.1.y,.int .i64 y.1.z,((y.2:Int)+2:Int)]) (by kernel_rfl) (by kernel_rfl) 26 (by kernel_rfl) (by rfl) ?_ ?_ ?_
    · intro i hi v u1 u2 hb h
      match i,hi with
      | 0,_=>exact h
      | 1,_=>exact h
      | 2,_=>exact h
      | 3,_=>exact h
      | 4,_=>exact h
      | 5,_=>exact h
      | 6,_=>exact h
      | 7,_=>exact h
    · intro i o hi ho ρ w1 hb L3 L5 L6 hk
      match i,hi with
      | 0, _ =>
        obtain rfl:=osi ho;have g0:ρ (.tmp 0) = .slice (some ⟨bA,oA,none⟩) n cap:=hk 0 (by simp)
        clear hk hb HX HY HI HA HB Hx Hy hq;go_simp;exact br
      | 1, _ =>
        obtain rfl:=osi ho;have g0:ρ (.tmp 5) = .int .i64 (k:Int):=hk 5 (by simp)
        clear hk hb HX HY HI HA HB Hx Hy hq;go_simp;exact br
      | 2, _ =>
        obtain rfl:=osi ho;have g0:ρ (.tmp 17) = .slice (some ⟨bA,oA,none⟩) n cap:=hk 17 (by simp)
        have g1:ρ (.tmp 18) = .int .i64 (k:Int):=hk 18 (by simp)
        clear hk hb HX HY HI HA HB Hx Hy hq;go_simp;exact br
      | 3, _ =>
        obtain rfl:=osi ho;have g0:ρ (.tmp 19) = .pointer (some ⟨bA,oA+k * 4,none⟩):=hk 19 (by simp)
        obtain ⟨z0,z1,z2,z3⟩:=(HX.o w1 hb);clear hk hb HX HY HI HA HB Hx Hy hq;go_simp;exact br
      | 4, _ =>
        obtain rfl:=osi ho;have g0:ρ (.tmp 1) = .slice (some ⟨bB,oB,none⟩) n Et:=hk 1 (by simp)
        clear hk hb HX HY HI HA HB Hx Hy hq;go_simp;exact br
      | 5, _ =>
        obtain rfl:=osi ho;have g0:ρ (.tmp 5) = .int .i64 (k:Int):=hk 5 (by simp)
        clear hk hb HX HY HI HA HB Hx Hy hq;go_simp;exact br
      | 6, _ =>
        obtain rfl:=osi ho;have g0:ρ (.tmp 21) = .slice (some ⟨bB,oB,none⟩) n Et:=hk 21 (by simp)
        have g1:ρ (.tmp 22) = .int .i64 (k:Int):=hk 22 (by simp)
        clear hk hb HX HY HI HA HB Hx Hy hq;go_simp;exact br
      | 7, _ =>
        obtain rfl:=osi ho;have g0:ρ (.tmp 23) = .pointer (some ⟨bB,oB+k * 4,none⟩):=hk 23 (by simp)
        obtain ⟨z0,z1,z2,z3⟩:=(HY.o w1 hb);clear hk hb HX HY HI HA HB Hx Hy hq;go_simp;exact br
    · intro vs W1 Od hb hR
      match vs,Od with
      | [v0, v1, v2, v3, v4, v5, v6, v7], _ =>
        have r0:v0 = .slice (some ⟨bA,oA,none⟩) n cap:=hR 0 v0 rfl;have r1:v1 = .int .i64 (k:Int):=hR 1 v1 rfl;have r2:v2 = .pointer (some ⟨bA,oA+k * 4,none⟩):=hR 2 v2 rfl;have r3:v3 = .agg #[.int .i64 x.1.x,.int .i64 x.1.y,.int .i64 x.1.z,((x.2:Int)+2:Int)]:=hR 3 v3 rfl;have r4:v4 = .slice (some ⟨bB,oB,none⟩) n Et:=hR 4 v4 rfl;have r5:v5 = .int .i64 (k:Int):=hR 5 v5 rfl;have r6:v6 = .pointer (some ⟨bB,oB+k * 4,none⟩):=hR 6 v6 rfl;have r7:v7 = .agg #[.int .i64 y.1.x,.int .i64 y.1.y,.int .i64 y.1.z,((y.2:Int)+2:Int)]:=hR 7 v7 rfl;clear hR;have Qy:(binOp .neq 39 v3 v7).run Tryz.prog W1 = .ok (.bool (!decide (x=y))) W1:=by rw [r3,r7];exact hq.o W1
        have N3:(eqGuard .neq 39 (.tmp 20) (.tmp 24) v3 v7).run Tryz.prog W1 = .ok () W1:=by rw [r3,r7];go_simp
        clear r3 r7;subst r0 r1 r2 r4 r5 r6;have AG:=Bx.mk (tr HI.o.1 hb);simp only [zKg,List.take_succ_cons,List.take_zero,List.drop_succ_cons,List.drop_zero,List.map_cons,List.map_nil,List.zip_cons_cons,List.zip_nil_right,List.foldl_cons,List.foldl_nil];cases TH:decide (x=y) with
        | true =>
          rw [TH,Bool.not_true] at Qy;have TD:x=y:=by simpa using TH
          have HJ:Bx (Below w.heap.size w W1∧L.take (k+1)=M.take (k+1)):=⟨AG.o,by
           have h1:=List.getElem?_eq_some_iff.1 Hx.o;have h2:=List.getElem?_eq_some_iff.1 Hy.o;rw [List.take_succ_eq_append_getElem h1.1,List.take_succ_eq_append_getElem h2.1,HI.o.2,h1.2,h2.2,TD]⟩
          clear TH TD hb hq;go_wp2_with fail
          go_roundw
          case rel=>exact ⟨k+1,by omega,by go_num,HJ⟩
          case measure=>simp [intOf];omega
        | false =>
          rw [TH,Bool.not_false] at Qy
          have Ph:Bx (decide (L=M)=false):=⟨by
           simp only [decide_eq_false_iff_not] at TH ⊢;intro e;rw [e] at Hx;exact TH (osi (Hx.o.symm.trans Hy.o))⟩
          clear TH hb hq;go_wp2_with fail;go_ret;exact ⟨by rw [Ph.o];rfl,AG.o⟩
  · obtain rfl:k=n:=by omega
    have t1:decide ((k:Int)<(k:Int))=false:=by simp
    have he:Bx (decide (L=M)=true):=⟨by
     have h:=HI.o.2;rw [List.take_of_length_le (by have:=HN.o;omega),List.take_of_length_le (by have:=HM.o;omega)] at h
     simpa using h⟩
    go_wp2_with fail;go_ret;exact ⟨by rw [he.o];rfl,HI.o.1⟩
def SlP (w:World) (a:Option Addr) (L:List Pt):Prop := ∀ (i:Nat) (c:Pt),L[i]? = some c → ∃ b off,a=some ⟨b,off,none⟩∧w.cell? ⟨b,off+i * 3,none⟩=some (.int .i64 c.x)∧w.cell? ⟨b,off+i * 3+1,none⟩=some (.int .i64 c.y)∧w.cell? ⟨b,off+i * 3+2,none⟩=some (.int .i64 c.z)
theorem SlP.below {w w':World} {a:Option Addr} {L:List Pt} (h:SlP w a L) (hb:Below w.heap.size w w'):SlP w' a L:=by
 intro i c hc;obtain ⟨b,off,rfl,c0,c1,c2⟩:=h i c hc;have hh:=hb.block b (World.block_lt_of_cell? w _ c0);exact ⟨b,off,rfl,(World.cell?_of_block hh).trans c0,(World.cell?_of_block hh).trans c1,(World.cell?_of_block hh).trans c2⟩
structure CuI (w:World) (n:Nat) (L:List Pt) (k:Nat) (v:Value) (wr:World):Prop where
 bel:Below w.heap.size w wr
 own:wr.ownsRow w.heap.size 39 4 v k (zP ((L.take k).map fun p=>(p,n)))
theorem zD2 (n:Nat) (L:List Pt) (a:Option Addr) (cap:Nat) (w:World) (hL:L.length≤1000000) (hA:SlP w a L) :
 Calls Tryz.prog 54 #[((n:Int)+2:Int),.slice a L.length cap] w fun e w' => ∃ v,e = .returned v∧w'.ownsRow w.heap.size 39 4 v L.length (zP (L.map fun p=>(p,n)))∧Below w.heap.size w w':=by
 obtain ⟨i0,Na,TQ,TR,TS⟩:=info_parts (show (Tryz.prog.info? 39).map (fun i=>(i.zero,i.size,i.bytes))=some (some (.agg #[(0:Int),(0:Int),(0:Int),(0:Int)]),4,32) by kernel_rfl)
 have Ai:=Bx.mk Na;have CK:=Bx.mk TQ;have CL:=Bx.mk TR;have CM:=Bx.mk TS;generalize hm:L.length=m at *;have HM:=Bx.mk hm;have HA:=Bx.mk hA;clear Na TQ TR TS hm hA;go_enter Tryz.func54,Tryz.ntmps54;go_wp2_with fail;have HI:Bx (CuI w n L 0 (.slice none 0 0) w):=⟨⟨br,World.ownsRow_nil _ _ _ _⟩⟩
 go_loopw [5,10] (fun v5 v10 wr => ∃ k:Nat,k≤m∧v10 = .int .i64 k∧Bx (CuI w n L k v5 wr)) (fun _ i _=>m - (intOf i).toNat)
 case atStart=>exact ⟨0,Nat.zero_le _,rfl,HI⟩
 case round =>
  clear HI;obtain ⟨k,hk,rfl,HI⟩:=hrel;obtain ⟨va,vc,rfl⟩:=zy HI.o.own;by_cases hlt:k<m
  · have t1:decide ((k:Int)<(m:Int))=true:=by simp;omega
    obtain ⟨x,hx⟩ : ∃ x,L[k]? = some x:=⟨_,lge (by have:=HM.o;omega)⟩
    obtain ⟨bA,oA,rfl,x0,x1,x2⟩:=(HA.o.below HI.o.bel) k x hx;have b1:(0:Int)≤(k:Int):=by omega
    have b2:(k:Int)<(m:Int):=by omega
    have Hx:=Bx.mk hx;obtain ⟨px,py,pz⟩:=x;simp only [] at x0 x1 x2;clear hx;go_upto_region 5 with fail;generalize hW:wr.alloc _=W;have hb:=bl1 hW;have kc:Bk W wr.heap.size #[px,py,pz] 23:=bk0 hW;clear hW x0 x1 x2;have HB:=Bx.mk (tr HI.o.bel hb);have HO:=Bx.mk (World.ownsRow.kept HI.o.own (zV hb) (by cases (Value.slice va k vc).ownBlock <;> simp))
    have QQ:=Bx.mk fun o=>World.ownsRow.alloc HO.o o;have KH:=HB.o.size;obtain ⟨c0,c1,c2⟩:=kc.c3;clear kc hb;go_wp2_with (at_builtin;refine wpList_append_own_at _ rfl _ _ 51 rfl w.heap.size 39 i0 _ 4 32 Tryz.underlying51 Ai.o CK.o CL.o CM.o rfl (by omega) _ _ _ rfl (QQ.o _) ⟨W.heap.size,0,none⟩ 1 1 [.int .i64 px,.int .i64 py,.int .i64 pz,.int .i64 ((n:Int)+2)] rfl rfl (World.news_of_block (cs:=#[px,py,pz,((n:Int)+2:Int)]) (t:=39) (fr:=(0,0)) (heap_alloc_new W _)) (by simp [Value.oneCell']) (by simp only [maxLen];omega) (by omega) (by simp;omega) ?_;intro v6 W6 QV NR Ps Jl;have BT:=Bx.mk QV;have Ag:=Bx.mk ((World.grownBy_alloc W _ _).trans NR);clear QV NR Ps Jl)
    have HJ:Bx (CuI w n L (k+1) v6 W6):=⟨⟨HB.o.trans ⟨Ag.o.os,Ag.o.tape,Ag.o.output,Ag.o.size,fun j hj=>Ag.o.block j (by omega) (fun e=>by have:=(World.ownsRow.lt HO.o j e.symm).1;omega)⟩,by
     have h:=List.getElem?_eq_some_iff.1 Hx.o;rw [List.take_succ_eq_append_getElem h.1,h.2,List.map_append,show zP (((L.take k).map fun p=>(p,n))++[(⟨px,py,pz⟩:Pt)].map fun p=>(p,n))=zP ((L.take k).map fun p=>(p,n))++[.int .i64 px,.int .i64 py,.int .i64 pz,.int .i64 ((n:Int)+2)] by unfold zP;rw [List.flatMap_append];simp [zD6]]
     exact BT.o⟩⟩
    clear BT Ag HI c0 c1 c2
    go_roundw
    case rel=>exact ⟨k+1,by omega,by go_num,HJ⟩
    case measure=>simp [intOf];omega
  · obtain rfl:k=m:=by omega
    have t1:decide ((k:Int)<(k:Int))=false:=by simp
    go_wp2_with fail;go_ret;refine ⟨_,rfl,?_,HI.o.bel⟩;have h:=HI.o.own;rw [List.take_of_length_le (by have:=HM.o;omega)] at h
    exact h
end
section
open Go.RowKit
open Oct
def O3:Pt:=⟨0,0,0⟩
def gA:Pt→Int:=fun _=>0
def gB:Pt→Int:=zE9 1 ⟨⟨0,0,0⟩,⟨8,8,4⟩⟩ 5 gA
def gC:Pt→Int:=zE9 1 ⟨⟨-9,-9,-9⟩,⟨9,9,9⟩⟩ 5 gA
def gD:Pt→Int:=zAM (pts [⟨1,2,3,0,1⟩]) gA
def gP:Pt→Int:=zr 1 ⟨⟨1,2,3⟩,⟨2,3,4⟩⟩ [1] gA
def brD:List Int:=(List.range 64).map fun k=>if k=57 then 1 else 0
def tB:Tr:=.node 3 fun i=>if i.val<4 then .uni 5 else .uni 0
def tD:Tr:=.node 3 fun i=>if i.val=0 then .brick brD else .uni 0
theorem kidA (i:Fin 8):Tr.can gA 0 (Tr.cor O3 0 i.val) = .uni 0:=by
 have h : ∀ i:Fin 8,(List.range 64).map (fun k=>gA (Tr.cellAt (Tr.cor O3 0 i.val) k))=List.replicate 64 0:=by decide +kernel
 unfold Tr.can;rw [h i];rfl
theorem kidC (i:Fin 8):Tr.can gC 0 (Tr.cor O3 0 i.val) = .uni 5:=by
 have h : ∀ i:Fin 8,(List.range 64).map (fun k=>gC (Tr.cellAt (Tr.cor O3 0 i.val) k))=List.replicate 64 5:=by decide +kernel
 unfold Tr.can;rw [h i];rfl
theorem kidB (i:Fin 8):Tr.can gB 0 (Tr.cor O3 0 i.val)=if i.val<4 then .uni 5 else .uni 0:=by
 have h : ∀ i:Fin 8,(List.range 64).map (fun k=>gB (Tr.cellAt (Tr.cor O3 0 i.val) k))=if i.val<4 then List.replicate 64 5 else List.replicate 64 0:=by decide +kernel
 unfold Tr.can;rw [h i];by_cases hi:i.val<4
 · rw [if_pos hi,if_pos hi];rfl
 · rw [if_neg hi,if_neg hi];rfl
theorem kidD (i:Fin 8):Tr.can gD 0 (Tr.cor O3 0 i.val)=if i.val=0 then .brick brD else .uni 0:=by
 have h : ∀ i:Fin 8,(List.range 64).map (fun k=>gD (Tr.cellAt (Tr.cor O3 0 i.val) k))=if i.val=0 then brD else List.replicate 64 0:=by decide +kernel
 unfold Tr.can;rw [h i];by_cases hi:i.val=0
 · rw [if_pos hi,if_pos hi];have : ¬ ∀ x∈brD,x=brD.headD 0:=by decide +kernel
   unfold Tr.mkBrick;rw [if_neg this]
 · rw [if_neg hi,if_neg hi];rfl
theorem zFY {f:Pt→Int} {c:Int} (h : ∀ i:Fin 8,Tr.can f 0 (Tr.cor O3 0 i.val) = .uni c):Tr.can f 1 O3 = .uni c:=by
 unfold Tr.can Tr.mkInner;rw [if_pos ⟨⟨c,h 0⟩,fun i=>(h i).trans (h 0).symm⟩];exact h 0
theorem zBx:Tr.can gA 1 O3 = .uni 0:=zFY kidA
theorem canC:Tr.can gC 1 O3 = .uni 5:=zFY kidC
theorem canB:Tr.can gB 1 O3=tB:=by
 unfold Tr.can Tr.mkInner
 rw [if_neg (fun ⟨_,h⟩=>by
  have h4:Tr.can gB 0 (Tr.cor O3 0 (4:Fin 8).val)=Tr.can gB 0 (Tr.cor O3 0 (0:Fin 8).val):=h 4;rw [kidB,kidB,if_neg (by decide),if_pos (by decide)] at h4
  injection h4 with h4;cases h4)]
 unfold tB
 congr 1
 funext i
 exact kidB i
theorem zBy:Tr.can gD 1 O3=tD:=by
 unfold Tr.can Tr.mkInner;rw [if_neg (fun ⟨⟨c,h⟩,_⟩=>by simp only [kidD] at h;simp at h)]
 unfold tD
 congr 1
 funext i
 exact kidD i
theorem canP:Tr.can gP 1 O3=Tr.can gD 1 O3:=by
 refine Tr.can_congr 1 O3 (zA3 1) fun p _=>?_;unfold gP gD zr zAM pts;simp only [List.map_cons,List.map_nil,List.foldl_cons,List.foldl_nil,Tr.upd,Chg.at];by_cases hp:p=⟨1,2,3⟩
 · subst hp;decide
 · rw [if_neg hp,if_neg];intro h;rw [Bool.and_eq_true] at h;have:=zb.1 h.1;apply hp;cases p;simp only [Pt.mk.injEq];simp only [] at this;omega
theorem zCB (p:Pt):0≤gA p∧gA p≤255:=by unfold gA;decide
theorem cellB (p:Pt):0≤gB p∧gB p≤255:=by unfold gB zE9;split;decide;exact zCB p
theorem cellC (p:Pt):0≤gC p∧gC p≤255:=by unfold gC zE9;split;decide;exact zCB p
theorem cellD (p:Pt):0≤gD p∧gD p≤255:=by
 unfold gD zAM pts;simp only [List.map_cons,List.map_nil,List.foldl_cons,List.foldl_nil,Tr.upd];split
 · decide
 · exact zCB p
theorem cellG1 (p:Pt):0≤zE ⟨⟨1,2,3⟩,⟨2,3,4⟩⟩ [1] p∧zE ⟨⟨1,2,3⟩,⟨2,3,4⟩⟩ [1] p≤255:=by
 unfold zE;split
 · generalize (ze ⟨⟨1,2,3⟩,⟨2,3,4⟩⟩ p).toNat=i;cases i with
   | zero=>decide
   | succ i=>simp
 · decide
theorem cellP (p:Pt):0≤gP p∧gP p≤255:=by unfold gP zr;split;exact cellG1 p;exact zCB p
theorem diffAB:zER 1 O3 (.uni 0) tB=[(⟨0,0,0⟩,0),(⟨4,0,0⟩,0),(⟨0,4,0⟩,0),(⟨4,4,0⟩,0)]:=by
 unfold zER;rw [if_neg (by unfold tB;intro h;cases h),if_neg (by decide)]
 have h : ∀ i:Fin 8,zER 0 (Tr.cor O3 0 i.val) (Tr.kid (.uni 0) i) (Tr.kid tB i)=if i.val<4 then [(Tr.cor O3 0 i.val,0)] else []:=by
  intro i
  show zER 0 _ (.uni 0) (if i.val<4 then .uni 5 else .uni 0)=_
  by_cases hi:i.val<4
  · rw [if_pos hi,if_pos hi];exact zEV (by intro h;injection h with h;cases h)
  · rw [if_neg hi,if_neg hi];exact zET _ _ _
 simp only [h];decide +kernel
theorem diffAC:zER 1 O3 (.uni 0) (.uni 5)=[(⟨0,0,0⟩,1)]:=zEU (by intro h;injection h with h;cases h) rfl rfl
theorem cntB:zC7 5 (zl 1 O3 tB)=256:=by decide +kernel
theorem hasD:(zl 1 O3 tD).any (zGB ⟨⟨1,2,3⟩,⟨2,3,4⟩⟩ [1])=true:=by decide +kernel
theorem hasD2:(zl 1 O3 tD).any (zGB ⟨⟨2,2,3⟩,⟨9,9,9⟩⟩ [1,2])=false:=by decide +kernel
theorem addD:Tr.add tD []=[.brick brD,.uni 0,tD]:=by
 have h0:Tr.addK (fun i:Fin 8=>if i.val=0 then Tr.brick brD else .uni 0) 1 []=[.brick brD]:=by
  rw [Tr.addK_succ _ (by decide),Tr.addK_zero]
  show Tr.add (.brick brD) []=_
  rw [Tr.add_brick,Tr.ins_of_not (by simp)];rfl
 have h1:Tr.addK (fun i:Fin 8=>if i.val=0 then Tr.brick brD else .uni 0) 2 []=[.brick brD,.uni 0]:=by
  rw [Tr.addK_succ _ (by decide),h0]
  show Tr.add (.uni 0) [.brick brD]=_
  rw [Tr.add_uni,Tr.ins_of_not (by simp)];rfl
 have hs : ∀ k (hk:k<8),2≤k→Tr.addK (fun i:Fin 8=>if i.val=0 then Tr.brick brD else .uni 0) k []=[.brick brD,.uni 0]→Tr.addK (fun i:Fin 8=>if i.val=0 then Tr.brick brD else .uni 0) (k+1) []=[.brick brD,.uni 0]:=by
  intro k hk h2 h;rw [Tr.addK_succ _ hk,h]
  show Tr.add (if k=0 then Tr.brick brD else .uni 0) _=_
  rw [if_neg (by omega),Tr.add_same _ _ (by simp)]
 unfold tD;rw [Tr.add_node,if_neg (by simp)]
 rw [hs 7 (by decide) (by decide) (hs 6 (by decide) (by decide) (hs 5 (by decide) (by decide) (hs 4 (by decide) (by decide) (hs 3 (by decide) (by decide) (hs 2 (by decide) (by decide) h1)))))]
 rfl
theorem zAs (f:Pt→Int) (ts:List Tr):(Tr.add (Tr.can f 1 O3) ts).length≤ts.length+9 :=
 nlt (zAr _ _) (Nat.add_le_add_left (nlt (zNC f 1 O3) (by decide)) _)
end
section
open Go.RowKit Go.Sort Go.Maps
open Oct
theorem zNd {N:Nat} (hN:N≤12) (sb:Nat) (a b c d e f:Int) (ha:Option Addr) (hcp:Nat) (ys:List Int) (J9:Small ⟨⟨a,b,c⟩,⟨d,e,f⟩⟩ 1048575) (TN:ys.length=(zAE ⟨⟨a,b,c⟩,⟨d,e,f⟩⟩).toNat) (hY:ys.length≤4194304) (LF:ys.length≤hcp) (UA:Int) (g:Pt→Int) (hg : ∀ p,0≤g p∧g p≤255) (N1 : ∀ p,0≤zr N ⟨⟨a,b,c⟩,⟨d,e,f⟩⟩ ys g p∧zr N ⟨⟨a,b,c⟩,⟨d,e,f⟩⟩ ys g p≤255) (w:World) (Rn:Sl w .i64 ha ys) (Far:Nat→Prop) (N0:ys ≠ [] → ∀ b,ha.map (·.block)=some b→Far b) (ts:List Tr) (hG:Good ts) (ht:Tr.can g N ⟨0,0,0⟩∈ts) (Od:(Tr.add (Tr.can (zr N ⟨⟨a,b,c⟩,⟨d,e,f⟩⟩ ys g) N ⟨0,0,0⟩) ts).length≤4000000) (IV : ∀ k,Far k→k<w.heap.size) (hS:StoreIs w Far sb UA ts) :
 Calls Tryz.prog 55 #[.pointer (some ⟨sb,0,none⟩),(idT ts (Tr.can g N ⟨0,0,0⟩):Int),((N:Int)+2:Int),.agg #[a,b,c,d,e,f,.slice ha ys.length hcp]] w (Done Far sb UA ts (Tr.add (Tr.can (zr N ⟨⟨a,b,c⟩,⟨d,e,f⟩⟩ ys g) N ⟨0,0,0⟩) ts) (Tr.can (zr N ⟨⟨a,b,c⟩,⟨d,e,f⟩⟩ ys g) N ⟨0,0,0⟩) w):=by
 have Jh:=Bx.mk fun W=>zBP a b c d e f W;have LT:=Bx.mk fun gb gd W Far' h1 h2 h3 h4=>zCh hN (zKG hN gb gd sb a b c d e f ha hcp ys J9 TN hY LF UA g) hg N1 W Far' h1 h2 ts List.nil_prefix hG ht Od h3 h4;have HF:=Bx.mk IV;have HS:=Bx.mk hS;have HSl:=Bx.mk Rn;have Hfx:=Bx.mk N0;clear hg N1 hG ht Od IV hS Rn J9 TN hY LF N0;generalize Tr.can (zr N ⟨⟨a,b,c⟩,⟨d,e,f⟩⟩ ys g) N ⟨0,0,0⟩=T at *;go_enter Tryz.func55,Tryz.ntmps55;go_upto_region 1 with fail;generalize hW:w.alloc _=W;have JE:W.heap.size=w.heap.size+1:=by rw [←hW];simp
 have hB:=bl1 hW;have kb:Bk W w.heap.size #[a,b,c,d,e,f,.slice ha ys.length hcp] 28:=bk0 hW;clear hW;obtain ⟨b0,b1,b2,b3,b4,b5⟩:=kb.c6;go_wp2_with fail;refine (Jh.o _).mono ?_;rintro _ w2 ⟨rfl,kd,hb⟩;clear b0 b1 b2 b3 b4 b5;have Ko:=hb.size;rw [JE] at kd;have I5:=tr hB hb;go_wp2_with fail;refine (LT.o w.heap.size (w.heap.size+1) w2 (fun x=>Far x∨(w.heap.size≤x∧x<w2.heap.size)) ?_ ⟨kb.la hb,kd,HSl.o.below I5⟩ ?_ ?_).mono ?_
 · intro k hk;have hd:=kd.lt;rcases hk with rfl | rfl | ⟨hn,hk⟩
   · right;omega
   · right;omega
   · exact .inl (Hfx.o hn k hk)
 · intro k hk;rcases hk with hk | hk
   · exact nll (HF.o k hk) I5.size
   · exact hk.2
 · exact (HS.o.widen (Far':=fun x=>Far x∨(w.heap.size≤x∧x<w2.heap.size)) (fun k hk=>hk.imp id (fun h=>h.1))).la I5
 · intro e' w' hd;have Hd:=Bx.mk (hd.less (Far:=Far) (Keeps.below I5) (fun k hk=>.inl hk));obtain ⟨-,-,(⟨hf,rfl,hs⟩ | ⟨hf,rfl,hs⟩)⟩:=hd
   all_goals
    clear hf hs;go_wp2_with fail
    go_ret2
    exact Hd.o
end
section
open Go.RowKit Go.Sort Go.Maps
open Oct
structure SS (w0:World) (sb:Nat) (ts:List Tr) (W:World):Prop where
 bel:Below w0.heap.size w0 W
 st:StoreIs W (fun k=>k<w0.heap.size) sb 100 ts
theorem SS.la {w0 W W':World} {sb:Nat} {ts:List Tr} (h:SS w0 sb ts W) (hb:Below W.heap.size W W'):SS w0 sb ts W':=⟨tr h.bel hb,h.st.la hb⟩
theorem SS.far {w0 W:World} {sb:Nat} {ts:List Tr} (h:SS w0 sb ts W) : ∀ k,k<w0.heap.size→k<W.heap.size:=fun k hk=>nll hk h.bel.size
theorem SS.keep {w0 W W':World} {sb:Nat} {ts:List Tr} (h:SS w0 sb ts W) (hk:Keeps (fun k=>k<w0.heap.size) W W'):Below w0.heap.size w0 W' :=
 h.bel.trans ⟨hk.os,hk.tape,hk.output,hk.size,fun k hk'=>hk.block k hk' (h.far k hk')⟩
theorem SS.done {w0 W W':World} {sb:Nat} {ts ts':List Tr} {t:Tr} {e:Ending} (h:SS w0 sb ts W) (hd:Done (fun k=>k<w0.heap.size) sb 100 ts ts' t W e W') (hl:ts'.length≤100):e=zLY (idT ts' t:Int) 0∧SS w0 sb ts' W':=by
 rcases hd.way with ⟨_,h2,h3⟩ | ⟨hn,_⟩
 · exact ⟨h2,h.keep hd.keeps,h3⟩
 · exact absurd (Or.inr (by omega)) hn
noncomputable def s1:List Tr:=Tr.add (.uni 0) []
noncomputable def s2:List Tr:=Tr.add (Tr.can gB 1 O3) s1
noncomputable def s3:List Tr:=Tr.add (Tr.can gC 1 O3) s2
noncomputable def s4:List Tr:=Tr.add (Tr.can gD 1 O3) s3
theorem l1:s1.length≤1:=by unfold s1;rw [Tr.add_uni];exact zGr _ _
theorem l2:s2.length≤10:=by have h:=zAs gB s1;have:=l1;unfold s2;omega
theorem l3:s3.length≤19:=by have h:=zAs gC s2;have:=l2;unfold s3;omega
theorem l4:s4.length≤28:=by have h:=zAs gD s3;have:=l3;unfold s4;omega
theorem good1:Good s1:=Good.uni ⟨Tr.Closed.nil,fun t h=>by cases h⟩ (by decide)
theorem good2:Good s2:=zFn _ good1 (zAF cellB 1 _ (by omega))
theorem zFj:Good s3:=zFn _ good2 (zAF cellC 1 _ (by omega))
theorem zFk:Good s4:=zFn _ zFj (zAF cellD 1 _ (by omega))
theorem p12:s1 <+: s2:=Tr.add_prefix _ _
theorem p23:s2 <+: s3:=Tr.add_prefix _ _
theorem p34:s3 <+: s4:=Tr.add_prefix _ _
theorem mA1:Tr.can gA 1 O3∈s1:=by rw [zBx];exact Tr.mem_add _ _
theorem mB2:Tr.can gB 1 O3∈s2:=Tr.mem_add _ _
theorem mC3:Tr.can gC 1 O3∈s3:=Tr.mem_add _ _
theorem mD4:Tr.can gD 1 O3∈s4:=Tr.mem_add _ _
theorem mA2:Tr.can gA 1 O3∈s2:=p12.subset mA1
theorem mA3:Tr.can gA 1 O3∈s3:=p23.subset mA2
theorem mA4:Tr.can gA 1 O3∈s4:=p34.subset mA3
theorem mB3:Tr.can gB 1 O3∈s3:=p23.subset mB2
theorem mB4:Tr.can gB 1 O3∈s4:=p34.subset mB3
theorem mC4:Tr.can gC 1 O3∈s4:=p34.subset mC3
noncomputable def iA:Int:=(idT s4 (Tr.can gA 1 O3):Int)
noncomputable def iB:Int:=(idT s4 (Tr.can gB 1 O3):Int)
noncomputable def iC:Int:=(idT s4 (Tr.can gC 1 O3):Int)
noncomputable def iD:Int:=(idT s4 (Tr.can gD 1 O3):Int)
theorem eA1:(idT s1 (Tr.can gA 1 O3):Int)=iA:=by unfold iA;rw [zZ (p12.trans (p23.trans p34)) mA1]
theorem eA2:(idT s2 (Tr.can gA 1 O3):Int)=iA:=by unfold iA;rw [zZ (p23.trans p34) mA2]
theorem eA3:(idT s3 (Tr.can gA 1 O3):Int)=iA:=by unfold iA;rw [zZ p34 mA3]
theorem eB2:(idT s2 (Tr.can gB 1 O3):Int)=iB:=by unfold iB;rw [zZ (p23.trans p34) mB2]
theorem eC3:(idT s3 (Tr.can gC 1 O3):Int)=iC:=by unfold iC;rw [zZ p34 mC3]
variable {w0:World} {sb:Nat}
theorem sn_uni (W:World) (h:SS w0 sb [] W):Calls Tryz.prog 48 #[.pointer (some ⟨sb,0,none⟩),(0:Int)] W fun e W'=>e=zLY iA 0∧SS w0 sb s1 W':=by
 refine (zNx W _ sb 100 [] 0 (by decide) ⟨Tr.Closed.nil,fun t h=>by cases h⟩ (by simp) h.far h.st).mono ?_
 rintro e W' ⟨hk,hs,hw⟩;rcases hw with ⟨_,h2,h3⟩ | ⟨hn,_⟩
 · refine ⟨?_,h.keep hk,h3⟩;rw [h2,←eA1,zBx];rfl
 · exact absurd (Or.inr (by have:=l1;unfold s1 at this;omega)) hn
theorem zMa (W:World) (h:SS w0 sb s1 W):Calls Tryz.prog 49 #[.pointer (some ⟨sb,0,none⟩),iA,(3:Int),.agg #[(0:Int),(0:Int),(0:Int),(8:Int),(8:Int),(4:Int)],(5:Int)] W fun e W'=>e=zLY iB 0∧SS w0 sb s2 W':=by
 have hc:=zFU (N:=1) (by decide) sb 0 0 0 8 8 4 5 (by decide) 100 gA zCB cellB W _ s1 good1 mA1 (by have:=l2;unfold s2 at this;exact nlt this (by decide)) h.far h.st
 rw [show (idT s1 (Tr.can gA 1 ⟨0,0,0⟩):Int)=iA from eA1] at hc;refine Calls.mono hc ?_;intro e W' hd;have:=SS.done (ts':=s2) (t:=Tr.can gB 1 O3) h hd (by have:=l2;omega)
 rw [eB2] at this;exact this
theorem zMb (W:World) (h:SS w0 sb s2 W):Calls Tryz.prog 49 #[.pointer (some ⟨sb,0,none⟩),iA,(3:Int),.agg #[(-9:Int),(-9:Int),(-9:Int),(9:Int),(9:Int),(9:Int)],(5:Int)] W fun e W'=>e=zLY iC 0∧SS w0 sb s3 W':=by
 have hc:=zFU (N:=1) (by decide) sb (-9) (-9) (-9) 9 9 9 5 (by decide) 100 gA zCB cellC W _ s2 good2 mA2 (by have:=l3;unfold s3 at this;exact nlt this (by decide)) h.far h.st
 rw [show (idT s2 (Tr.can gA 1 ⟨0,0,0⟩):Int)=iA from eA2] at hc;refine Calls.mono hc ?_;intro e W' hd;have:=SS.done (ts':=s3) (t:=Tr.can gC 1 O3) h hd (by have:=l3;omega)
 rw [eC3] at this;exact this
theorem slc1 {W:World} {g:Nat} {x y z o n:Int} (hb:Bk W g #[x,y,z,o,n] 96):SlC W (some ⟨g,0,none⟩) [⟨x,y,z,o,n⟩]:=by
 intro i c hi;cases i with
 | zero =>
   obtain rfl:=osi hi;exact ⟨g,0,rfl,hb.cell 0 rfl,hb.cell 1 rfl,hb.cell 2 rfl,hb.cell 3 rfl,hb.cell 4 rfl⟩
 | succ i=>simp at hi
theorem sn_wr1 (W:World) (g cap:Nat) (LF:1≤cap) (hb:Bk W g #[(8:Int),(0:Int),(0:Int),(0:Int),(1:Int)] 96) (h:SS w0 sb s3 W):Calls Tryz.prog 52 #[.pointer (some ⟨sb,0,none⟩),iA,(3:Int),.slice (some ⟨g,0,none⟩) 1 cap] W fun e W'=>e=zLY 0 1∧SS w0 sb s3 W':=by
 have KF : ¬ ∀ c∈[(⟨8,0,0,0,1⟩:Chg)],zJH 1 c:=fun h=>by
  have:=(h _ (List.mem_singleton.2 rfl)).1
  revert this;decide
 have hc:=zNu (N:=1) (by decide) sb (some ⟨g,0,none⟩) cap [⟨8,0,0,0,1⟩] (by decide) LF 100 gA zCB W (slc1 hb) _ s3 zFj mA3 (fun QE=>absurd QE KF) h.far h.st
 rw [show (idT s3 (Tr.can gA 1 ⟨0,0,0⟩):Int)=iA from eA3] at hc;refine Calls.mono hc ?_;intro e W' hd;obtain ⟨h1,h2⟩:=hd.bad KF;exact ⟨h1,h.la h2⟩
theorem sn_wr2 (W:World) (g cap:Nat) (LF:1≤cap) (hb:Bk W g #[(1:Int),(2:Int),(3:Int),(0:Int),(1:Int)] 96) (h:SS w0 sb s3 W):Calls Tryz.prog 52 #[.pointer (some ⟨sb,0,none⟩),iA,(3:Int),.slice (some ⟨g,0,none⟩) 1 cap] W fun e W'=>e=zLY iD 0∧SS w0 sb s4 W':=by
 have QE : ∀ c∈[(⟨1,2,3,0,1⟩:Chg)],zJH 1 c:=fun c hc=>by
  obtain rfl:=List.mem_singleton.1 hc;exact ⟨by decide,by decide,by decide⟩
 have hc:=zNu (N:=1) (by decide) sb (some ⟨g,0,none⟩) cap [⟨1,2,3,0,1⟩] (by decide) LF 100 gA zCB W (slc1 hb) _ s3 zFj mA3 (fun _=>⟨cellD,by have:=l4;unfold s4 at this;exact nlt this (by decide)⟩) h.far h.st
 rw [show (idT s3 (Tr.can gA 1 ⟨0,0,0⟩):Int)=iA from eA3] at hc;refine Calls.mono hc ?_;intro e W' hd;exact SS.done (ts':=s4) (t:=Tr.can gD 1 O3) h (hd.ok QE) (by have:=l4;omega)
theorem zMc (W:World) (h:SS w0 sb s3 W):Calls Tryz.prog 53 #[.pointer (some ⟨sb,0,none⟩),iA,(3:Int),.agg #[(4:Int),(0:Int),(0:Int),(3:Int)],iA] W fun e W'=>e=zLY 0 1∧SS w0 sb s3 W':=by
 have hc:=zNP sb 1 (by decide) iA 4 0 0 3 iA (by unfold partOK;decide) W
 exact Calls.mono hc fun e W' hd=>⟨hd.1,h.la hd.2⟩
theorem zMY (W:World) (h:SS w0 sb s4 W):Calls Tryz.prog 19 #[.pointer (some ⟨sb,0,none⟩),iA,iB,(3:Int)] W fun e W' => ∃ v,e = .returned v∧W'.ownsRow W.heap.size 39 4 v 4 (zP [(⟨0,0,0⟩,0),(⟨4,0,0⟩,0),(⟨0,4,0⟩,0),(⟨4,4,0⟩,0)])∧Below W.heap.size W W':=by
 have hc:=zNL 100 s4 zFk (by have:=l4;omega) sb 1 (by decide) _ _ mA4 mB4 W _ h.st
 rw [zBx,canB,show (⟨0,0,0⟩:Pt)=O3 from rfl,diffAB,←zBx,←canB] at hc;exact hc
theorem zMZ (W:World) (h:SS w0 sb s4 W):Calls Tryz.prog 19 #[.pointer (some ⟨sb,0,none⟩),iA,iC,(3:Int)] W fun e W' => ∃ v,e = .returned v∧W'.ownsRow W.heap.size 39 4 v 1 (zP [(⟨0,0,0⟩,1)])∧Below W.heap.size W W':=by
 have hc:=zNL 100 s4 zFk (by have:=l4;omega) sb 1 (by decide) _ _ mA4 mC4 W _ h.st
 rw [zBx,canC,show (⟨0,0,0⟩:Pt)=O3 from rfl,diffAC,←zBx,←canC] at hc;exact hc
theorem zMV (W:World) (h:SS w0 sb s4 W):Calls Tryz.prog 23 #[.pointer (some ⟨sb,0,none⟩),iB,(3:Int),(5:Int)] W fun e W'=>e = .returned (.int .i64 256)∧Below W.heap.size W W':=by
 have hc:=zNK 100 s4 zFk (by have:=l4;omega) sb 1 (by decide) _ mB4 (zQ gB 1 O3) 5 W _ h.st
 rw [canB,show (⟨0,0,0⟩:Pt)=O3 from rfl,cntB,←canB] at hc;exact hc
theorem zMd (W:World) (g cap:Nat) (hb:Bk W g #[(1:Int)] 3) (h:SS w0 sb s4 W):Calls Tryz.prog 21 #[.pointer (some ⟨sb,0,none⟩),iD,(3:Int),.agg #[(1:Int),(2:Int),(3:Int),(2:Int),(3:Int),(4:Int)],.slice (some ⟨g,0,none⟩) 1 cap] W fun e W'=>e = .returned (.bool true)∧Below W.heap.size W W':=by
 have hc:=zNR 100 s4 zFk (by have:=l4;omega) sb 1 (by decide) _ mD4 (zQ gD 1 O3) 1 2 3 2 3 4 (some ⟨g,0,none⟩) cap [1] (by decide) W (fun i x hi=>by
  cases i with
  | zero=>obtain rfl:=osi hi;exact ⟨g,0,rfl,hb.cell 0 rfl⟩
  | succ i=>simp at hi) _ h.st
 rw [zBy,show (⟨0,0,0⟩:Pt)=O3 from rfl,hasD,←zBy] at hc;exact hc
theorem zMe (W:World) (g cap:Nat) (hb:Bk W g #[(1:Int),(2:Int)] 3) (h:SS w0 sb s4 W):Calls Tryz.prog 21 #[.pointer (some ⟨sb,0,none⟩),iD,(3:Int),.agg #[(2:Int),(2:Int),(3:Int),(9:Int),(9:Int),(9:Int)],.slice (some ⟨g,0,none⟩) 2 cap] W fun e W'=>e = .returned (.bool false)∧Below W.heap.size W W':=by
 have hc:=zNR 100 s4 zFk (by have:=l4;omega) sb 1 (by decide) _ mD4 (zQ gD 1 O3) 2 2 3 9 9 9 (some ⟨g,0,none⟩) cap [1,2] (by decide) W (fun i x hi=>by
  match i,hi with
  | 0,hi=>obtain rfl:=osi hi;exact ⟨g,0,rfl,hb.cell 0 rfl⟩
  | 1,hi=>obtain rfl:=osi hi;exact ⟨g,0,rfl,hb.cell 1 rfl⟩
  | i+2,hi=>simp at hi) _ h.st
 rw [zBy,show (⟨0,0,0⟩:Pt)=O3 from rfl,hasD2,←zBy] at hc;exact hc
theorem zMf (W:World) (h:SS w0 sb s4 W):Calls Tryz.prog 27 #[.pointer (some ⟨sb,0,none⟩),iD] W fun e W' => ∃ v i,e = .returned v∧Own W' W.heap.size 3 .i64 v [i,iA,iD]∧Below W.heap.size W W':=by
 have hc:=zNT 100 s4 zFk (by have:=l4;omega) sb 1 (by decide) _ mD4 (zQ gD 1 O3) W _ h.st
 refine Calls.mono hc ?_;rintro e W' ⟨v,rfl,ho,hb⟩;refine ⟨v,(idT s4 (.brick brD):Int),rfl,?_,hb⟩;rw [zBy,addD] at ho;simp only [zIm,List.map_cons,List.map_nil] at ho;unfold iA iD;rw [zBx,zBy];exact ho
theorem zMg (W:World) (g cap:Nat) (LF:1≤cap) (hg:w0.heap.size≤g) (hb:Bk W g #[(1:Int)] 3) (V:World) (hv:SS w0 sb s4 V) (JN:Below V.heap.size V W) (hgV:V.heap.size≤g):Calls Tryz.prog 55 #[.pointer (some ⟨sb,0,none⟩),iA,(3:Int),.agg #[(1:Int),(2:Int),(3:Int),(2:Int),(3:Int),(4:Int),.slice (some ⟨g,0,none⟩) 1 cap]] W fun e W'=>e=zLY iD 0∧SS w0 sb s4 W':=by
 have h:=hv.la JN;have hS:StoreIs W (fun k=>k<w0.heap.size∨k=g) sb 100 s4:=(hv.st.widen (Far':=fun k=>k<w0.heap.size∨k=g) (fun k hk=>hk.imp (fun h=>h) (fun (e:k=g)=>by omega))).la JN
 have he:Tr.add (Tr.can gP 1 O3) s4=s4:=by rw [canP];exact Tr.add_same _ _ mD4
 have hc:=zNd (N:=1) (by decide) sb 1 2 3 2 3 4 (some ⟨g,0,none⟩) cap [1] ⟨by decide,by decide,by decide,by decide,by decide,by decide⟩ (by decide) (by decide) LF 100 gA zCB cellP W (fun i x hi=>by
  cases i with
  | zero=>obtain rfl:=osi hi;exact ⟨g,0,rfl,hb.cell 0 rfl⟩
  | succ i => simp at hi) (fun k => k < w0.heap.size ∨ k = g) (fun _ b Jp => .inr (Option.some.inj Jp).symm) s4 zFk mA4 (by
    rw [show Tr.can (zr 1 ⟨⟨1,2,3⟩,⟨2,3,4⟩⟩ [1] gA) 1 ⟨0,0,0⟩=Tr.can gP 1 O3 from rfl,he];exact Nat.le_trans l4 (by decide)) (fun k hk=>by
    rcases hk with hk | rfl
    · exact h.far k hk
    · exact hb.lt) hS
 refine Calls.mono hc ?_;intro e W' hd;rw [show Tr.can (zr 1 ⟨⟨1,2,3⟩,⟨2,3,4⟩⟩ [1] gA) 1 ⟨0,0,0⟩=Tr.can gP 1 O3 from rfl,he,canP] at hd;rcases hd.way with ⟨_,h2,h3⟩ | ⟨hn,_⟩
 · exact ⟨h2,h.bel.trans ⟨hd.keeps.os,hd.keeps.tape,hd.keeps.output,hd.keeps.size,fun k hk'=>hd.keeps.block k (.inl hk') (h.far k hk')⟩,h3.less (fun k hk=>.inl hk)⟩
 · exact absurd (Or.inl rfl) hn
end
section
open Go.RowKit Go.Sort Go.Maps
open Oct
abbrev L4:List (Pt × Nat):=[(⟨0,0,0⟩,0),(⟨4,0,0⟩,0),(⟨0,4,0⟩,0),(⟨4,4,0⟩,0)]
theorem zMi (a a':Option Addr) (cap Et:Nat) (W:World) (hA:SlK W a L4) (hB:SlK W a' L4):Calls Tryz.prog 18 #[.slice a 4 cap,.slice a' 4 Et] W fun e W'=>e = .returned (.bool true)∧Below W.heap.size W W':=by
 have h:=zL4 L4 L4 a a' cap Et W (by decide) (by decide) hA hB
 rw [show decide (L4=L4)=true by simp] at h
 exact h
theorem zMh (a a':Option Addr) (cap Et:Nat) (W:World) (hA:SlK W a [(⟨0,0,0⟩,1)]) (hB:SlK W a' [(⟨0,0,0⟩,1)]):Calls Tryz.prog 18 #[.slice a 1 cap,.slice a' 1 Et] W fun e W'=>e = .returned (.bool true)∧Below W.heap.size W W':=by
 have h:=zL4 [(⟨0,0,0⟩,1)] [(⟨0,0,0⟩,1)] a a' cap Et W (by decide) (by decide) hA hB
 rw [show decide (([(⟨0,0,0⟩,1)]:List (Pt × Nat))=[(⟨0,0,0⟩,1)])=true by simp] at h
 exact h
theorem zMX (g cap:Nat) (W:World) (hb:Bk W g #[(0:Int),(0:Int),(0:Int),(4:Int),(0:Int),(0:Int),(0:Int),(4:Int),(0:Int),(4:Int),(4:Int),(0:Int)] 23):Calls Tryz.prog 54 #[(2:Int),.slice (some ⟨g,0,none⟩) 4 cap] W fun e W' => ∃ a c,e = .returned (.slice a 4 c)∧SlK W' a L4∧Below W.heap.size W W':=by
 refine Calls.mono (zD2 0 [⟨0,0,0⟩,⟨4,0,0⟩,⟨0,4,0⟩,⟨4,4,0⟩] (some ⟨g,0,none⟩) cap W (by decide) (fun i x hi=>?_)) ?_
 · match i,hi with
   | 0,hi=>obtain rfl:=osi hi;exact ⟨g,0,rfl,hb.cell 0 rfl,hb.cell 1 rfl,hb.cell 2 rfl⟩
   | 1,hi=>obtain rfl:=osi hi;exact ⟨g,0,rfl,hb.cell 3 rfl,hb.cell 4 rfl,hb.cell 5 rfl⟩
   | 2,hi=>obtain rfl:=osi hi;exact ⟨g,0,rfl,hb.cell 6 rfl,hb.cell 7 rfl,hb.cell 8 rfl⟩
   | 3,hi=>obtain rfl:=osi hi;exact ⟨g,0,rfl,hb.cell 9 rfl,hb.cell 10 rfl,hb.cell 11 rfl⟩
   | i+4,hi=>simp at hi
 · rintro e W' ⟨v,rfl,ho,Jp⟩;obtain ⟨a,c,rfl,hs⟩:=zJg (l:=L4) ho;exact ⟨a,c,rfl,hs,Jp⟩
theorem zMW (g cap:Nat) (W:World) (hb:Bk W g #[(0:Int),(0:Int),(0:Int)] 23):Calls Tryz.prog 54 #[(3:Int),.slice (some ⟨g,0,none⟩) 1 cap] W fun e W' => ∃ a c,e = .returned (.slice a 1 c)∧SlK W' a [(⟨0,0,0⟩,1)]∧Below W.heap.size W W':=by
 refine Calls.mono (zD2 1 [⟨0,0,0⟩] (some ⟨g,0,none⟩) cap W (by decide) (fun i x hi=>?_)) ?_
 · match i,hi with
   | 0,hi=>obtain rfl:=osi hi;exact ⟨g,0,rfl,hb.cell 0 rfl,hb.cell 1 rfl,hb.cell 2 rfl⟩
   | i+1,hi=>simp at hi
 · rintro e W' ⟨v,rfl,ho,Jp⟩;obtain ⟨a,c,rfl,hs⟩:=zJg (l:=[(⟨0,0,0⟩,1)]) ho;exact ⟨a,c,rfl,hs,Jp⟩
theorem zBj (W:World) (o:Obj):Below W.heap.size W (W.alloc o):=bf
theorem zL7 (w:World):Calls Tryz.prog 10 #[] w fun e w'=>e = .returned (.bool true)∧Below w.heap.size w w':=by
 have Jk:=Bx.mk (fun X Y Z W=>zBU X Y Z W);have Ky:=Bx.mk (fun x y z x2 y2 z2 W=>zHT x y z x2 y2 z2 W);go_enter Tryz.func10,Tryz.ntmps10;go_wp2_with fail;refine (zIk 100 _).mono ?_;rintro _ w1 ⟨sb,rfl,J3,Jr⟩;have HS:Bx (SS w sb [] w1):=⟨⟨Jr,J3⟩⟩;clear J3 Jr;have B3:=Bx.mk fun W (h:SS w sb s2 W)=>zj _ sb 100 s2 _ mB2 (by have:=l2;omega) W h.st
 have B4:=Bx.mk fun W (h:SS w sb s4 W)=>zj _ sb 100 s4 _ mC4 (by have:=l4;omega) W h.st
 rw [eB2,canB,show zi tB=3 from rfl] at B3;rw [show (idT s4 (Tr.can gC 1 O3):Int)=iC from rfl,canC,show zi (.uni 5)=1 from rfl] at B4;go_wp2_with fail;refine (sn_uni _ HS.o).mono ?_;rintro _ w2 ⟨rfl,hs⟩;replace HS:=Bx.mk hs;clear hs;go_wp2_with (first | (go_at_call 51;refine (Jk.o _ _ _ _).mono ?_;rintro _ w3 ⟨rfl,Jv⟩;have Bs:=Bx.mk (HS.o.la Jv);clear Jv HS;have HS:=Bs;clear Bs) | (go_at_call 50;refine (Ky.o _ _ _ _ _ _ _).mono ?_;rintro _ w3 ⟨rfl,Jv⟩;have Bs:=Bx.mk (HS.o.la Jv);clear Jv HS;have HS:=Bs;clear Bs));refine (zMa _ HS.o).mono ?_;rintro _ w2 ⟨rfl,hs⟩;replace HS:=Bx.mk hs;clear hs;go_wp2_with (first | (go_at_call 51;refine (Jk.o _ _ _ _).mono ?_;rintro _ w3 ⟨rfl,Jv⟩;have Bs:=Bx.mk (HS.o.la Jv);clear Jv HS;have HS:=Bs;clear Bs) | (go_at_call 50;refine (Ky.o _ _ _ _ _ _ _).mono ?_;rintro _ w3 ⟨rfl,Jv⟩;have Bs:=Bx.mk (HS.o.la Jv);clear Jv HS;have HS:=Bs;clear Bs));refine (B3.o _ HS.o).mono ?_;rintro _ _ ⟨rfl,rfl⟩;go_wp2_with (first | (go_at_call 51;refine (Jk.o _ _ _ _).mono ?_;rintro _ w3 ⟨rfl,Jv⟩;have Bs:=Bx.mk (HS.o.la Jv);clear Jv HS;have HS:=Bs;clear Bs) | (go_at_call 50;refine (Ky.o _ _ _ _ _ _ _).mono ?_;rintro _ w3 ⟨rfl,Jv⟩;have Bs:=Bx.mk (HS.o.la Jv);clear Jv HS;have HS:=Bs;clear Bs));refine (zMb _ HS.o).mono ?_;rintro _ w2 ⟨rfl,hs⟩;replace HS:=Bx.mk hs;clear hs;go_wp2_with (first | (go_at_call 51;refine (Jk.o _ _ _ _).mono ?_;rintro _ w3 ⟨rfl,Jv⟩;have Bs:=Bx.mk (HS.o.la Jv);clear Jv HS;have HS:=Bs;clear Bs) | (go_at_call 50;refine (Ky.o _ _ _ _ _ _ _).mono ?_;rintro _ w3 ⟨rfl,Jv⟩;have Bs:=Bx.mk (HS.o.la Jv);clear Jv HS;have HS:=Bs;clear Bs));refine (sn_wr1 _ _ _ nlr (Bk.new _ _ _) (HS.o.la (zBj _ _))).mono ?_;rintro _ w2 ⟨rfl,hs⟩;replace HS:=Bx.mk hs;clear hs;go_wp2_with (first | (go_at_call 51;refine (Jk.o _ _ _ _).mono ?_;rintro _ w3 ⟨rfl,Jv⟩;have Bs:=Bx.mk (HS.o.la Jv);clear Jv HS;have HS:=Bs;clear Bs) | (go_at_call 50;refine (Ky.o _ _ _ _ _ _ _).mono ?_;rintro _ w3 ⟨rfl,Jv⟩;have Bs:=Bx.mk (HS.o.la Jv);clear Jv HS;have HS:=Bs;clear Bs));refine (zMc _ HS.o).mono ?_;rintro _ w2 ⟨rfl,hs⟩;replace HS:=Bx.mk hs;clear hs;go_wp2_with (first | (go_at_call 51;refine (Jk.o _ _ _ _).mono ?_;rintro _ w3 ⟨rfl,Jv⟩;have Bs:=Bx.mk (HS.o.la Jv);clear Jv HS;have HS:=Bs;clear Bs) | (go_at_call 50;refine (Ky.o _ _ _ _ _ _ _).mono ?_;rintro _ w3 ⟨rfl,Jv⟩;have Bs:=Bx.mk (HS.o.la Jv);clear Jv HS;have HS:=Bs;clear Bs));refine (sn_wr2 _ _ _ nlr (Bk.new _ _ _) (HS.o.la (zBj _ _))).mono ?_;rintro _ w2 ⟨rfl,hs⟩;replace HS:=Bx.mk hs;clear hs;go_wp2_with (first | (go_at_call 51;refine (Jk.o _ _ _ _).mono ?_;rintro _ w3 ⟨rfl,Jv⟩;have Bs:=Bx.mk (HS.o.la Jv);clear Jv HS;have HS:=Bs;clear Bs) | (go_at_call 50;refine (Ky.o _ _ _ _ _ _ _).mono ?_;rintro _ w3 ⟨rfl,Jv⟩;have Bs:=Bx.mk (HS.o.la Jv);clear Jv HS;have HS:=Bs;clear Bs));refine (zMY _ HS.o).mono ?_;rintro _ wd ⟨v,rfl,ho,hb⟩;obtain ⟨da,dc,rfl,Rn⟩:=zJg (l:=L4) ho;replace HS:=Bx.mk (HS.o.la hb);have HD:=Bx.mk Rn;have AI:Bx (Below wd.heap.size wd wd):=⟨br⟩;clear hb Rn ho;go_wp2_with (first | (go_at_call 51;refine (Jk.o _ _ _ _).mono ?_;rintro _ w3 ⟨rfl,Jv⟩;have Bs:=Bx.mk (HS.o.la Jv);have AJ:=Bx.mk (tr AI.o Jv);clear AI;have AI:=AJ;clear AJ;clear Jv HS;have HS:=Bs;clear Bs) | (go_at_call 50;refine (Ky.o _ _ _ _ _ _ _).mono ?_;rintro _ w3 ⟨rfl,Jv⟩;have Bs:=Bx.mk (HS.o.la Jv);have AJ:=Bx.mk (tr AI.o Jv);clear AI;have AI:=AJ;clear AJ;clear Jv HS;have HS:=Bs;clear Bs))
 refine (zMX _ _ _ (Bk.new _ _ _)).mono ?_;rintro _ wc ⟨ea,ec,rfl,Rm,hb⟩;replace HS:=Bx.mk ((HS.o.la (zBj _ _)).la hb);have AZ:=Bx.mk (HD.o.below (AI.o.trans (((zBj _ _).trans (hb.mono (zBj _ _).size)).mono AI.o.size)));have Aa:=Bx.mk Rm;clear hb Rm HD AI;go_wp2_with (first | (go_at_call 51;refine (Jk.o _ _ _ _).mono ?_;rintro _ w3 ⟨rfl,Jv⟩;have Bs:=Bx.mk (HS.o.la Jv);clear Jv HS;have HS:=Bs;clear Bs) | (go_at_call 50;refine (Ky.o _ _ _ _ _ _ _).mono ?_;rintro _ w3 ⟨rfl,Jv⟩;have Bs:=Bx.mk (HS.o.la Jv);clear Jv HS;have HS:=Bs;clear Bs));refine (zMi _ _ _ _ _ AZ.o Aa.o).mono ?_;rintro _ ws ⟨rfl,hb⟩;replace HS:=Bx.mk (HS.o.la hb);clear hb AZ Aa;go_wp2_with (first | (go_at_call 51;refine (Jk.o _ _ _ _).mono ?_;rintro _ w3 ⟨rfl,Jv⟩;have Bs:=Bx.mk (HS.o.la Jv);clear Jv HS;have HS:=Bs;clear Bs) | (go_at_call 50;refine (Ky.o _ _ _ _ _ _ _).mono ?_;rintro _ w3 ⟨rfl,Jv⟩;have Bs:=Bx.mk (HS.o.la Jv);clear Jv HS;have HS:=Bs;clear Bs));refine (zMV _ HS.o).mono ?_;rintro _ wn ⟨rfl,hb⟩;replace HS:=Bx.mk (HS.o.la hb);clear hb;go_wp2_with (first | (go_at_call 51;refine (Jk.o _ _ _ _).mono ?_;rintro _ w3 ⟨rfl,Jv⟩;have Bs:=Bx.mk (HS.o.la Jv);clear Jv HS;have HS:=Bs;clear Bs) | (go_at_call 50;refine (Ky.o _ _ _ _ _ _ _).mono ?_;rintro _ w3 ⟨rfl,Jv⟩;have Bs:=Bx.mk (HS.o.la Jv);clear Jv HS;have HS:=Bs;clear Bs));refine (zMZ _ HS.o).mono ?_;rintro _ wd ⟨v,rfl,ho,hb⟩;obtain ⟨da,dc,rfl,Rn⟩:=zJg (l:=[(⟨0,0,0⟩,1)]) ho;replace HS:=Bx.mk (HS.o.la hb);have HD:=Bx.mk Rn;have AI:Bx (Below wd.heap.size wd wd):=⟨br⟩;clear hb Rn ho;go_wp2_with (first | (go_at_call 51;refine (Jk.o _ _ _ _).mono ?_;rintro _ w3 ⟨rfl,Jv⟩;have Bs:=Bx.mk (HS.o.la Jv);have AJ:=Bx.mk (tr AI.o Jv);clear AI;have AI:=AJ;clear AJ;clear Jv HS;have HS:=Bs;clear Bs) | (go_at_call 50;refine (Ky.o _ _ _ _ _ _ _).mono ?_;rintro _ w3 ⟨rfl,Jv⟩;have Bs:=Bx.mk (HS.o.la Jv);have AJ:=Bx.mk (tr AI.o Jv);clear AI;have AI:=AJ;clear AJ;clear Jv HS;have HS:=Bs;clear Bs));refine (zMW _ _ _ (Bk.new _ _ _)).mono ?_;rintro _ wc ⟨ea2,ec2,rfl,Rm,hb⟩;replace HS:=Bx.mk ((HS.o.la (zBj _ _)).la hb);have AZ:=Bx.mk (HD.o.below (AI.o.trans (((zBj _ _).trans (hb.mono (zBj _ _).size)).mono AI.o.size)));have Aa:=Bx.mk Rm;clear hb Rm HD AI;go_wp2_with (first | (go_at_call 51;refine (Jk.o _ _ _ _).mono ?_;rintro _ w3 ⟨rfl,Jv⟩;have Bs:=Bx.mk (HS.o.la Jv);clear Jv HS;have HS:=Bs;clear Bs) | (go_at_call 50;refine (Ky.o _ _ _ _ _ _ _).mono ?_;rintro _ w3 ⟨rfl,Jv⟩;have Bs:=Bx.mk (HS.o.la Jv);clear Jv HS;have HS:=Bs;clear Bs));refine (zMh _ _ _ _ _ AZ.o Aa.o).mono ?_;rintro _ ws ⟨rfl,hb⟩;replace HS:=Bx.mk (HS.o.la hb);clear hb AZ Aa;go_wp2_with (first | (go_at_call 51;refine (Jk.o _ _ _ _).mono ?_;rintro _ w3 ⟨rfl,Jv⟩;have Bs:=Bx.mk (HS.o.la Jv);clear Jv HS;have HS:=Bs;clear Bs) | (go_at_call 50;refine (Ky.o _ _ _ _ _ _ _).mono ?_;rintro _ w3 ⟨rfl,Jv⟩;have Bs:=Bx.mk (HS.o.la Jv);clear Jv HS;have HS:=Bs;clear Bs));refine (B4.o _ HS.o).mono ?_;rintro _ _ ⟨rfl,rfl⟩;go_wp2_with (first | (go_at_call 51;refine (Jk.o _ _ _ _).mono ?_;rintro _ w3 ⟨rfl,Jv⟩;have Bs:=Bx.mk (HS.o.la Jv);clear Jv HS;have HS:=Bs;clear Bs) | (go_at_call 50;refine (Ky.o _ _ _ _ _ _ _).mono ?_;rintro _ w3 ⟨rfl,Jv⟩;have Bs:=Bx.mk (HS.o.la Jv);clear Jv HS;have HS:=Bs;clear Bs));refine (zMd _ _ _ (Bk.new _ _ _) (HS.o.la (zBj _ _))).mono ?_;rintro _ wn ⟨rfl,hb⟩;replace HS:=Bx.mk ((HS.o.la (zBj _ _)).la hb);clear hb
 go_wp2_with (first | (go_at_call 51;refine (Jk.o _ _ _ _).mono ?_;rintro _ w3 ⟨rfl,Jv⟩;have Bs:=Bx.mk (HS.o.la Jv);clear Jv HS;have HS:=Bs;clear Bs) | (go_at_call 50;refine (Ky.o _ _ _ _ _ _ _).mono ?_;rintro _ w3 ⟨rfl,Jv⟩;have Bs:=Bx.mk (HS.o.la Jv);clear Jv HS;have HS:=Bs;clear Bs));refine (zMe _ _ _ (Bk.new _ _ _) (HS.o.la (zBj _ _))).mono ?_;rintro _ wn ⟨rfl,hb⟩;replace HS:=Bx.mk ((HS.o.la (zBj _ _)).la hb);clear hb;go_wp2_with (first | (go_at_call 51;refine (Jk.o _ _ _ _).mono ?_;rintro _ w3 ⟨rfl,Jv⟩;have Bs:=Bx.mk (HS.o.la Jv);clear Jv HS;have HS:=Bs;clear Bs) | (go_at_call 50;refine (Ky.o _ _ _ _ _ _ _).mono ?_;rintro _ w3 ⟨rfl,Jv⟩;have Bs:=Bx.mk (HS.o.la Jv);clear Jv HS;have HS:=Bs;clear Bs));refine (zMg _ _ _ nlr HS.o.bel.size (Bk.new _ _ _) _ HS.o (zBj _ _) nlr).mono ?_;rintro _ w2 ⟨rfl,hs⟩;replace HS:=Bx.mk hs;clear hs;go_wp2_with (first | (go_at_call 51;refine (Jk.o _ _ _ _).mono ?_;rintro _ w3 ⟨rfl,Jv⟩;have Bs:=Bx.mk (HS.o.la Jv);clear Jv HS;have HS:=Bs;clear Bs) | (go_at_call 50;refine (Ky.o _ _ _ _ _ _ _).mono ?_;rintro _ w3 ⟨rfl,Jv⟩;have Bs:=Bx.mk (HS.o.la Jv);clear Jv HS;have HS:=Bs;clear Bs));refine (zMf _ HS.o).mono ?_;rintro _ wn ⟨v,i,rfl,ho,hb⟩;replace HS:=Bx.mk (HS.o.la hb);obtain ⟨na,nc,rfl,Rn⟩:=ho.form;obtain ⟨nb,no,rfl,c0⟩:=Rn 0 _ rfl;have c1:=zJc ho (j:=1) rfl;have c2:=zJc ho (j:=2) rfl;clear hb ho Rn c0;go_wp2_with fail;go_ret;exact ⟨rfl,HS.o.bel⟩
theorem cells8 {wr:World} {b:Nat} {k:IntKind} {p:Nat→Int} {t:TypeId} (h:Bk wr b #[.int k (p 0),.int k (p 1),.int k (p 2),.int k (p 3),.int k (p 4),.int k (p 5),.int k (p 6),.int k (p 7)] t) {i:Nat} (hi:i<8):wr.cell? ⟨b,i,none⟩=some (.int k (p i)):=by
 have h0:i=0∨i=1∨i=2∨i=3∨i=4∨i=5∨i=6∨i=7:=by omega
 rcases h0 with rfl | rfl | rfl | rfl | rfl | rfl | rfl | rfl
 all_goals exact h.cell _ rfl
noncomputable def zHF (ts:List Tr) (ch:Fin 8→Tr) (k:Nat):Int:=if h:k<8 then (idT ts (ch ⟨k,h⟩):Int) else 0
structure DsI (w:World) (Far:Nat→Prop) (sb:Nat) (UA:Int) (ts:List Tr) (ch:Fin 8→Tr) (gc g:Nat) (wr:World):Prop where
 st:StoreIs wr Far sb UA ts
 bel:Below w.heap.size w wr
 kc:Bk wr gc #[(zHF ts ch 0:Int),(zHF ts ch 1:Int),(zHF ts ch 2:Int),(zHF ts ch 3:Int),(zHF ts ch 4:Int),(zHF ts ch 5:Int),(zHF ts ch 6:Int),(zHF ts ch 7:Int)] 108
 kids:Slv wr (some ⟨g,0,none⟩) (zM5 (zg ch))
theorem DsI.la {w wr w':World} {Far:Nat→Prop} {sb gc g:Nat} {UA:Int} {ts:List Tr} {ch:Fin 8→Tr} (h:DsI w Far sb UA ts ch gc g wr) (hb:Below wr.heap.size wr w'):DsI w Far sb UA ts ch gc g w' :=
 ⟨h.st.la hb,tr h.bel hb,h.kc.la hb,h.kids.below hb⟩
theorem zBz (f:Pt→Int) (n:Nat) (a:Pt):(∃ c,Tr.can f n a = .uni c)∨(n=0 ∧ ∃ l,Tr.can f n a = .brick l∧l.length=64) ∨ ∃ m ch,n=m+1∧Tr.can f n a = .node (m+3) ch ∧ ∀ i:Fin 8,ch i=Tr.can f m (Tr.cor a m i.val):=by
 cases n with
 | zero =>
   unfold Tr.can Tr.mkBrick;split
   · exact .inl ⟨_,rfl⟩
   · exact .inr (.inl ⟨rfl,_,rfl,by simp⟩)
 | succ m =>
   have hc:Tr.can f (m+1) a=Tr.mkInner (m+3) fun i=>Tr.can f m (Tr.cor a m i.val):=rfl;rw [hc];unfold Tr.mkInner;split
   · rename_i h;obtain ⟨c,hc⟩:=h.1;exact .inl ⟨c,hc⟩
   · exact .inr (.inr ⟨m,_,rfl,rfl,fun _=>rfl⟩)
def ChOf (ch:Fin 8→Tr) (v:Value) (w:World):Prop := ∃ g pc,v = .slice (some ⟨g,0,none⟩) 8 pc∧Slv w (some ⟨g,0,none⟩) (zM5 (zg ch))
def PtrS (o:Nat) (S:ByteArray) (v:Value) (w:World):Prop := ∃ g,v = .pointer (some ⟨g,o,none⟩)∧w.cell? ⟨g,o,none⟩=some (.string S)
theorem pts2 {w W:World} {ax ay az px py pz:Int} (h:W=(w.alloc (.cells #[ax,ay,az] 23)).alloc (.cells #[px,py,pz] 23)) :
 Below w.heap.size w W∧Bk W (w.heap.size) #[ax,ay,az] 23∧Bk W (w.heap.size+1) #[px,py,pz] 23:=by
 rw [h];exact ⟨bf.alloc (by simp) _,zD (zC _ _ _ (by simp)),zC _ _ _ (by simp)⟩
theorem zJp (c:Int) (hc:0≤c∧c≤255) (ax ay az px py pz dd lv:Int) (w:World) :
 Calls Tryz.prog 126 #[.string (strOfNums (Tr.enc (.uni c))),.agg #[ax,ay,az],dd,.agg #[px,py,pz],lv] w fun e w'=>e = .returned (.string (strOfNums (Tr.enc (.uni c))))∧Below w.heap.size w w':=by
 have Kz:Byt (Tr.enc (.uni c)):=Tr.enc_byt _ hc;have Na:=fun W:World=>za (P:=Tryz.prog) 9 Tryz.underlying9 Kz (k:=0) (x:=117) (by simp [Tr.enc]) W
 rw [show ((0:Nat):Int)=0 from rfl] at Na;generalize strOfNums (Tr.enc (.uni c))=S at *;clear Kz;go_enter Tryz.func126,Tryz.ntmps126;go_wp2_with fail;go_ret;exact ⟨rfl,bf.alloc (by simp) _⟩
theorem zJo (t:Tr) (hw:Tr.WF t) (hu : ∀ c,t ≠ .uni c) (ax ay az px py pz dd:Int) (lv:Int) (MG:dd=lv) (w:World) :
 Calls Tryz.prog 126 #[.string (strOfNums (Tr.enc t)),.agg #[ax,ay,az],dd,.agg #[px,py,pz],lv] w fun e w'=>e = .returned (.string (strOfNums (Tr.enc t)))∧Below w.heap.size w w':=by
 subst MG;have Kz:Byt (Tr.enc t):=Tr.enc_byt _ hw
 obtain ⟨x,hx,hx7⟩ : ∃ x,(Tr.enc t)[0]? = some x∧(x == 117)=false:=by
  cases t with
  | uni c=>exact absurd rfl (hu c)
  | brick l=>exact ⟨98,by simp [Tr.enc],by decide⟩
  | node d ch=>exact ⟨110,by simp [Tr.enc],by decide⟩
 have Na:=fun W:World=>za (P:=Tryz.prog) 9 Tryz.underlying9 Kz (k:=0) (x:=x) hx W;rw [show ((0:Nat):Int)=0 from rfl] at Na;generalize strOfNums (Tr.enc t)=S at *;clear Kz hx hu hw;go_enter Tryz.func126,Tryz.ntmps126;go_wp2_with fail;go_ret;exact ⟨rfl,bf.alloc (by simp) _⟩
theorem zJn (m:Nat) (hm:m≤11) (ch:Fin 8→Tr) (h:Tr.WF (.node (m+3) ch)) (hl:(Tr.enc (.node (m+3) ch)).length≤1000000000000000) (k:Nat) (hk:k<8) (ax ay az px py pz x y z lv:Int) (R:ByteArray) (MG:(((m:Int)+3) == lv)=false)
 (QB : ∀ W,Calls Tryz.prog 170 #[.agg #[ax,ay,az],((m:Int)+3:Int),.agg #[px,py,pz]] W fun e w'=>e = .returned (.int .i64 (k:Int))∧Below W.heap.size W w')
 (Lk : ∀ W,Calls Tryz.prog 152 #[.agg #[ax,ay,az],((m:Int)+3:Int),(k:Int)] W fun e w'=>e = .returned (.agg #[x,y,z])∧Below W.heap.size W w')
 (Nn : ∀ W,Calls Tryz.prog 126 #[.string (strOfNums (Tr.enc (ch ⟨k,hk⟩))),.agg #[x,y,z],((m:Int)+2:Int),.agg #[px,py,pz],lv] W fun e w'=>e = .returned (.string R)∧Below W.heap.size W w') (w:World) :
 Calls Tryz.prog 126 #[.string (strOfNums (Tr.enc (.node (m+3) ch))),.agg #[ax,ay,az],((m:Int)+3:Int),.agg #[px,py,pz],lv] w fun e w'=>e = .returned (.string R)∧Below w.heap.size w w':=by
 have Kz:=Tr.enc_byt _ h;have Na:=fun W:World=>za (P:=Tryz.prog) 9 Tryz.underlying9 Kz (k:=0) (x:=110) (by simp [Tr.enc]) W
 rw [show ((0:Nat):Int)=0 from rfl] at Na;have LT:=Bx.mk (zKt (m+3) ch h hl);have OD:=Bx.mk (zM6 (zHH ch hk));have QB:=Bx.mk QB;have Lk:=Bx.mk Lk;have Nn:=Bx.mk Nn;have S8:IntKind.i64.wrap ((m:Int)+3 - 1)=(m:Int)+2:=by rw [show (m:Int)+3 - 1=(m:Int)+2 by omega];exact wj _ (by omega)
 generalize strOfNums (Tr.enc (.node (m+3) ch))=S at *;generalize strOfNums (Tr.enc (ch ⟨k,hk⟩))=Sk at *;have b0:(0:Int)≤(k:Int):=by omega
 have b1:(k:Int)<8:=by omega
 clear Kz h hl;go_enter Tryz.func126,Tryz.ntmps126;go_upto_region 1 with fail;generalize hW:(w.alloc _).alloc _=W;have HP:=Bx.mk (pts2 hW.symm);clear hW;obtain ⟨ca0,ca1,ca2⟩:=HP.o.2.1.c3;obtain ⟨cp0,cp1,cp2⟩:=HP.o.2.2.c3;go_wp2_with fail;refine (QB.o _).mono ?_;rintro _ w1 ⟨rfl,Jr⟩;have BY:Bx (Below w.heap.size w w1∧Bk w1 (w.heap.size) #[ax,ay,az] 23∧Bk w1 (w.heap.size+1) #[px,py,pz] 23):=⟨tr HP.o.1 Jr,HP.o.2.1.la Jr,HP.o.2.2.la Jr⟩;clear Jr HP ca0 ca1 ca2 cp0 cp1 cp2 QB;go_upto_region 4 with fail
 refine zOh 14 (fun i v w'=>match i with
  | 0=>v = .string S
  | 1=>ChOf ch v w'
  | 2=>v = .int .i64 (k:Int)
  | 3=>PtrS k Sk v w'
  | 4=>v = .string Sk
  | 5=>v = .agg #[ax,ay,az]
  | 6=>v = .int .i64 ((m:Int)+3)
  | 7=>v = .int .i64 (k:Int)
  | 8=>v = .agg #[x,y,z]
  | 9=>v = .int .i64 ((m:Int)+3)
  | 10=>v = .int .i64 ((m:Int)+2)
  | 11=>v = .agg #[px,py,pz]
  | 12=>v = .int .i64 lv
  | _=>v = .string R) (by kernel_rfl) (by kernel_rfl) 39 (by kernel_rfl) (by rfl) ?_ ?_ ?_
 · intro i hi v u1 u2 hb h
   match i,hi with
   | 0,_=>exact h
   | 1,_=>obtain ⟨g,pc,h1,h2⟩:=h;exact ⟨g,pc,h1,h2.below hb⟩
   | 2,_=>exact h
   | 3,_=>obtain ⟨g,h1,h2⟩:=h;exact ⟨g,h1,cell_later hb h2⟩
   | 4,_=>exact h
   | 5,_=>exact h
   | 6,_=>exact h
   | 7,_=>exact h
   | 8,_=>exact h
   | 9,_=>exact h
   | 10,_=>exact h
   | 11,_=>exact h
   | 12,_=>exact h
   | 13,_=>exact h
 · intro i o hi ho ρ w2 hb L3 L5 L6 hk
   match i,hi with
   | 0, _ =>
     obtain rfl:=osi ho;have h2:ρ (.tmp 0) = .string S:=hk 0 (by simp)
     clear hk hb;go_simp;exact br
   | 1, _ =>
     obtain rfl:=osi ho;have h2:ρ (.tmp 25) = .string S:=hk 25 (by simp)
     have h4:=(LT.o w2).mono (R':=fun e V0 => ∃ v,e = .returned v∧Below w2.heap.size w2 V0∧ChOf ch v V0) (fun e V0 ⟨g,pc,x,y,_,z⟩=>⟨_,x,z,g,pc,rfl,y⟩);have H4:=Bx.mk h4;clear hk hb h4;go_simp
     all_goals exact H4.o
   | 2, _ =>
     obtain rfl:=osi ho;have h2:ρ (.tmp 11) = .int .i64 (k:Int):=hk 11 (by simp)
     clear hk hb;go_simp;exact br
   | 3, _ =>
     obtain rfl:=osi ho;obtain ⟨g,pc,h2,h3⟩:ChOf ch (ρ (.tmp 26)) w2:=hk 26 (by simp)
     have h5:ρ (.tmp 27) = .int .i64 (k:Int):=hk 27 (by simp)
     obtain ⟨b',off,he,LY⟩:=h3 k _ OD.o;simp only [Option.some.injEq,Addr.mk.injEq,and_true] at he;obtain ⟨rfl,rfl⟩:=he;rw [Nat.zero_add] at LY;have LY:=Bx.mk LY;clear hk hb h3;go_simp;exact ⟨br,_,rfl,LY.o⟩
   | 4, _ =>
     obtain rfl:=osi ho;obtain ⟨g,h2,h3⟩:PtrS k Sk (ρ (.tmp 28)) w2:=hk 28 (by simp)
     clear hk hb;go_simp;exact br
   | 5, _ =>
     obtain rfl:=osi ho;have h2:ρ (.tmp 6) = .pointer (some ⟨w.heap.size,0,none⟩):=hk 6 (by simp)
     have kk:=BY.o.2.1.la hb;obtain ⟨c0,c1,c2⟩:=kk.c3;clear hk hb kk;go_simp;exact br
   | 6, _ =>
     obtain rfl:=osi ho;have h2:ρ (.tmp 2) = .int .i64 ((m:Int)+3):=hk 2 (by simp)
     clear hk hb;go_simp;exact br
   | 7, _ =>
     obtain rfl:=osi ho;have h2:ρ (.tmp 11) = .int .i64 (k:Int):=hk 11 (by simp)
     clear hk hb;go_simp;exact br
   | 8, _ =>
     obtain rfl:=osi ho;have h2:ρ (.tmp 30) = .agg #[ax,ay,az]:=hk 30 (by simp)
     have h3:ρ (.tmp 31) = .int .i64 ((m:Int)+3):=hk 31 (by simp)
     have h5:ρ (.tmp 32) = .int .i64 (k:Int):=hk 32 (by simp)
     have h4:=(Lk.o w2).mono (R':=fun e V0 => ∃ v,e = .returned v∧Below w2.heap.size w2 V0∧v = .agg #[x,y,z]) (fun e V0 ⟨x,y⟩=>⟨_,x,y,rfl⟩);have H4:=Bx.mk h4;clear hk hb h4;go_simp
     all_goals exact H4.o
   | 9, _ =>
     obtain rfl:=osi ho;have h2:ρ (.tmp 2) = .int .i64 ((m:Int)+3):=hk 2 (by simp)
     clear hk hb;go_simp;exact br
   | 10, _ =>
     obtain rfl:=osi ho;have h2:ρ (.tmp 34) = .int .i64 ((m:Int)+3):=hk 34 (by simp)
     clear hk hb;go_simp;exact br
   | 11, _ =>
     obtain rfl:=osi ho;have h2:ρ (.tmp 8) = .pointer (some ⟨w.heap.size+1,0,none⟩):=hk 8 (by simp)
     have kk:=BY.o.2.2.la hb;obtain ⟨c0,c1,c2⟩:=kk.c3;clear hk hb kk;go_simp;exact br
   | 12, _ =>
     obtain rfl:=osi ho;have h2:ρ (.tmp 4) = .int .i64 lv:=hk 4 (by simp)
     clear hk hb;go_simp;exact br
   | 13, _ =>
     obtain rfl:=osi ho;have h2:ρ (.tmp 29) = .string Sk:=hk 29 (by simp)
     have h3:ρ (.tmp 33) = .agg #[x,y,z]:=hk 33 (by simp)
     have h5:ρ (.tmp 35) = .int .i64 ((m:Int)+2):=hk 35 (by simp)
     have h6:ρ (.tmp 36) = .agg #[px,py,pz]:=hk 36 (by simp)
     have h7:ρ (.tmp 37) = .int .i64 lv:=hk 37 (by simp)
     have h4:=(Nn.o w2).mono (R':=fun e V0 => ∃ v,e = .returned v∧Below w2.heap.size w2 V0∧v = .string R) (fun e V0 ⟨x,y⟩=>⟨_,x,y,rfl⟩);have H4:=Bx.mk h4;clear hk hb h4;go_simp
     all_goals exact H4.o
 · intro vs W1 Od hb hR
   match vs,Od with
   | [v0, v1, v2, v3, v4, v5, v6, v7, v8, v9, v10, v11, v12, v13], _ =>
     have r0:v0 = .string S:=hR 0 v0 rfl;obtain ⟨g1,pc1,r1,-⟩:ChOf ch v1 W1:=hR 1 v1 rfl;have r2:v2 = .int .i64 (k:Int):=hR 2 v2 rfl;obtain ⟨g3,r3,-⟩:PtrS k Sk v3 W1:=hR 3 v3 rfl;have r4:v4 = .string Sk:=hR 4 v4 rfl;have r5:v5 = .agg #[ax,ay,az]:=hR 5 v5 rfl;have r6:v6 = .int .i64 ((m:Int)+3):=hR 6 v6 rfl;have r7:v7 = .int .i64 (k:Int):=hR 7 v7 rfl;have r8:v8 = .agg #[x,y,z]:=hR 8 v8 rfl;have r9:v9 = .int .i64 ((m:Int)+3):=hR 9 v9 rfl;have UW:v10 = .int .i64 ((m:Int)+2):=hR 10 v10 rfl;have UX:v11 = .agg #[px,py,pz]:=hR 11 v11 rfl;have UY:v12 = .int .i64 lv:=hR 12 v12 rfl;have UZ:v13 = .string R:=hR 13 v13 rfl;subst r0 r1 r2 r3 r4 r5 r6 r7 r8 r9 UW UX UY UZ;clear hR;have HB:=Bx.mk (tr BY.o.1 hb);clear hb BY LT Lk Nn OD
     simp only [zKg,List.take_succ_cons,List.take_zero,List.drop_succ_cons,List.drop_zero,List.map_cons,List.map_nil,List.zip_cons_cons,List.zip_nil_right,List.foldl_cons,List.foldl_nil];go_wp2_with fail;go_ret;exact ⟨rfl,HB.o⟩
end
end Go.Proofs.YtfcbajmjaifjlaaGreat