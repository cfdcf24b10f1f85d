/- Cn1, Cn2, Hs2: joined by program, for one claim. -/
import Derived.Test.YtfcbajmjaifjlaaGreatDoorM22
import Derived.Sort.CutIn
set_option maxHeartbeats 8000000
set_option maxRecDepth 100000
set_option linter.unusedVariables false
set_option linter.unusedSimpArgs false
namespace Go.Proofs.YtfcbajmjaifjlaaGreatDoor
section
open Go.RowKit Go.Sort Go.Maps
open Oct
theorem KpE.putObj {E:Nat→Prop} {n₀:Nat} (W:World) (l:Nat) (o o':Obj) (hl:n₀≤l) (h:W.heap[l]? = some o) (hc:o.isCells=false):KpE E n₀ W (W.putObj l o'):=by
 have hg:=grownBy_putObj' W l o';refine ⟨hg.os,hg.tape,hg.output,hg.size,fun k x hk _ hx=>(hg.block k (Array.getElem?_eq_some_iff.1 hk).1 (fun e=>?_)).trans hk⟩;obtain rfl:=Option.some.inj e;rw [h] at hk;obtain rfl:=Option.some.inj hk;rcases hx with hx | hx
 · omega
 · rw [hc] at hx;cases hx
theorem KpE.grow {E:Nat→Prop} {n₀:Nat} {W W':World} {g:Nat} (hg:W.grownBy W' (some g)) (hE:E g):KpE E n₀ W W' :=
 ⟨hg.os,hg.tape,hg.output,hg.size,fun k o hk hne _=>(hg.block k (Array.getElem?_eq_some_iff.1 hk).1 (fun e=>hne (Option.some.inj e ▸ hE))).trans hk⟩
theorem zAr {B:Nat} {W W':World} (h:Below W.heap.size W W'):KeepsFrom B W W':=⟨h.size,fun k o _ hk _=>(h.block k (Array.getElem?_eq_some_iff.1 hk).1).trans hk⟩
structure Rnd (E:Nat→Prop) (n₀:Nat) (W W':World):Prop where
 kf:KeepsFrom n₀ W W'
 kp:KpE E n₀ W W'
theorem Rnd.below {E:Nat→Prop} {n₀:Nat} {W W':World} (h:Below W.heap.size W W'):Rnd E n₀ W W':=⟨zAr h,KpE.below h⟩
theorem Rnd.trans {E:Nat→Prop} {n₀:Nat} {A B C:World} (h:Rnd E n₀ A B) (h':Rnd E n₀ B C):Rnd E n₀ A C:=⟨h.kf.trans h'.kf,h.kp.trans h'.kp⟩
theorem Rnd.set {E:Nat→Prop} {n₀:Nat} (W:World) (g:Nat) (v:Value) (hE:E g):Rnd E n₀ W (W.setCell ⟨g,0,none⟩ v) :=
 ⟨(KeepsOthers.setCell _ _ _).from _,KpE.grow (zS W ⟨g,0,none⟩ v) hE⟩
theorem zBz {β:Type} {E:Nat→Prop} {w₀:World}:OwnFrom w₀.heap.size (fun (_:β) W=>KpE E w₀.heap.size w₀ W):=fun _ X Y row hs hg hr =>
 ⟨hg.os.trans hs.os,hg.tape.trans hs.tape,hg.output.trans hs.output,Nat.le_trans hs.size hg.size,fun k o hk hE hc=>by
  have hX:=hs.blk k o hk hE hc;refine (hg.block k (Array.getElem?_eq_some_iff.1 hX).1 (fun e=>?_)).trans hX;have h1:=(hr k e.symm).1;have h2:=(Array.getElem?_eq_some_iff.1 hk).1;omega⟩
theorem zA7 {β:Type} {B:Nat} (g:Nat) (f:β→Array Value) (t:TypeId):OwnFrom B (fun s W=>Bk W g (f s) t):=fun s X Y row hs hg hr =>
 (hg.block g (Array.getElem?_eq_some_iff.1 hs).1 (fun e=>by
  obtain ⟨_,o,ho,hc⟩:=hr g e.symm;rw [show X.heap[g]? = _ from hs] at ho;obtain rfl:=Option.some.inj ho;cases hc)).trans hs
def zHQ (c:Int) (pre:List (Pt × Nat × Tr)):Int:=wrap64 (((pre.map (zKk c)).sum:Nat):Int)
theorem zKp (a b:Int):wrap64 (wrap64 a+b)=wrap64 (a+b):=by
 simp only [wrap64,IntKind.wrap];omega
theorem zEL (ts:List Tr) (hG:Good ts) (N:Nat) : ∀ (n:Nat) (a:Pt) (T:Tr),InT N n a→Dep n T→T∈ts → ∀ x∈zL n a T,x.2.2∈ts∧InT N x.2.1 x.1∧((∃ c,x.2.2 = .uni c)∨(x.2.1=0 ∧ ∃ l,x.2.2 = .brick l)):=by
 intro n
 induction n with
 | zero =>
   intro a T hin hD hT x hx;cases hD with
   | uni _ c=>rw [zBH,List.mem_singleton] at hx;subst hx;exact ⟨hT,hin,.inl ⟨c,rfl⟩⟩
   | brick l=>rw [zCE,List.mem_singleton] at hx;subst hx;exact ⟨hT,hin,.inr ⟨rfl,l,rfl⟩⟩
 | succ n ih =>
   intro a T hin hD hT x hx;cases hD with
   | uni _ c=>rw [zBH,List.mem_singleton] at hx;subst hx;exact ⟨hT,hin,.inl ⟨c,rfl⟩⟩
   | node _ ch h =>
     unfold zL at hx;obtain ⟨i,-,hi⟩:=List.mem_flatMap.1 hx;exact ih _ (ch i) (hin.kid i.isLt) (h i) (hG.closed.2 _ ch hT i) x hi
theorem zKK (c:Int) (pre:List (Pt × Nat × Tr)) (x:Pt × Nat × Tr):zHQ c (pre++[x])=wrap64 ((((pre.map (zKk c)).sum:Nat):Int)+((zKk c x:Nat):Int)):=by
 unfold zHQ;rw [List.map_append,List.sum_append];simp
structure CSt (E:Nat→Prop) (n₀ nb B:Nat) (c S e:Int) (ys:List Int) (v:Value) (W:World) (j:Nat) (wr:World):Prop where
 rnd:Rnd E n₀ W wr
 kn:Bk wr nb #[.int .i64 (wrap64 (S+(((ys.take j).count c:Nat):Int) * e))] 3
 own:Own wr B 3 .i64 v ys
theorem CSt.skip {E:Nat→Prop} {n₀ nb B:Nat} {c S e:Int} {ys:List Int} {v:Value} {W:World} {j:Nat} {wr:World} (h:CSt E n₀ nb B c S e ys v W j wr) {x:Int} (hx:ys[j]? = some x) (hc:x ≠ c):CSt E n₀ nb B c S e ys v W (j+1) wr:=by
 refine ⟨h.rnd,?_,h.own⟩;have hj:=(List.getElem?_eq_some_iff.1 hx);rw [List.take_succ_eq_append_getElem hj.1,hj.2,List.count_append,List.count_singleton];simpa [hc] using h.kn
theorem CSt.hit {E:Nat→Prop} {n₀ nb B:Nat} {c S e:Int} {ys:List Int} {v:Value} {W:World} {j:Nat} {wr:World} (h:CSt E n₀ nb B c S e ys v W j wr) {e1:Int} (he1:e1=e) (hE:E nb) (hnb:nb<B) (hx:ys[j]? = some c):CSt E n₀ nb B c S e ys v W (j+1) (wr.setCell ⟨nb,0,none⟩ (.int .i64 (wrap64 (wrap64 (S+(((ys.take j).count c:Nat):Int) * e)+e1)))):=by
 rw [he1];clear he1
 refine ⟨h.rnd.trans (Rnd.set _ _ _ hE),?_,h.own.grown (zS wr ⟨nb,0,none⟩ _) (by
  cases hv:v.ownBlock with
  | none=>exact .inl rfl
  | some g=>exact .inr (fun e'=>by have h1:=(h.own.lt g hv).1;have e2:g=nb:=Option.some.inj e';omega))⟩
 have hj:=(List.getElem?_eq_some_iff.1 hx);rw [List.take_succ_eq_append_getElem hj.1,hj.2,List.count_append,List.count_singleton];simp only [beq_self_eq_true,if_true];rw [zKp,show S+(((ys.take j).count c+1:Nat):Int) * e=S+(((ys.take j).count c:Nat):Int) * e+e by rw [Int.natCast_add,Int.add_mul];simp;omega]
 exact Bk.put1 h.kn _
theorem zDB {w:World} {B:Nat} {e:TypeId} {k:IntKind} {b off n cap:Nat} {xs:List Int} (h:Own w B e k (.slice (some ⟨b,off,none⟩) n cap) xs) {j:Nat} {x:Int} (hx:xs[j]? = some x):w.cell? ⟨b,off+j,none⟩=some (.int k x):=by
 obtain ⟨b',off',he,hc⟩:=h.sl j x hx;injection he with he;injection he with h1 h2;subst h1;subst h2;exact hc
end
section
open Go.RowKit Go.Sort Go.Maps
open Oct
attribute [local go_sem] Oper.semAt_some
theorem zHi (most:Int) (ts:List Tr) (hG:Good ts) (hlen:ts.length≤4194304) (sb n:Nat) (hn:n≤12) (T:Tr) (hT:T∈ts) (hDp:Dep n T) (c:Int) (w:World) (Far:Nat→Prop) (hS:StoreIs w Far sb most ts) :
 Calls Tryz.prog 29 #[.pointer (some ⟨sb,0,none⟩),(idT ts T:Int),.int .i64 ((n:Int)+2),c] w fun e w'=>e = .returned (.int .i64 (zHQ c (zL n ⟨0,0,0⟩ T)))∧Below w.heap.size w w':=by
 refine (callsIn_wide (n:=5)).1 ?_;refine callsIn_of_wp_marks Tryz.func29 rfl trivial ?_ rfl;simp only [Tryz.ntmps29,List.size_toArray,List.length_cons,List.length_nil,Nat.reduceAdd,Nat.reduceSub,Array.replicate_succ,Array.replicate_zero,List.push_toArray,List.append_toArray,List.nil_append,List.cons_append]
 gi_wp2_with ((try refine ⟨trivial,?_⟩);gi_at_call 75;refine (callsIn_wide.2 (zDO _ _ _ _)).mono ?_;rintro _ _ ⟨rfl,rfl⟩)
 generalize hW0:World.alloc (World.alloc (World.alloc (World.alloc (World.alloc _ _) _) _) _) _=W0;have hB0:Below w.heap.size w W0:=by rw [←hW0];exact ((((((Below.refl _ _).alloc (Nat.le_refl _) _).alloc (by simp) _).alloc (by simp;omega) _).alloc (by simp;omega) _).alloc (by simp;omega) _).alloc (by simp;omega) _
 have hsz:W0.heap.size=w.heap.size+6:=by rw [←hW0];simp
 have ks:Bk W0 w.heap.size #[.pointer (some ⟨sb,0,none⟩)] 33:=by rw [←hW0];exact zB (zB (zB (zB (zB (zI _ _ _ (by simp))))))
 have kc:Bk W0 (w.heap.size+1) #[c] 3:=by rw [←hW0];exact zB (zB (zB (zB (zI _ _ _ (by simp)))))
 have kn:Bk W0 (w.heap.size+1+1) #[(0:Int)] 3:=by rw [←hW0];exact zB (zB (zB (zI _ _ _ (by simp))))
 have ks2:Bk W0 (w.heap.size+1+1+1) #[.pointer (some ⟨sb,0,none⟩)] 33:=bk2 hW0;have ki:Bk W0 (w.heap.size+1+1+1+1) #[(idT ts T:Int)] 3:=bk1 hW0;have kd:Bk W0 (w.heap.size+1+1+1+1+1) #[.int .i64 ((n:Int)+2)] 3:=bk0 hW0;clear hW0;have hS0:StoreIs W0 (fun k=>k=w.heap.size+1+1∨W0.heap.size≤k) sb most ts:=(((hS.less (Far:=fun _=>False) (fun k h=>h.elim)).widen (Far':=fun k=>w.heap.size≤k) (fun k hk=>.inr hk)).later hB0).less (fun k hk=>by rcases hk with rfl | hk <;> omega)
 have hlf:=zEL ts hG n n ⟨0,0,0⟩ T (InT.top n) hDp hT;have hseq:=zC0 (fun k=>k=w.heap.size+1+1) W0.heap.size (w.heap.size+1+1+1) (w.heap.size+1+1+1+1+1) (w.heap.size+1+1+1+1) sb n hn most ts hG hlen T hT hDp (5 - 1) W0 ks2 kd ki hS0 (by omega) (by omega) (Nat.le_refl _)
 have hKd:=Bx.mk fun t ht W (h:StoreIs W (fun k=>k=w.heap.size+1+1∨W0.heap.size≤k) sb most ts)=>zo _ sb most ts t ht hlen W h;have hCl:=Bx.mk fun t ht W (h:StoreIs W (fun k=>k=w.heap.size+1+1∨W0.heap.size≤k) sb most ts)=>zAt W _ sb most ts t ht hG (by omega) h
 have hgb:=Bx.mk hG.bytes;clear hT hDp hlen hG hS ks2 kd ki;have Hhn:=Bx.mk hn;have HS0:=Bx.mk hS0;have Hlf:=Bx.mk hlf;have HB0:=Bx.mk hB0;clear hn hS0 hlf hB0;have kn0:Bk W0 (w.heap.size+1+1) #[.int .i64 (zHQ c [])] 3:=by rw [show zHQ c []=0 from by simp [zHQ,wrap64]];exact kn
 refine wpIn_rangeFunc_ownH rfl (by decide) (gf:=118) (lb:=#[.pointer (some ⟨w.heap.size+1+1+1,0,none⟩),.pointer (some ⟨w.heap.size+1+1+1+1+1,0,none⟩),.pointer (some ⟨w.heap.size+1+1+1+1,0,none⟩)]) rfl trivial (enters_of Tryz.func118 (by kernel_rfl) rfl)
  hseq KpE.trans (fun W l o o' hl h hc _=>KpE.putObj W l o o' hl h hc) (Below.refl _ _) (fun _=>rfl)
  (fun (pre:List { x // x∈zL n ⟨0,0,0⟩ T }) W=>Bk W (w.heap.size+1+1) #[.int .i64 (zHQ c (pre.map (·.1)))] 3∧KpE (fun k=>k=w.heap.size+1+1) W0.heap.size W0 W)
  (fun _ _ _=>False)
  (OwnFrom.and (zA7 _ (fun (pre:List { x // x∈zL n ⟨0,0,0⟩ T })=>#[.int .i64 (zHQ c (pre.map (·.1)))]) _) zBz)
  (fun _ _ _ _ _ hs _ _=>hs)
  ⟨kn0,KpE.refl _ _ _⟩
  (fun x a' W => ∃ xb,W0.heap.size≤xb∧Bk W xb #[.int .i64 x.1.1.x,.int .i64 x.1.1.y,.int .i64 x.1.1.z,.int .i64 ((x.1.2.1:Int)+2)] 52∧a'={ tmps:=#[.pointer (some ⟨sb,0,none⟩),.int .i64 (idT ts T:Int),.int .i64 ((n:Int)+2),.int .i64 c,.pointer (some ⟨w.heap.size,0,none⟩),undef,undef,.pointer (some ⟨w.heap.size+1,0,none⟩),.int .i64 0,.pointer (some ⟨w.heap.size+1+1,0,none⟩),.pointer (some ⟨xb,0,none⟩),.int .i64 (idT ts x.1.2.2:Int),undef,undef,undef,.pointer (some ⟨sb,0,none⟩),.int .i64 (idT ts T:Int),.int .i64 ((n:Int)+2),.func (.func 118) #[] #[.pointer (some ⟨w.heap.size+1+1+1,0,none⟩),.pointer (some ⟨w.heap.size+1+1+1+1+1,0,none⟩),.pointer (some ⟨w.heap.size+1+1+1+1,0,none⟩)],zH x.1.1.x x.1.1.y x.1.1.z ((x.1.2.1:Int)+2),.int .i64 (idT ts x.1.2.2:Int),undef,undef,undef,undef,undef,undef,undef,undef,undef,undef,undef,undef,undef,undef,undef,undef,undef,undef,undef,undef,undef,undef,undef,undef],defers:=[] })
  (fun x a'=>fun _ X Y row hs hg hr=>by obtain ⟨xb,h1,h2,h3⟩:=hs;exact ⟨xb,h1,zA7 xb (fun (_:Unit)=>#[.int .i64 x.1.1.x,.int .i64 x.1.1.y,.int .i64 x.1.1.z,.int .i64 ((x.1.2.1:Int)+2)]) _ () X Y row h2 hg hr,h3⟩)
  ?assign ?body ?done ?stop
 case assign =>
  rintro l pre x W K ⟨kn1,hk1⟩ hK;have hbA:Below W.heap.size W (W.alloc (.cells #[.int .i64 x.1.1.x,.int .i64 x.1.1.y,.int .i64 x.1.1.z,.int .i64 ((x.1.2.1:Int)+2)] 52)):=(Below.refl _ _).alloc (Nat.le_refl _) _;have HK:=hK _ _ (zAr hbA) (KpE.below hbA) ⟨kn1.later hbA,hk1.trans (KpE.below hbA)⟩ ⟨W.heap.size,hk1.size,zI _ _ _ (by simp),rfl⟩
  replace HK:=Bx.mk HK;clear hK
  gi_wp2
  exact HK.out
 case body =>
  rintro l pre ⟨⟨a,lv,t⟩,hx⟩ a' W hl hr ⟨kn1,hk1⟩ ⟨xb,hxb,kx,rfl⟩ hlt;obtain ⟨ht,hin,htk⟩:=Hlf.out _ hx;simp only [] at ht hin htk kx ⊢;have hle:=hin.le;have hn12:=Hhn.out;have HSW:=Bx.mk (hk1.store HS0.out);have HKd:=Bx.mk (hKd.out t ht W HSW.out);have HCl:=Bx.mk (hCl.out t ht W HSW.out);have s0:=(hk1.bk ks (show ¬(w.heap.size=w.heap.size+1+1) by omega)).cell 0 rfl
  have kcW:=Bx.mk (hk1.bk kc (show ¬(w.heap.size+1=w.heap.size+1+1) by omega))
  have HK1:=Bx.mk hk1;have HX:=Bx.mk kx;have HKN:=Bx.mk kn1;have Hlt:=hl;have Hsum:Bx (zHQ c ((pre++[(⟨(a,lv,t),hx⟩:{ x // x∈zL n ⟨0,0,0⟩ T })]).map (·.1))=wrap64 (((((pre.map (·.1)).map (zKk c)).sum:Nat):Int)+((zKk c (a,lv,t):Nat):Int))):=⟨by rw [List.map_append];exact zKK c _ _⟩
  generalize hP:pre++[(⟨(a,lv,t),hx⟩:{ x // x∈zL n ⟨0,0,0⟩ T })]=P at *;generalize hSS:((((pre.map (·.1)).map (zKk c)).sum:Nat):Int)=SS at *;have Hhyp:Bx (zHQ c (pre.map (·.1))=wrap64 SS):=⟨by unfold zHQ;rw [hSS]⟩
  have hkd1:0≤3 * ((lv:Int)+2):=by omega
  have hkd2:3 * ((lv:Int)+2)≤64:=by omega
  have hbt:=hgb.out t ht;have hxsz:xb<W.heap.size:=kx.lt;clear hKd hCl hSS hP hx ht;rcases htk with ⟨d,rfl⟩ | ⟨rfl,ys,rfl⟩
  · have t0:(zAE (Tr.uni d) == 1)=true:=rfl;have hw3:IntKind.i64.wrap (3 * ((lv:Int)+2))=3 * ((lv:Int)+2):=IntWalk.i64_in _ (by omega)
    have hp8:(8:Nat) ^ (lv+2)≤4398046511104:=Nat.le_trans (Nat.pow_le_pow_right (by decide) (show lv+2≤14 by omega)) (by decide)
    have he:(1:Int) * 2 ^ (3 * ((lv:Int)+2)).toNat=((8 ^ (lv+2):Nat):Int):=by
     have h8:(8:Nat) ^ (lv+2)=2 ^ (3 * (lv+2)):=by rw [Nat.pow_mul]
     rw [show (3 * ((lv:Int)+2)).toNat=3 * (lv+2) by omega,Int.one_mul,h8,Int.natCast_pow]
     rfl
    have hw8:IntKind.i64.wrap ((8 ^ (lv+2):Nat):Int)=((8 ^ (lv+2):Nat):Int):=(fun (q:Nat) (hq:q≤4398046511104)=>IntWalk.i64_in (q:Int) (by omega)) _ hp8
    have hyl:([d]:List Int).length≤64:=by simp
    have hyne:0<([d]:List Int).length:=by simp
    have hcnt:Bx (((zKk c (a,lv,.uni d):Nat):Int)=((([d]:List Int).count c:Nat):Int) * ((8 ^ (lv+2):Nat):Int)):=⟨by
     unfold zKk;rw [List.count_singleton];by_cases h:d=c
     · simp [h]
     · simp [h]⟩
    have k3:=HX.out.cell 3 rfl;have hou:zNT (Tr.uni d)=[d]:=rfl;rw [hou] at HCl;generalize hE8:((8 ^ (lv+2):Nat):Int)=e at *;generalize ([d]:List Int)=ys at *;generalize (idT ts (Tr.uni d):Int)=iX at *;generalize zAE (Tr.uni d)=kT at *;clear hp8 hE8 hou
    gi_wp2_with (first
     | ((try refine ⟨trivial,?_⟩);gi_at_call 24;refine (CallsIn.inRound l (callsIn_wide.2 HKd.out)).mono ?_;rintro _ _ ⟨rfl,rfl⟩)
     | ((try refine ⟨trivial,?_⟩);gi_at_call 46;refine (CallsIn.inRound l (callsIn_wide.2 HCl.out)).mono ?_;rintro _ W2 ⟨v,rfl,hown,hb2⟩;obtain ⟨va,vc,rfl⟩:=zk hown))
    have hnbW:w.heap.size+1+1<W.heap.size:=by have:=HK1.out.size;omega
    obtain ⟨b0,off0,rfl,-⟩:=hown.sl 0 _ (List.getElem?_eq_getElem hyne)
    have HI:Bx (CSt (fun k=>k=w.heap.size+1+1) W0.heap.size (w.heap.size+1+1) W.heap.size c SS e ys (.slice (some ⟨b0,off0,none⟩) ys.length vc) W 0 W2):=⟨⟨Rnd.below hb2,by
     have h:=HKN.out.later hb2;rw [Hhyp.out] at h;simpa using h,hown⟩⟩
    clear hown hb2 HKd HCl s0 HKN HSW
    gi_loopw [33] (fun v33 wr => ∃ j:Nat,j≤ys.length∧v33 = .int .i64 j∧Bx (CSt (fun k=>k=w.heap.size+1+1) W0.heap.size (w.heap.size+1+1) W.heap.size c SS e ys (.slice (some ⟨b0,off0,none⟩) ys.length vc) W j wr)) (fun i _=>ys.length - (intOf i).toNat)
    case atStart=>exact ⟨0,Nat.zero_le _,rfl,HI⟩
    case round =>
     clear HI;obtain ⟨j,hj,rfl,HI⟩:=hrel;by_cases hltj:j<ys.length
     · obtain ⟨x,hx⟩ : ∃ x,ys[j]? = some x:=⟨_,List.getElem?_eq_getElem hltj⟩;have hcx:=zDB HI.out.own hx;have c1:=(HI.out.rnd.kp.bk kcW.out (show ¬(w.heap.size+1=w.heap.size+1+1) by omega)).cell 0 rfl
       have n1:=HI.out.kn.cell 0 rfl;have n2:=HI.out.kn.frozen 0;have t1:decide ((j:Int)<(ys.length:Int))=true:=by simp;omega
       have b1:(0:Int)≤(j:Int):=by omega
       have b2:(j:Int)<(ys.length:Int):=by omega
       by_cases hxc:x=c
       · have t2:(x == c)=true:=by simp [hxc]
         have HJ:=Bx.mk (HI.out.hit (e1:=e) rfl rfl hnbW (hxc ▸ hx));clear hx hxc
         gi_wp2
         go_roundw
         case rel=>exact ⟨j+1,by omega,by go_num,HJ⟩
         case measure=>simp [intOf];omega
       · have t2:(x == c)=false:=by simp [hxc]
         have HJ:=Bx.mk (HI.out.skip hx hxc);clear hx hxc
         gi_wp2
         go_roundw
         case rel=>exact ⟨j+1,by omega,by go_num,HJ⟩
         case measure=>simp [intOf];omega
     · obtain rfl:j=ys.length:=by omega
       have t1:decide ((ys.length:Int)<(ys.length:Int))=false:=by simp
       gi_wp2
       refine ⟨HI.out.rnd.kf,HI.out.rnd.kp,?_,HK1.out.trans HI.out.rnd.kp⟩;have h:=HI.out.kn;rw [List.take_length,←hcnt.out] at h
       show Bk _ _ #[.int .i64 (zHQ c _)] _
       rw [Hsum.out];exact h
  · have t0:(zAE (Tr.brick ys) == 1)=false:=rfl;have hyl:ys.length≤64:=by have:=(hbt.bricks _ rfl).1;omega
    have hyne:0<ys.length:=by have:=(hbt.bricks _ rfl).1;omega
    have hcnt:Bx (((zKk c (a,0,.brick ys):Nat):Int)=((ys.count c:Nat):Int) * 1):=⟨by simp [zKk]⟩
    have hou:zNT (Tr.brick ys)=ys:=rfl;rw [hou] at HCl;generalize (idT ts (Tr.brick ys):Int)=iX at *;generalize zAE (Tr.brick ys)=kT at *;obtain ⟨e,he1⟩ : ∃ e:Int,e=1:=⟨1,rfl⟩;rw [←he1] at hcnt;have HE1:=Bx.mk he1.symm;clear hou hbt he1
    gi_wp2_with (first
     | ((try refine ⟨trivial,?_⟩);gi_at_call 24;refine (CallsIn.inRound l (callsIn_wide.2 HKd.out)).mono ?_;rintro _ _ ⟨rfl,rfl⟩)
     | ((try refine ⟨trivial,?_⟩);gi_at_call 46;refine (CallsIn.inRound l (callsIn_wide.2 HCl.out)).mono ?_;rintro _ W2 ⟨v,rfl,hown,hb2⟩;obtain ⟨va,vc,rfl⟩:=zk hown))
    have hnbW:w.heap.size+1+1<W.heap.size:=by have:=HK1.out.size;omega
    obtain ⟨b0,off0,rfl,-⟩:=hown.sl 0 _ (List.getElem?_eq_getElem hyne)
    have HI:Bx (CSt (fun k=>k=w.heap.size+1+1) W0.heap.size (w.heap.size+1+1) W.heap.size c SS e ys (.slice (some ⟨b0,off0,none⟩) ys.length vc) W 0 W2):=⟨⟨Rnd.below hb2,by
     have h:=HKN.out.later hb2;rw [Hhyp.out] at h;simpa using h,hown⟩⟩
    clear hown hb2 HKd HCl s0 HKN HSW
    gi_loopw [33] (fun v33 wr => ∃ j:Nat,j≤ys.length∧v33 = .int .i64 j∧Bx (CSt (fun k=>k=w.heap.size+1+1) W0.heap.size (w.heap.size+1+1) W.heap.size c SS e ys (.slice (some ⟨b0,off0,none⟩) ys.length vc) W j wr)) (fun i _=>ys.length - (intOf i).toNat)
    case atStart=>exact ⟨0,Nat.zero_le _,rfl,HI⟩
    case round =>
     clear HI;obtain ⟨j,hj,rfl,HI⟩:=hrel;by_cases hltj:j<ys.length
     · obtain ⟨x,hx⟩ : ∃ x,ys[j]? = some x:=⟨_,List.getElem?_eq_getElem hltj⟩;have hcx:=zDB HI.out.own hx;have c1:=(HI.out.rnd.kp.bk kcW.out (show ¬(w.heap.size+1=w.heap.size+1+1) by omega)).cell 0 rfl
       have n1:=HI.out.kn.cell 0 rfl;have n2:=HI.out.kn.frozen 0;have t1:decide ((j:Int)<(ys.length:Int))=true:=by simp;omega
       have b1:(0:Int)≤(j:Int):=by omega
       have b2:(j:Int)<(ys.length:Int):=by omega
       by_cases hxc:x=c
       · have t2:(x == c)=true:=by simp [hxc]
         have HJ:=Bx.mk (HI.out.hit (e1:=1) HE1.out rfl hnbW (hxc ▸ hx));clear hx hxc
         gi_wp2
         go_roundw
         case rel=>exact ⟨j+1,by omega,by go_num,HJ⟩
         case measure=>simp [intOf];omega
       · have t2:(x == c)=false:=by simp [hxc]
         have HJ:=Bx.mk (HI.out.skip hx hxc);clear hx hxc
         gi_wp2
         go_roundw
         case rel=>exact ⟨j+1,by omega,by go_num,HJ⟩
         case measure=>simp [intOf];omega
     · obtain rfl:j=ys.length:=by omega
       have t1:decide ((ys.length:Int)<(ys.length:Int))=false:=by simp
       gi_wp2
       refine ⟨HI.out.rnd.kf,HI.out.rnd.kp,?_,HK1.out.trans HI.out.rnd.kp⟩;have h:=HI.out.kn;rw [List.take_length,←hcnt.out] at h
       show Bk _ _ #[.int .i64 (zHQ c _)] _
       rw [Hsum.out];exact h
 case done =>
  rintro D ys W hD hxs ⟨kn1,hk1⟩ hK;have c1:=kn1.cell 0 rfl;rw [hxs] at c1
  gi_wp2
  refine ⟨by simp,.inl ⟨_,_,rfl,run_takeDeferred hK,?_⟩⟩
  refine ⟨_,results_tmp rfl _ _ _,rfl,?_⟩;have hkf:=hk1.trans (KpE.putObj W D _ (.deferred none) hD hK rfl)
  exact HB0.out.trans ⟨hkf.os,hkf.tape,hkf.output,hkf.size,fun k hk=>by
   have hlt:k<W0.heap.size:=by omega
   have e:W0.heap[k]? = some W0.heap[k]:=Array.getElem?_eq_getElem hlt;rw [e];exact hkf.blk k _ e (show ¬(k=w.heap.size+1+1) by omega) (.inl hlt)⟩
 case stop =>
  rintro D cc pre W _ _ h _;exact h.elim
end
section
open Go.RowKit Go.Sort Go.Maps
open Oct
attribute [local go_sem] Oper.semAt_some
def zGe (b:Box) (cs:List Int) (x:Pt × Nat × Tr):Bool :=
 match x.2.2 with
 | .uni d => !zG (zD (cb x.1 (x.2.1+2)) b) && cs.any (d == ·)
 | .brick l => !zG (zD (cb x.1 (x.2.1+2)) b) && (zM (zD (cb x.1 (x.2.1+2)) b) (zF (cb x.1 (x.2.1+2)) l)).any fun y=>cs.any (y == ·)
 | .node _ _=>false
def SlcR (B:Nat) (ys:List Int) (v:Value) (w:World):Prop := ∃ va vc,v = .slice va ys.length vc∧Own w B 3 .i64 (.slice va ys.length vc) ys
theorem SlcR.firm {B:Nat} {ys:List Int} {v:Value} {w w':World} (h:SlcR B ys v w) (hb:Below w.heap.size w w'):SlcR B ys v w':=by
 obtain ⟨va,vc,e,ho⟩:=h;exact ⟨va,vc,e,ho.below hb⟩
def GrdR (B:Nat) (c0 c1 c2 c3 c4 c5:Int) (ys:List Int) (v:Value) (w:World):Prop := ∃ va vc,v = .agg #[c0,c1,c2,c3,c4,c5,.slice va ys.length vc]∧Own w B 3 .i64 (.slice va ys.length vc) ys
theorem GrdR.firm {B:Nat} {c0 c1 c2 c3 c4 c5:Int} {ys:List Int} {v:Value} {w w':World} (h:GrdR B c0 c1 c2 c3 c4 c5 ys v w) (hb:Below w.heap.size w w'):GrdR B c0 c1 c2 c3 c4 c5 ys v w':=by
 obtain ⟨va,vc,e,ho⟩:=h;exact ⟨va,vc,e,ho.below hb⟩
theorem Bk.put7' {w:World} {g:Nat} {x0 x1 x2 x3 x4 x5 x6:Value} {t:TypeId} (h:Bk w g #[x0,x1,x2,x3,x4,x5,x6] t) (a b c d e f i:Value) :
 Bk (((((((w.setCell ⟨g,0,none⟩ a).setCell ⟨g,1,none⟩ b).setCell ⟨g,2,none⟩ c).setCell ⟨g,3,none⟩ d).setCell ⟨g,4,none⟩ e).setCell ⟨g,5,none⟩ f).setCell ⟨g,6,none⟩ i) g #[a,b,c,d,e,f,i] t:=by
 simpa using ((((((h.set 0 a).set 1 b).set 2 c).set 3 d).set 4 e).set 5 f).set 6 i
theorem zCs {w w1 w2:World} {g:Nat} (hb:Below w.heap.size w w1) (hg:w1.grownBy w2 (some g)) (hge:w.heap.size≤g):Below w.heap.size w w2 :=
 hb.trans ⟨hg.os,hg.tape,hg.output,hg.size,fun k hk=>hg.block k (Nat.lt_of_lt_of_le hk hb.size) (fun e=>by have:=Option.some.inj e;omega)⟩
theorem zGy (most:Int) (ts:List Tr) (hG:Good ts) (hlen:ts.length≤4194304) (sb n:Nat) (hn:n≤12) (T:Tr) (hT:T∈ts) (hDp:Dep n T) (b0 b1 b2 b3 b4 b5:Int) (ca:Option Addr) (cc:Nat) (cs:List Int) (hcl:cs.length≤1000000000) (w:World) (hsl:Sl w .i64 ca cs) (Far:Nat→Prop) (hS:StoreIs w Far sb most ts) :
 Calls Tryz.prog 30 #[.pointer (some ⟨sb,0,none⟩),(idT ts T:Int),.int .i64 ((n:Int)+2),.agg #[b0,b1,b2,b3,b4,b5],.slice ca cs.length cc] w fun e w'=>e = .returned (.bool ((zL n ⟨0,0,0⟩ T).any (zGe ⟨⟨b0,b1,b2⟩,⟨b3,b4,b5⟩⟩ cs)))∧Below w.heap.size w w':=by
 refine (callsIn_wide (n:=5)).1 ?_;refine callsIn_of_wp_marks Tryz.func30 rfl trivial ?_ rfl;generalize hcn:cs.length=cn at *;simp only [Tryz.ntmps30,List.size_toArray,List.length_cons,List.length_nil,Nat.reduceAdd,Nat.reduceSub,Array.replicate_succ,Array.replicate_zero,List.push_toArray,List.append_toArray,List.nil_append,List.cons_append]
 gi_wp2_with ((try refine ⟨trivial,?_⟩);gi_at_call 75;refine (callsIn_wide.2 (zDO _ _ _ _)).mono ?_;rintro _ _ ⟨rfl,rfl⟩)
 generalize hW0:World.alloc (World.alloc (World.alloc (World.alloc (World.alloc (World.alloc _ _) _) _) _) _) _=W0;have hB0:Below w.heap.size w W0:=by rw [←hW0];exact (((((((Below.refl _ _).alloc (Nat.le_refl _) _).alloc (by simp) _).alloc (by simp;omega) _).alloc (by simp;omega) _).alloc (by simp;omega) _).alloc (by simp;omega) _).alloc (by simp;omega) _
 have hsz:W0.heap.size=w.heap.size+7:=by rw [←hW0];simp
 have ks:Bk W0 w.heap.size #[.pointer (some ⟨sb,0,none⟩)] 33:=by rw [←hW0];exact zB (zB (zB (zB (zB (zB (zI _ _ _ (by simp)))))))
 have kb:Bk W0 (w.heap.size+1) #[b0,b1,b2,b3,b4,b5] 25:=by rw [←hW0];exact zB (zB (zB (zB (zB (zI _ _ _ (by simp))))))
 have kc:Bk W0 (w.heap.size+1+1) #[.slice ca cn cc] 26:=by rw [←hW0];exact zB (zB (zB (zB (zI _ _ _ (by simp)))))
 have kn:Bk W0 (w.heap.size+1+1+1) #[.bool false] 4:=by rw [←hW0];exact zB (zB (zB (zI _ _ _ (by simp))))
 have ks2:Bk W0 (w.heap.size+1+1+1+1) #[.pointer (some ⟨sb,0,none⟩)] 33:=bk2 hW0;have ki:Bk W0 (w.heap.size+1+1+1+1+1) #[(idT ts T:Int)] 3:=bk1 hW0;have kd:Bk W0 (w.heap.size+1+1+1+1+1+1) #[.int .i64 ((n:Int)+2)] 3:=bk0 hW0;clear hW0;have hS0:StoreIs W0 (fun k=>k=w.heap.size+1+1+1∨W0.heap.size≤k) sb most ts:=(((hS.less (Far:=fun _=>False) (fun k h=>h.elim)).widen (Far':=fun k=>w.heap.size≤k) (fun k hk=>.inr hk)).later hB0).less (fun k hk=>by rcases hk with rfl | hk <;> omega)
 have hlf:=zEL ts hG n n ⟨0,0,0⟩ T (InT.top n) hDp hT;have hseq:=zC0 (fun k=>k=w.heap.size+1+1+1) W0.heap.size (w.heap.size+1+1+1+1) (w.heap.size+1+1+1+1+1+1) (w.heap.size+1+1+1+1+1) sb n hn most ts hG hlen T hT hDp (5 - 1) W0 ks2 kd ki hS0 (by omega) (by omega) (Nat.le_refl _)
 have hCl:=Bx.mk fun t ht W (h:StoreIs W (fun k=>k=w.heap.size+1+1+1∨W0.heap.size≤k) sb most ts)=>zAt W _ sb most ts t ht hG (by omega) h
 have hgb:=Bx.mk hG.bytes;clear hT hDp hlen hG hS ks2 kd ki;have Hhn:=Bx.mk hn;have HS0:=Bx.mk hS0;have Hlf:=Bx.mk hlf;have HB0:=Bx.mk hB0;have HSL:=Bx.mk hsl;have HCL:=Bx.mk hcl;have HCN:=Bx.mk hcn;clear hn hS0 hlf hB0 hsl hcl hcn
 refine wpIn_rangeFunc_ownH rfl (by decide) (gf:=118) (lb:=#[.pointer (some ⟨w.heap.size+1+1+1+1,0,none⟩),.pointer (some ⟨w.heap.size+1+1+1+1+1+1,0,none⟩),.pointer (some ⟨w.heap.size+1+1+1+1+1,0,none⟩)]) rfl trivial (enters_of Tryz.func118 (by kernel_rfl) rfl)
  hseq KpE.trans (fun W l o o' hl h hc _=>KpE.putObj W l o o' hl h hc) (Below.refl _ _) (fun _=>rfl)
  (fun (pre:List { x // x∈zL n ⟨0,0,0⟩ T }) W=>(Bk W (w.heap.size+1+1+1) #[.bool false] 4∧KpE (fun k=>k=w.heap.size+1+1+1) W0.heap.size W0 W)∧(pre.map (·.1)).any (zGe ⟨⟨b0,b1,b2⟩,⟨b3,b4,b5⟩⟩ cs)=false)
  (fun c (pre:List { x // x∈zL n ⟨0,0,0⟩ T }) W=>(Bk W (w.heap.size+1+1+1) #[.bool true] 4∧KpE (fun k=>k=w.heap.size+1+1+1) W0.heap.size W0 W)∧(c = .ret∧(pre.map (·.1)).any (zGe ⟨⟨b0,b1,b2⟩,⟨b3,b4,b5⟩⟩ cs)=true))
  (OwnFrom.and (OwnFrom.and (zA7 _ (fun (_:List { x // x∈zL n ⟨0,0,0⟩ T })=>#[.bool false]) _) zBz) (ownFrom_pure _ _))
  (fun c=>OwnFrom.and (OwnFrom.and (zA7 _ (fun (_:List { x // x∈zL n ⟨0,0,0⟩ T })=>#[.bool true]) _) zBz) (ownFrom_pure _ _))
  ⟨⟨kn,KpE.refl _ _ _⟩,rfl⟩
  (fun x a' W => ∃ xb,W0.heap.size≤xb∧Bk W xb #[.int .i64 x.1.1.x,.int .i64 x.1.1.y,.int .i64 x.1.1.z,.int .i64 ((x.1.2.1:Int)+2)] 52∧a'={ tmps:=#[.pointer (some ⟨sb,0,none⟩),.int .i64 (idT ts T:Int),.int .i64 ((n:Int)+2),.agg #[.int .i64 b0,.int .i64 b1,.int .i64 b2,.int .i64 b3,.int .i64 b4,.int .i64 b5],.slice ca cn cc,.pointer (some ⟨w.heap.size,0,none⟩),undef,undef,.pointer (some ⟨w.heap.size+1,0,none⟩),.pointer (some ⟨w.heap.size+1+1,0,none⟩),.pointer (some ⟨w.heap.size+1+1+1,0,none⟩),.pointer (some ⟨xb,0,none⟩),.int .i64 (idT ts x.1.2.2:Int),undef,undef,.pointer (some ⟨sb,0,none⟩),.int .i64 (idT ts T:Int),.int .i64 ((n:Int)+2),.func (.func 118) #[] #[.pointer (some ⟨w.heap.size+1+1+1+1,0,none⟩),.pointer (some ⟨w.heap.size+1+1+1+1+1+1,0,none⟩),.pointer (some ⟨w.heap.size+1+1+1+1+1,0,none⟩)],zH x.1.1.x x.1.1.y x.1.1.z ((x.1.2.1:Int)+2),.int .i64 (idT ts x.1.2.2:Int),undef,undef,undef,undef,undef,undef,undef,undef,undef,undef,undef,undef,undef,undef,undef,undef,undef,undef,undef,undef,undef,undef,undef,undef,undef,undef],defers:=[] })
  (fun x a'=>fun _ X Y row hs hg hr=>by obtain ⟨xb,h1,h2,h3⟩:=hs;exact ⟨xb,h1,zA7 xb (fun (_:Unit)=>#[.int .i64 x.1.1.x,.int .i64 x.1.1.y,.int .i64 x.1.1.z,.int .i64 ((x.1.2.1:Int)+2)]) _ () X Y row h2 hg hr,h3⟩)
  ?assign ?body ?done ?stop
 case assign =>
  rintro l pre x W K ⟨⟨kn1,hk1⟩,hno⟩ hK;have hbA:Below W.heap.size W (W.alloc (.cells #[.int .i64 x.1.1.x,.int .i64 x.1.1.y,.int .i64 x.1.1.z,.int .i64 ((x.1.2.1:Int)+2)] 52)):=(Below.refl _ _).alloc (Nat.le_refl _) _;have HK:=hK _ _ (zAr hbA) (KpE.below hbA) ⟨⟨kn1.later hbA,hk1.trans (KpE.below hbA)⟩,hno⟩ ⟨W.heap.size,hk1.size,zI _ _ _ (by simp),rfl⟩
  replace HK:=Bx.mk HK;clear hK
  gi_wp2
  exact HK.out
 case done =>
  rintro D ys W hD hxs ⟨⟨kn1,hk1⟩,hno⟩ hK;rw [hxs] at hno;have hK2:=(KeepsOthers.setCell W ⟨w.heap.size+1+1+1,0,none⟩ (.bool false)).same D _ hK rfl;have hkf:=Bx.mk (hk1.trans (((Rnd.set (E:=fun k=>k=w.heap.size+1+1+1) (n₀:=W0.heap.size) W (w.heap.size+1+1+1) (.bool false) rfl).kp).trans (KpE.putObj (W.setCell ⟨w.heap.size+1+1+1,0,none⟩ (.bool false)) D _ (.deferred none) hD hK2 rfl)));have c1:=kn1.cell 0 rfl;have f1:=kn1.frozen 0;have hc5:=cell_kept ((Bk.put1 kn1 (.bool false)).cell 0 rfl) (grownBy_putObj' _ D (.deferred none)) (fun r e=>by cases e;exact ⟨_,hK2,rfl⟩)
  have HC5:=Bx.mk hc5;have HNO:=Bx.mk hno;clear hno hc5
  gi_wp2
  refine ⟨by simp,.inl ⟨_,_,rfl,run_takeDeferred hK2,?_⟩⟩
  have hc5:=HC5.out;refine ⟨.bool false,?_,by rw [HNO.out],?_⟩
  · simp [results,Tryz.f30,go_sem,hc5]
  · exact HB0.out.trans ⟨hkf.out.os,hkf.out.tape,hkf.out.output,hkf.out.size,fun k hk=>by
     have hlt:k<W0.heap.size:=by omega
     have e:W0.heap[k]? = some W0.heap[k]:=Array.getElem?_eq_getElem hlt;rw [e];exact hkf.out.blk k _ e (show ¬(k=w.heap.size+1+1+1) by omega) (.inl hlt)⟩
 case stop =>
  rintro D cc' pre W hD hsp ⟨⟨kn1,hk1⟩,rfl,hyes⟩ hK;have hkf:=Bx.mk (hk1.trans (KpE.putObj W D _ (.deferred none) hD hK rfl));have hc5:=cell_kept (kn1.cell 0 rfl) (grownBy_putObj' _ D (.deferred none)) (fun r e=>by cases e;exact ⟨_,hK,rfl⟩)
  have HC5:=Bx.mk hc5
  have HNO:Bx ((zL n ⟨0,0,0⟩ T).any (zGe ⟨⟨b0,b1,b2⟩,⟨b3,b4,b5⟩⟩ cs)=true):=⟨by
   obtain ⟨x,hx,hx2⟩:=List.any_eq_true.1 hyes;exact List.any_eq_true.2 ⟨x,hsp.subset hx,hx2⟩⟩
  clear hyes hc5
  gi_wp2
  refine ⟨by simp,.inl ⟨_,_,rfl,run_takeDeferred hK,?_⟩⟩
  have hc5:=HC5.out;refine ⟨.bool true,?_,by rw [HNO.out],?_⟩
  · simp [results,Tryz.f30,go_sem,hc5]
  · exact HB0.out.trans ⟨hkf.out.os,hkf.out.tape,hkf.out.output,hkf.out.size,fun k hk=>by
     have hlt:k<W0.heap.size:=by omega
     have e:W0.heap[k]? = some W0.heap[k]:=Array.getElem?_eq_getElem hlt;rw [e];exact hkf.out.blk k _ e (show ¬(k=w.heap.size+1+1+1) by omega) (.inl hlt)⟩
 case body =>
  rintro l pre ⟨⟨a,lv,t⟩,hx⟩ a' W hl hr ⟨⟨kn1,hk1⟩,hno⟩ ⟨xb,hxb,kx,rfl⟩ hlt;obtain ⟨ht,hin,htk⟩:=Hlf.out _ hx;simp only [] at ht hin htk kx ⊢;have hle:=hin.le;have hn12:=Hhn.out;obtain ⟨x1,x2,x3⟩:=hin.far hn12;have HBD:=Bx.mk (hin.bd hn12);have HSW:=Bx.mk (hk1.store HS0.out);have hbt:=hgb.out t ht;have KS:=Bx.mk (hk1.bk ks (show ¬(w.heap.size=w.heap.size+1+1+1) by omega))
  have KBX:=Bx.mk (hk1.bk kb (show ¬(w.heap.size+1=w.heap.size+1+1+1) by omega))
  have KCS:=Bx.mk (hk1.bk kc (show ¬(w.heap.size+1+1=w.heap.size+1+1+1) by omega))
  have HK1:=Bx.mk hk1;have KX:=Bx.mk kx
  have HBW:Bx (Below w.heap.size w W):=⟨HB0.out.trans ⟨hk1.os,hk1.tape,hk1.output,hk1.size,fun k hk=>by
   have hlt:k<W0.heap.size:=by omega
   have e:W0.heap[k]? = some W0.heap[k]:=Array.getElem?_eq_getElem hlt;rw [e];exact hk1.blk k _ e (show ¬(k=w.heap.size+1+1+1) by omega) (.inl hlt)⟩⟩
  have HKN:=Bx.mk kn1;have Hany:Bx (∀ v:Bool,zGe ⟨⟨b0,b1,b2⟩,⟨b3,b4,b5⟩⟩ cs (a,lv,t)=v→((pre++[(⟨(a,lv,t),hx⟩:{ x // x∈zL n ⟨0,0,0⟩ T })]).map (·.1)).any (zGe ⟨⟨b0,b1,b2⟩,⟨b3,b4,b5⟩⟩ cs)=v):=⟨fun v hv=>by rw [List.map_append,List.any_append,hno];simp [hv]⟩
  generalize hP:pre++[(⟨(a,lv,t),hx⟩:{ x // x∈zL n ⟨0,0,0⟩ T })]=P at *;have HCl:=Bx.mk fun W' (hb:Below W.heap.size W W')=>hCl.out t ht W' (HSW.out.later hb);have hbox:=Bx.mk fun W'=>zBe (lv+2) (by omega) a.x a.y a.z _ rfl x1 x2 x3 W'
  have hbox2:((lv+2:Nat):Int)=(lv:Int)+2:=by omega
  rw [hbox2] at hbox;have hMM:Bx (zD ⟨⟨a.x,a.y,a.z⟩,⟨a.x+2 ^ (lv+2),a.y+2 ^ (lv+2),a.z+2 ^ (lv+2)⟩⟩ ⟨⟨b0,b1,b2⟩,⟨b3,b4,b5⟩⟩=zD (cb a (lv+2)) ⟨⟨b0,b1,b2⟩,⟨b3,b4,b5⟩⟩):=⟨rfl⟩;have hint:=Bx.mk fun W'=>zA1 a.x a.y a.z (a.x+2 ^ (lv+2)) (a.y+2 ^ (lv+2)) (a.z+2 ^ (lv+2)) b0 b1 b2 b3 b4 b5 W';rw [hMM.out] at hint;generalize hM:zD (cb a (lv+2)) ⟨⟨b0,b1,b2⟩,⟨b3,b4,b5⟩⟩=M at *;obtain ⟨⟨m0,m1,m2⟩,⟨m3,m4,m5⟩⟩:=M;have HMM:=Bx.mk hM;simp only [] at hint;generalize hpw:(2:Int) ^ (lv+2)=pw at *;have HPW:=Bx.mk hpw;have hemp:=Bx.mk fun W'=>zj m0 m1 m2 m3 m4 m5 W';generalize hout:zNT t=ys at *;have HOUT:=Bx.mk hout;clear hCl hP hx ht hno hM hpw hbox2 hMM hout kn1 hk1 kx hin
  gi_upto_region 4 with fail
  refine zBO l _ 5 (fun i v w'=>match i with
   | 0=>v=zH a.x a.y a.z ((lv:Int)+2)
   | 1=>v = .agg #[a.x,a.y,a.z,.int .i64 (a.x+pw),.int .i64 (a.y+pw),.int .i64 (a.z+pw)]
   | 2=>v = .agg #[b0,b1,b2,b3,b4,b5]
   | 3=>v = .agg #[m0,m1,m2,m3,m4,m5]
   | _ => ∃ g,v = .pointer (some ⟨g,0,none⟩)∧W.heap.size≤g∧Bk w' g #[(0:Int),(0:Int),(0:Int),(0:Int),(0:Int),(0:Int)] 25) (by kernel_rfl) (by kernel_rfl) (by kernel_rfl) (by rintro ⟨_,_,h⟩;exact h) 47 (by kernel_rfl) (by rfl) ?_ ?_ ?_
  · intro i hi v u1 u2 hb h
    match i,hi with
    | 0,_=>exact h
    | 1,_=>exact h
    | 2,_=>exact h
    | 3,_=>exact h
    | 4,_=>obtain ⟨g2,h1,h2,h3⟩:=h;exact ⟨g2,h1,h2,h3.later hb⟩
  · intro i o hi ho ρ w1 hb hc1 hc2 hc3 hk
    match i,hi with
    | 0, _ =>
      obtain rfl:=Option.some.inj ho;have g0:ρ (.tmp 11) = .pointer (some ⟨xb,0,none⟩):=hk 11 (by simp [Op.operands,Call.operands])
      have k1:=KX.out.later hb;obtain ⟨z0,z1,z2,z3⟩:=k1.c4;clear hk hb hbox hint hemp HCl KS KBX KCS KX HKN HK1 HSW Hany HS0;go_simp;exact Below.refl _ _
    | 1, _ =>
      obtain rfl:=Option.some.inj ho;have g0:ρ (.tmp 21)=zH a.x a.y a.z ((lv:Int)+2):=hk 21 (by simp [Op.operands,Call.operands])
      have h4:=hbox.out w1;have H4:=Bx.mk h4;clear h4;clear hk hb hbox hint hemp HCl KS KBX KCS KX HKN HK1 HSW Hany HS0;go_simp
      all_goals exact H4.out
    | 2, _ =>
      obtain rfl:=Option.some.inj ho;have g0:ρ (.tmp 8) = .pointer (some ⟨w.heap.size+1,0,none⟩):=hk 8 (by simp [Op.operands,Call.operands])
      have k1:=KBX.out.later hb;obtain ⟨z0,z1,z2,z3,z4,z5⟩:=k1.c6;clear hk hb hbox hint hemp HCl KS KBX KCS KX HKN HK1 HSW Hany HS0;go_simp;exact Below.refl _ _
    | 3, _ =>
      obtain rfl:=Option.some.inj ho;have g0:ρ (.tmp 22) = .agg #[a.x,a.y,a.z,.int .i64 (a.x+pw),.int .i64 (a.y+pw),.int .i64 (a.z+pw)]:=hk 22 (by simp [Op.operands,Call.operands])
      have g1:ρ (.tmp 23) = .agg #[b0,b1,b2,b3,b4,b5]:=hk 23 (by simp [Op.operands,Call.operands])
      have h4:=hint.out w1;have H4:=Bx.mk h4;clear h4;clear hk hb hbox hint hemp HCl KS KBX KCS KX HKN HK1 HSW Hany HS0;go_simp
      all_goals exact H4.out
    | 4, _ =>
      obtain rfl:=Option.some.inj ho;have hbs:=hb.size;have Hn:=Bx.mk (show Bk (w1.alloc (.cells #[(0:Int),(0:Int),(0:Int),(0:Int),(0:Int),(0:Int)] 25)) w1.heap.size #[(0:Int),(0:Int),(0:Int),(0:Int),(0:Int),(0:Int)] 25 from Bk.new _ _ _);clear hk hb hbox hint hemp HCl KS KBX KCS KX HKN HK1 HSW Hany HS0;go_simp;exact ⟨(Below.refl _ _).alloc (Nat.le_refl _) _,Hn.out⟩
  · intro vs W1 hlen hb hR
    match vs,hlen with
    | [v0, v1, v2, v3, v4], _ =>
      have r0:v0=zH a.x a.y a.z ((lv:Int)+2):=hR 0 v0 rfl;have r1:v1 = .agg #[a.x,a.y,a.z,.int .i64 (a.x+pw),.int .i64 (a.y+pw),.int .i64 (a.z+pw)]:=hR 1 v1 rfl;have r2:v2 = .agg #[b0,b1,b2,b3,b4,b5]:=hR 2 v2 rfl;have r3:v3 = .agg #[m0,m1,m2,m3,m4,m5]:=hR 3 v3 rfl;obtain ⟨g,r4,hg1,kg⟩:=hR 4 v4 rfl;clear hR;subst r0 r1 r2 r3 r4;have HB:=Bx.mk hb;have KG:=Bx.mk kg;obtain ⟨c0,c1,c2,c3,c4,c5⟩:=kg.c6;obtain ⟨f0,f1,f2,f3,f4,f5⟩:=kg.f6;clear hb kg;simp only [zAk,List.take_succ_cons,List.take_zero,List.drop_succ_cons,List.drop_zero,List.map_cons,List.map_nil,List.zip_cons_cons,List.zip_nil_right,List.foldl_cons,List.foldl_nil];go_wp2_with fail;generalize hW2:World.setCell (World.setCell (World.setCell (World.setCell (World.setCell (World.setCell W1 _ _) _ _) _ _) _ _) _ _) _ _=W2
      have hb2:Below W.heap.size W W2:=by
       rw [←hW2];exact zCs HB.out (zC (zC (zC (zC (zC (zC (World.grownBy.refl _ _) _ _) _ _) _ _) _ _) _ _) _ _) hg1
      have kg2:Bk W2 g #[m0,m1,m2,m3,m4,m5] 25:=by rw [←hW2];exact KG.out.put6 _ _ _ _ _ _
      have HB2:=Bx.mk hb2;have KG2:=Bx.mk kg2;obtain ⟨z0,z1,z2,z3,z4,z5⟩:=kg2.c6;clear hW2 hb2 kg2 c0 c1 c2 c3 c4 c5 f0 f1 f2 f3 f4 f5 HB KG;cases hE:zG ⟨⟨m0,m1,m2⟩,⟨m3,m4,m5⟩⟩ with
      | true =>
        rw [hE] at hemp
        have hW:Bx (zGe ⟨⟨b0,b1,b2⟩,⟨b3,b4,b5⟩⟩ cs (a,lv,t)=false):=⟨by
         rcases htk with ⟨d,rfl⟩ | ⟨rfl,l',rfl⟩
         · unfold zGe;simp only [];rw [HMM.out,hE];rfl
         · unfold zGe;simp only [];rw [HMM.out,hE];rfl⟩
        clear hE htk
        gi_wp2_with ((try refine ⟨trivial,?_⟩);gi_at_call 77;refine (CallsIn.inRound l (callsIn_wide.2 (hemp.out _))).mono ?_;rintro _ W3 ⟨rfl,hb3⟩)
        have hR3:Rnd (fun k=>k=w.heap.size+1+1+1) W0.heap.size W W3:=(Rnd.below HB2.out).trans (Rnd.below hb3);exact ⟨hR3.kf,hR3.kp,⟨(HKN.out.later HB2.out).later hb3,HK1.out.trans hR3.kp⟩,Hany.out _ hW.out⟩
      | false =>
        rw [hE] at hemp
        gi_upto_region 6 with ((try refine ⟨trivial,?_⟩);gi_at_call 77;refine (CallsIn.inRound l (callsIn_wide.2 (hemp.out _))).mono ?_;rintro _ W3 ⟨rfl,hb3⟩)
        have hb23:=HB2.out.trans (hb3.mono HB2.out.size);have KX3:=Bx.mk (KX.out.later hb23);have KS3:=Bx.mk (KS.out.later hb23);have KBX3:=Bx.mk (KBX.out.later hb23);have KCS3:=Bx.mk (KCS.out.later hb23);have KG3:=Bx.mk (KG2.out.later hb3);have HB3:=Bx.mk hb23;have hCel:=Bx.mk fun W' (hb:Below W3.heap.size W3 W')=>HCl.out W' (hb23.trans (hb.mono hb23.size));have HE:=Bx.mk hE;have h23:=hb23.size;generalize hiX:(idT ts t:Int)=iX at *;clear hb3 hb23 z0 z1 z2 z3 z4 z5 HCl KX KS KBX KG2 hE hiX
        refine zBO l _ 7 (fun i v w'=>match i with
         | 0=>v=zH a.x a.y a.z ((lv:Int)+2)
         | 1=>v = .agg #[a.x,a.y,a.z,.int .i64 (a.x+pw),.int .i64 (a.y+pw),.int .i64 (a.z+pw)]
         | 2=>v = .pointer (some ⟨sb,0,none⟩)
         | 3=>v = .int .i64 iX
         | 4=>SlcR W3.heap.size ys v w'
         | 5=>GrdR W3.heap.size (a.x) (a.y) (a.z) (a.x+pw) (a.y+pw) (a.z+pw) ys v w'
         | _ => ∃ g,v = .pointer (some ⟨g,0,none⟩)∧W3.heap.size≤g∧Bk w' g #[(0:Int),(0:Int),(0:Int),(0:Int),(0:Int),(0:Int),.slice none 0 0] 28) (by kernel_rfl) (by kernel_rfl) (by kernel_rfl) (by rintro ⟨_,_,h⟩;exact h) 47 (by kernel_rfl) (by rfl) ?_ ?_ ?_
        · intro i hi v u1 u2 hb h
          match i,hi with
          | 0,_=>exact h
          | 1,_=>exact h
          | 2,_=>exact h
          | 3,_=>exact h
          | 4,_=>exact h.firm hb
          | 5,_=>exact h.firm hb
          | 6,_=>obtain ⟨g2,h1,h2,h3⟩:=h;exact ⟨g2,h1,h2,h3.later hb⟩
        · intro i o hi ho ρ w1 hb hc1 hc2 hc3 hk
          match i,hi with
          | 0, _ =>
            obtain rfl:=Option.some.inj ho;have g0:ρ (.tmp 11) = .pointer (some ⟨xb,0,none⟩):=hk 11 (by simp [Op.operands,Call.operands])
            have k1:=KX3.out.later hb;obtain ⟨z0,z1,z2,z3⟩:=k1.c4;clear hk hb hbox hint hemp hCel KS3 KBX3 KCS3 KX3 HKN HK1 HSW Hany HS0 KG3 HB2 KCS;go_simp;exact Below.refl _ _
          | 1, _ =>
            obtain rfl:=Option.some.inj ho;have g0:ρ (.tmp 27)=zH a.x a.y a.z ((lv:Int)+2):=hk 27 (by simp [Op.operands,Call.operands])
            have h4:=hbox.out w1;have H4:=Bx.mk h4;clear h4;clear hk hb hbox hint hemp hCel KS3 KBX3 KCS3 KX3 HKN HK1 HSW Hany HS0 KG3 HB2 KCS;go_simp
            all_goals exact H4.out
          | 2, _ =>
            obtain rfl:=Option.some.inj ho;have g0:ρ (.tmp 5) = .pointer (some ⟨w.heap.size,0,none⟩):=hk 5 (by simp [Op.operands,Call.operands])
            have k1:=KS3.out.later hb;have z0:=k1.cell 0 rfl;clear hk hb hbox hint hemp hCel KS3 KBX3 KCS3 KX3 HKN HK1 HSW Hany HS0 KG3 HB2 KCS;go_simp;exact Below.refl _ _
          | 3, _ =>
            obtain rfl:=Option.some.inj ho;have g0:ρ (.tmp 12) = .int .i64 iX:=hk 12 (by simp [Op.operands,Call.operands])
            clear hk hb hbox hint hemp hCel KS3 KBX3 KCS3 KX3 HKN HK1 HSW Hany HS0 KG3 HB2 KCS;go_simp;exact Below.refl _ _
          | 4, _ =>
            obtain rfl:=Option.some.inj ho;have g0:ρ (.tmp 29) = .pointer (some ⟨sb,0,none⟩):=hk 29 (by simp [Op.operands,Call.operands])
            have g1:ρ (.tmp 30) = .int .i64 iX:=hk 30 (by simp [Op.operands,Call.operands])
            have h4:=hCel.out w1 hb;have H4:=Bx.mk h4;clear h4;have hb3s:=hb.size;clear hk hb hbox hint hemp hCel KS3 KBX3 KCS3 KX3 HKN HK1 HSW Hany HS0 KG3 HB2 KCS;go_simp
            all_goals (refine H4.out.mono ?_;rintro e w9 ⟨v9,rfl,ho,hb9⟩;obtain ⟨va,vc,rfl⟩:=zk ho;exact ⟨_,rfl,hb9,va,vc,rfl,ho.base hb3s⟩)
          | 5, _ =>
            obtain rfl:=Option.some.inj ho;have g0:ρ (.tmp 28) = .agg #[a.x,a.y,a.z,.int .i64 (a.x+pw),.int .i64 (a.y+pw),.int .i64 (a.z+pw)]:=hk 28 (by simp [Op.operands,Call.operands])
            have k31:SlcR W3.heap.size ys (ρ (.tmp 31)) w1:=hk 31 (by simp [Op.operands,Call.operands])
            obtain ⟨va,vc,g31,ho⟩:=k31;have HO:=Bx.mk ho;clear ho;clear hk hb hbox hint hemp hCel KS3 KBX3 KCS3 KX3 HKN HK1 HSW Hany HS0 KG3 HB2 KCS;go_simp;exact ⟨Below.refl _ _,va,vc,rfl,HO.out⟩
          | 6, _ =>
            obtain rfl:=Option.some.inj ho;have hbs:=hb.size;have Hn:=Bx.mk (show Bk (w1.alloc (.cells #[(0:Int),(0:Int),(0:Int),(0:Int),(0:Int),(0:Int),.slice none 0 0] 28)) w1.heap.size #[(0:Int),(0:Int),(0:Int),(0:Int),(0:Int),(0:Int),.slice none 0 0] 28 from Bk.new _ _ _);clear hk hb hbox hint hemp hCel KS3 KBX3 KCS3 KX3 HKN HK1 HSW Hany HS0 KG3 HB2 KCS;go_simp;exact ⟨(Below.refl _ _).alloc (Nat.le_refl _) _,Hn.out⟩
        · intro vs W4 hlen hb hR
          match vs,hlen with
          | [v0, v1, v2, v3, v4, v5, v6], _ =>
            have r0:v0=zH a.x a.y a.z ((lv:Int)+2):=hR 0 v0 rfl;have r1:v1 = .agg #[a.x,a.y,a.z,.int .i64 (a.x+pw),.int .i64 (a.y+pw),.int .i64 (a.z+pw)]:=hR 1 v1 rfl;have r2:v2 = .pointer (some ⟨sb,0,none⟩):=hR 2 v2 rfl;have r3:v3 = .int .i64 iX:=hR 3 v3 rfl;obtain ⟨va,vc,r5,ho⟩:=hR 5 v5 rfl;obtain ⟨g',r6,hg6,kg⟩:=hR 6 v6 rfl;clear hR;subst r0 r1 r2 r3 r5 r6;have HB:=Bx.mk hb;have KG:=Bx.mk kg;have HO:=Bx.mk ho;obtain ⟨c0,c1,c2,c3,c4,c5,c6⟩:=kg.c7;obtain ⟨f0,f1,f2,f3,f4,f5,f6⟩:=kg.f7;clear hb kg ho;simp only [zAk,List.take_succ_cons,List.take_zero,List.drop_succ_cons,List.drop_zero,List.map_cons,List.map_nil,List.zip_cons_cons,List.zip_nil_right,List.foldl_cons,List.foldl_nil];go_wp2_with fail;generalize hW5:World.setCell (World.setCell (World.setCell (World.setCell (World.setCell (World.setCell (World.setCell W4 _ _) _ _) _ _) _ _) _ _) _ _) _ _=W5;have hgr:W4.grownBy W5 (some g'):=by rw [←hW5];exact (zC (zC (zC (zC (zC (zC (zC (World.grownBy.refl _ _) _ _) _ _) _ _) _ _) _ _) _ _) _ _)
            have kg5:Bk W5 g' #[a.x,a.y,a.z,.int .i64 (a.x+pw),.int .i64 (a.y+pw),.int .i64 (a.z+pw),.slice va ys.length vc] 28:=by rw [←hW5];exact KG.out.put7' _ _ _ _ _ _ _
            have hb35:Below W3.heap.size W3 W5:=zCs HB.out hgr hg6;have ho5:=HO.out.grown hgr (.inr (zFV HO.out KG.out (by decide)))
            have hb5:=HB3.out.trans (hb35.mono h23);have HB5:=Bx.mk hb5;have HN5:=Bx.mk (HKN.out.later hb5);have HR5:Bx (Rnd (fun k=>k=w.heap.size+1+1+1) W0.heap.size W W5):=⟨Rnd.below hb5⟩;have KG5:=Bx.mk kg5;have KM5:=Bx.mk (KG3.out.later hb35);have KC5:=Bx.mk (KCS3.out.later hb35);have HO5:=Bx.mk ho5;have y6:=kg5.cell 6 rfl;have n5:=HN5.out.cell 0 rfl;have nf5:=HN5.out.frozen 0;have hclo:Bx (∀ (W':World),Below W5.heap.size W5 W' → ∀ x:Int,Calls Tryz.prog 80 #[x,.pointer (some ⟨w.heap.size+1+1,0,none⟩)] W' fun e w'=>e = .returned (.bool (cs.any (x == ·)))∧W'=w'):=⟨fun W' hb' x=>zHK (w.heap.size+1+1) ca cc cs x W' (by have h1:=HCL.out;have h2:=HCN.out;omega) (HSL.out.below ((HBW.out.trans (hb5.mono HBW.out.size)).trans (hb'.mono (Nat.le_trans HBW.out.size hb5.size)))) (by rw [HCN.out];exact KC5.out.later hb')⟩
            have HB2W:Bx (W.heap.size≤W3.heap.size):=⟨h23⟩;have hg6':=hg6;have HKN2:=HKN;clear hW5 hgr kg5 hb35 ho5 HB HO KG KG3 KCS3 KX3 KS3 KBX3 hCel HB3 HB2 c0 c1 c2 c3 c4 c5 c6 f0 f1 f2 f3 f4 f5 f6 hg6 h23 hemp hint hbox HKN;rcases htk with ⟨d,rfl⟩ | ⟨rfl,l',rfl⟩
            · have hy1:ys=[d]:=HOUT.out.symm;have t7:decide ((1:Int)<(ys.length:Int))=false:=by rw [hy1];rfl
              have HCF:=Bx.mk (zCL (w.heap.size+1+1) (fun y=>cs.any (y == ·)) va vc ys W5 (by rw [hy1];simp) HO5.out.sl (hclo.out W5 (Below.refl _ _)))
              have HWX:Bx (zGe ⟨⟨b0,b1,b2⟩,⟨b3,b4,b5⟩⟩ cs (a,lv,.uni d)=ys.any (fun y=>cs.any (y == ·))):=⟨by unfold zGe;simp only [];rw [HMM.out,HE.out,hy1];simp⟩
              generalize hzs:ys=zs at *;clear hy1 hclo hbt hzs;cases hans:zs.any (fun y=>cs.any (y == ·)) with
              | true =>
                rw [hans] at HCF HWX;clear hans
                gi_wp2_with ((try refine ⟨trivial,?_⟩);gi_at_call 79;refine (CallsIn.inRound l (callsIn_wide.2 HCF.out)).mono ?_;rintro _ _ ⟨rfl,rfl⟩)
                exact ⟨(HR5.out.trans (Rnd.set _ _ _ rfl)).kf,⟨⟨Bk.put1 HN5.out _,HK1.out.trans (HR5.out.trans (Rnd.set _ _ _ rfl)).kp⟩,rfl,Hany.out _ HWX.out⟩⟩
              | false =>
                rw [hans] at HCF HWX;clear hans
                gi_wp2_with ((try refine ⟨trivial,?_⟩);gi_at_call 79;refine (CallsIn.inRound l (callsIn_wide.2 HCF.out)).mono ?_;rintro _ _ ⟨rfl,rfl⟩)
                exact ⟨HR5.out.kf,HR5.out.kp,⟨HN5.out,HK1.out.trans HR5.out.kp⟩,Hany.out _ HWX.out⟩
            · have hy1:ys=l':=HOUT.out.symm;have hyl:ys.length=64:=by rw [hy1];exact (hbt.bricks _ rfl).1
              have t7:decide ((1:Int)<(ys.length:Int))=true:=by rw [hyl];rfl
              obtain ⟨hbd1,hbd2,hbd3⟩:=HBD.out;have hcf:=zIc (b:=⟨⟨b0,b1,b2⟩,⟨b3,b4,b5⟩⟩) hbd1 hbd2 hbd3 (by rw [show cb a 2=cb a (0+2) from rfl,HMM.out];exact HE.out)
              rw [show cb a 2=cb a (0+2) from rfl,HMM.out] at hcf;obtain ⟨hne,hv1,hv2⟩:=hcf;have hpw4:pw=4:=by rw [←HPW.out];rfl
              have hcb:cb a (0+2)=⟨⟨a.x,a.y,a.z⟩,⟨a.x+pw,a.y+pw,a.z+pw⟩⟩:=by rw [←HPW.out];rfl
              have hSB:Small ⟨⟨a.x,a.y,a.z⟩,⟨a.x+pw,a.y+pw,a.z+pw⟩⟩ 1048575:=⟨by simp only [];omega,by simp only [];omega,by simp only [];omega,by simp only [];omega,by simp only [];omega,by simp only [];omega⟩
              have hv64:zU ⟨⟨a.x,a.y,a.z⟩,⟨a.x+pw,a.y+pw,a.z+pw⟩⟩=64:=by
               unfold zU;rw [zc (za.2 ⟨by simp only [];omega,by simp only [];omega,by simp only [];omega⟩)]
               simp only [Pt.sub];rw [show a.x+pw - a.x=4 by omega,show a.y+pw - a.y=4 by omega,show a.z+pw - a.z=4 by omega]
               rfl
              have HCR:=Bx.mk (zFv m0 m1 m2 m3 m4 m5 a.x a.y a.z (a.x+pw) (a.y+pw) (a.z+pw) va vc (zU ⟨⟨m0,m1,m2⟩,⟨m3,m4,m5⟩⟩).toNat ys hne HE.out (by omega) hSB (by rw [hyl,hv64];rfl) (by omega) (zNS HO5.out) W5 HO5.out.sl)
              have HWX:Bx (zGe ⟨⟨b0,b1,b2⟩,⟨b3,b4,b5⟩⟩ cs (a,0,.brick l')=(zM ⟨⟨m0,m1,m2⟩,⟨m3,m4,m5⟩⟩ (zF ⟨⟨a.x,a.y,a.z⟩,⟨a.x+pw,a.y+pw,a.z+pw⟩⟩ ys)).any (fun y=>cs.any (y == ·))):=⟨by unfold zGe;simp only [];rw [HMM.out,HE.out,hy1,hcb];rfl⟩
              have hzl:(zM ⟨⟨m0,m1,m2⟩,⟨m3,m4,m5⟩⟩ (zF ⟨⟨a.x,a.y,a.z⟩,⟨a.x+pw,a.y+pw,a.z+pw⟩⟩ ys)).length≤64:=by rw [zP];omega
              generalize hzs:zM ⟨⟨m0,m1,m2⟩,⟨m3,m4,m5⟩⟩ (zF ⟨⟨a.x,a.y,a.z⟩,⟨a.x+pw,a.y+pw,a.z+pw⟩⟩ ys)=zs at *;obtain ⟨z0,z1,z2,z3,z4,z5⟩:=KM5.out.c6;obtain ⟨y0,y1,y2,y3,y4,y5⟩:=KG5.out.c6;have HZL:=Bx.mk hzl;have hgW5:g'<W5.heap.size:=KG5.out.lt;clear hzs hzl hne hv1 hv2 hpw4 hcb hSB hv64 hy1 hyl hbt hbd1 hbd2 hbd3
              gi_upto_region 9 with ((try refine ⟨trivial,?_⟩);gi_at_call 78;refine (CallsIn.inRound l (callsIn_wide.2 HCR.out)).mono ?_;rintro _ W6 ⟨pa,pc,rfl,ho6,hb6⟩;have kg6:=KG5.out.later hb6;have HO6:=Bx.mk ho6;have HB6:=Bx.mk hb6;have KG6:=Bx.mk kg6;have q0:=kg6.cell 0 rfl;have q1:=kg6.cell 1 rfl;have q2:=kg6.cell 2 rfl;have q3:=kg6.cell 3 rfl;have q4:=kg6.cell 4 rfl;have q5:=kg6.cell 5 rfl;have q6:=kg6.cell 6 rfl;have e0:=kg6.frozen 0;have e1:=kg6.frozen 1;have e2:=kg6.frozen 2;have e3:=kg6.frozen 3;have e4:=kg6.frozen 4;have e5:=kg6.frozen 5;have e6:=kg6.frozen 6;clear kg6 ho6 hb6)
              generalize hW7:World.setCell (World.setCell (World.setCell (World.setCell (World.setCell (World.setCell (World.setCell W6 _ _) _ _) _ _) _ _) _ _) _ _) _ _=W7;have hgr:W6.grownBy W7 (some g'):=by rw [←hW7];exact (zC (zC (zC (zC (zC (zC (zC (World.grownBy.refl _ _) _ _) _ _) _ _) _ _) _ _) _ _) _ _)
              have kg7:Bk W7 g' #[m0,m1,m2,m3,m4,m5,.slice pa zs.length pc] 28:=by rw [←hW7];exact KG6.out.put7' _ _ _ _ _ _ _
              have ho7:=HO6.out.grown hgr (.inr (zFV HO6.out KG6.out (by decide)))
              have hg'W:W.heap.size≤g':=Nat.le_trans HB2W.out hg6';have hb7:Below W.heap.size W W7:=(HB5.out.trans (HB6.out.mono HB5.out.size)).trans ⟨hgr.os,hgr.tape,hgr.output,hgr.size,fun k hk=>hgr.block k (Nat.lt_of_lt_of_le hk (Nat.le_trans HB5.out.size HB6.out.size)) (fun e=>by have:=Option.some.inj e;omega)⟩
              have HN7:=Bx.mk (HKN2.out.later hb7);have HR7:Bx (Rnd (fun k=>k=w.heap.size+1+1+1) W0.heap.size W W7):=⟨Rnd.below hb7⟩;have HCF:=Bx.mk (zCL (w.heap.size+1+1) (fun y=>cs.any (y == ·)) pa pc zs W7 (by have:=HZL.out;omega) ho7.sl (fun x=>zHK (w.heap.size+1+1) ca cc cs x W7 (by have h1:=HCL.out;have h2:=HCN.out;omega) (HSL.out.below (HBW.out.trans (hb7.mono HBW.out.size))) (by rw [HCN.out];exact KCS.out.later hb7)))
              have p6:=kg7.cell 6 rfl;have n7:=HN7.out.cell 0 rfl;have nf7:=HN7.out.frozen 0;clear hW7 hgr kg7 ho7 hb7 q0 q1 q2 q3 q4 q5 q6 e0 e1 e2 e3 e4 e5 e6 HCR hclo n5 nf5 y0 y1 y2 y3 y4 y5 y6 z0 z1 z2 z3 z4 z5 t7;cases hans:zs.any (fun y=>cs.any (y == ·)) with
              | true =>
                rw [hans] at HCF HWX;clear hans
                gi_wp2_with ((try refine ⟨trivial,?_⟩);gi_at_call 79;refine (CallsIn.inRound l (callsIn_wide.2 HCF.out)).mono ?_;rintro _ _ ⟨rfl,rfl⟩)
                exact ⟨(HR7.out.trans (Rnd.set _ _ _ rfl)).kf,⟨⟨Bk.put1 HN7.out _,HK1.out.trans (HR7.out.trans (Rnd.set _ _ _ rfl)).kp⟩,rfl,Hany.out _ HWX.out⟩⟩
              | false =>
                rw [hans] at HCF HWX;clear hans
                gi_wp2_with ((try refine ⟨trivial,?_⟩);gi_at_call 79;refine (CallsIn.inRound l (callsIn_wide.2 HCF.out)).mono ?_;rintro _ _ ⟨rfl,rfl⟩)
                exact ⟨HR7.out.kf,HR7.out.kp,⟨HN7.out,HK1.out.trans HR7.out.kp⟩,Hany.out _ HWX.out⟩
end
end Go.Proofs.YtfcbajmjaifjlaaGreatDoor
