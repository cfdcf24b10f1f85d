/- M5, M6, M7, M8: joined by program. -/
import Derived.Test.YtfcbajmjaifjlaaGreatM2
import Derived.Deep.Cut
import Derived.Deep.RegionLaw
import Derived.Deep.RegionHeld3
import Derived.Deep.DrawnRows
import Derived.Deep.AppendLies
import Derived.Laws.StructEq
import Derived.Laws.BitsLemmas
import Derived.IntWalk
set_option maxHeartbeats 2000000
set_option maxRecDepth 100000
set_option linter.all false
namespace Go.Proofs.YtfcbajmjaifjlaaGreat
section
open Go.Sort Go.RowKit
@[go_sem] def zLT (P : Program) (w : World) (R : Value → World → Prop) : Result Next → Prop
  | .ok (.value u) w'=>Below w.heap.size w w'∧R u w'
  | .ok (.enter f args) w'=>w'=w∧Calls P f args w (fun e V0 => ∃ v,e = .returned v∧Below w.heap.size w V0∧R v V0)
  | _=>False
def zIG (l:List Oper) (n:Nat) (d:Tmp):Option Nat:=(List.range n).find? fun j=>decide (zR l j=some d)
def zAS (l:List Oper) (n:Nat) (R:Nat→Value→World→Prop) (a:Act) (d:Tmp) (v:Value) (w:World):Prop :=
 match zIG l n d with
 | some j=>R j v w
 | none=>v=a.eval (.tmp d)
def relB (l:List Oper) (n:Nat):Bool :=
 Region.noSelect l.toArray &&
 ((List.range n).all fun i => match l[i]? with
   | some o => o.guard.isNone && o.dst.isSome && o.op.operands.toList.all fun x => match x with
     | .tmp d=>(List.range n).all fun j => !decide (zR l j=some d) || (decide (j<i) && Region.waitsFor .any l.toArray i j)
     | _=>true
   | none=>false) &&
 ((List.range n).all fun i=>(List.range n).all fun j=>decide (i=j) || !decide (zR l i=zR l j))
structure RelB (l:List Oper) (n:Nat):Prop where
 nosel:Region.noSelect l.toArray=true
 guard : ∀ i o,i<n→l[i]? = some o→o.guard=none
 dst : ∀ i o,i<n→l[i]? = some o → ∃ d,o.dst=some d
 data : ∀ i o d j,i<n→l[i]? = some o → .tmp d∈o.op.operands→j<n→zR l j=some d→j<i∧Region.waitsFor .any l.toArray i j=true
 dist : ∀ i j d,i<n→j<n→i ≠ j→zR l i=some d→zR l j ≠ some d
theorem zLQ {l:List Oper} {n:Nat} (h:relB l n=true):RelB l n:=by
 simp only [relB,Bool.and_eq_true] at h;obtain ⟨⟨h3,h4⟩,h5⟩:=h;refine ⟨h3,fun i o hi ho=>?_,fun i o hi ho=>?_,fun i o d j hi ho hd hj MF=>?_,fun i j d hi hj Ph ME MF=>?_⟩
 · have:=List.all_eq_true.1 h4 i (List.mem_range.2 hi);simp only [ho,Bool.and_eq_true,Option.isNone_iff_eq_none] at this;exact this.1.1
 · have:=List.all_eq_true.1 h4 i (List.mem_range.2 hi);simp only [ho,Bool.and_eq_true] at this;exact Option.isSome_iff_exists.1 this.1.2
 · have:=List.all_eq_true.1 h4 i (List.mem_range.2 hi);simp only [ho,Bool.and_eq_true] at this;have:=List.all_eq_true.1 this.2 (.tmp d) (by simpa using hd)
   have:=List.all_eq_true.1 this j (List.mem_range.2 hj);simpa [MF] using this
 · have:=List.all_eq_true.1 (List.all_eq_true.1 h5 i (List.mem_range.2 hi)) j (List.mem_range.2 hj);simp [Ph,ME,MF] at this
def zAO (R:Value→World→Prop):Prop := ∀ v w w',Below w.heap.size w w'→R v w→R v w'
structure RI (l:List Oper) (n:Nat) (R:Nat→Value→World→Prop) (W:World) (a:Act) (s:Array Bool) (a':Act) (w':World):Prop where
 tsize:a'.tmps.size=a.tmps.size
 defers:a'.defers=a.defers
 old : ∀ x:Nat,(∀ i,i<n→s.getD i false=true→zR l i ≠ some x)→a'.tmps[x]? = a.tmps[x]?
 head : ∀ i d,i<n→s.getD i false=true→zR l i=some d → ∃ v,a'.tmps[d]? = some v∧R i v w'
 below:Below W.heap.size W w'
section
variable {P:Program} {l:List Oper} {n:Nat} {R:Nat→Value→World→Prop} {W:World} {a:Act}
theorem zII {d:Tmp} {j:Nat} (h:zIG l n d=some j):j<n∧zR l j=some d:=by
 unfold zIG at h;exact ⟨List.mem_range.1 (List.mem_of_find?_eq_some h),by simpa using List.find?_some h⟩
theorem zIH {d:Tmp} (h:zIG l n d=none) : ∀ j,j<n→zR l j ≠ some d:=by
 unfold zIG at h;intro j hj e;have:=List.find?_eq_none.1 h j (List.mem_range.2 hj);simp [e] at this
theorem zLe (B:RelB l n) (hf : ∀ i,i<n→zAO (R i)) (hd : ∀ i d,i<n→zR l i=some d→d<a.tmps.size)
 (QL : ∀ i o,i<n→l[i]? = some o → ∀ (ρ:Operand→Value) w,Below W.heap.size W w→(∀ v,ρ (.const v)=v)→(∀ g,ρ (.global g) = .pointer (some ⟨g,0,none⟩))→(∀ f,ρ (.func f) = .func (.func f) #[] #[]) →
  (∀ d,.tmp d∈o.op.operands→zAS l n R a d (ρ (.tmp d)) w)→zLT P w (R i) ((execOp ρ o).run P w))
 {Q:Exit→Act→World→Prop} {s:Array Bool} (hs:s.size=n) {a':Act} {w':World} (I:RI l n R W a s a' w') {i:Nat} (hin:i<n) (hr:i∈Region.ready .any l.toArray (s++Array.replicate (l.length - n) false)) (SO:s.getD i true=false) :
 wpOp P l.toArray Q i (fun a'' V0=>RI l n R W a (s.setIfInBounds i true) a'' V0) a' w':=by
 obtain ⟨_,o,ho,Jd⟩:=mem_ready.1 hr;have QH:l[i]? = some o:=by simpa using ho
 have MJ:zR l i=o.dst:=by simp [zR,QH]
 obtain ⟨di,ME⟩:=B.dst i o hin QH;have Rg:=zFi (s:=s) (i:=i) (by omega)
 have Pm : ∀ j,j ≠ i→(s.setIfInBounds i true).getD j false=s.getD j false:=fun j hj=>getD_set_ne false (Ne.symm hj);unfold wpOp;simp only [ho];have hw:Region.wanted o (yielded l.toArray a'.tmps)=true:=by simp [Region.wanted,B.guard i o hin QH]
 rw [if_pos hw];left
 have hk : ∀ d,.tmp d∈o.op.operands→zAS l n R a d (a'.eval (.tmp d)) w':=by
  intro d Lz;unfold zAS;cases hm:zIG l n d with
  | some j =>
    obtain ⟨hj,MF⟩:=zII hm;obtain ⟨O2,T7⟩:=B.data i o d j hin QH Lz hj MF;have Ov:=zOB T7 hr;rw [zBQ hs hj] at Ov;obtain ⟨v,h1,h2⟩:=I.head j d hj Ov MF;have:a'.eval (.tmp d)=v:=by simp [Act.eval,Array.getD_eq_getD_getElem?,h1]
    rw [this];exact h2
  | none=>exact zEw (I.old d fun j hj _ e=>zIH hm j hj e)
 have RP:=QL i o hin QH a'.eval w' I.below (fun _=>rfl) (fun _=>rfl) (fun _=>rfl) hk
 have post : ∀ v V0,Below w'.heap.size w' V0→R i v V0→RI l n R W a (s.setIfInBounds i true) (a'.put o.dst v) V0:=by
  intro v V0 hb hR;refine ⟨by rw [zKf,I.tsize],by rw [zKd,I.defers],fun x hx=>?_,fun j d hj hs' MF=>?_,tr I.below hb⟩
  · rw [zv v (fun e=>hx i hin Rg (by rw [MJ];exact e))]
    refine I.old x fun j hj hs'=>hx j hj ?_;by_cases e:j=i
    · subst e;exact Rg
    · rw [Pm j e];exact hs'
  · by_cases e:j=i
    · subst e;rw [MJ] at MF;rw [MF,zKe v (by rw [I.tsize];exact hd j d hin (by rw [MJ];exact MF))]
      exact ⟨v,rfl,hR⟩
    · rw [Pm j e] at hs';obtain ⟨u,h1,h2⟩:=I.head j d hj hs' MF;rw [zv v (fun e'=>B.dist j i d hj hin e MF (by rw [MJ];exact e'))]
      exact ⟨u,h1,hf j hj u w' V0 hb h2⟩
 unfold Oper.wp;generalize (execOp a'.eval o).run P w'=r at RP;cases r with
 | ok nx V0 =>
   cases nx <;> simp only [zLT] at RP <;> simp only [Oper.upon]
   case value u=>exact post _ _ RP.1 RP.2
   case enter f args =>
    obtain ⟨rfl,hc⟩:=RP;refine hc.mono fun e w3 ⟨v,he,hb,hR⟩=>?_;subst he;exact post _ _ hb hR
 | halt x V0=>simp only [zLT] at RP
theorem zLb (hn:n≤l.length) (B:RelB l n) (hb:zBa .any l n=true) (ht:zNG .any l n=true) (hf : ∀ i,i<n→zAO (R i)) (hd : ∀ i d,i<n→zR l i=some d→d<a.tmps.size)
 (QL : ∀ i o,i<n→l[i]? = some o → ∀ (ρ:Operand→Value) w,Below W.heap.size W w→(∀ v,ρ (.const v)=v)→(∀ g,ρ (.global g) = .pointer (some ⟨g,0,none⟩))→(∀ f,ρ (.func f) = .func (.func f) #[] #[]) →
  (∀ d,.tmp d∈o.op.operands→zAS l n R a d (ρ (.tmp d)) w)→zLT P w (R i) ((execOp ρ o).run P w))
 {Q:Exit→Act→World→Prop} (MY : ∀ a' w',RI l n R W a (Array.replicate n true) a' w'→wpAny P .any l.toArray Q (l.length - n) (Array.replicate n true++Array.replicate (l.length - n) false) a' w') :
 ∀ (f:Nat) (s:Array Bool) (a':Act) (w':World),s.size=n→unl s=f→RI l n R W a s a' w'→wpAny P .any l.toArray Q (f+(l.length - n)) (s++Array.replicate (l.length - n) false) a' w'
 | 0, s, a', w', hs, hu, I => by
   have e:s=Array.replicate n true:=by rw [←hs];exact zN0 hu
   rw [Nat.zero_add,e];rw [e] at I;exact MY a' w' I
 | f + 1, s, a', w', hs, hu, I => by
   obtain ⟨k,hk,SO⟩:=zNy (s:=s) (by omega)
   rw [show f+1+(l.length - n)=(f+(l.length - n))+1 by omega]
   refine ⟨fun h0=>?_,fun i hi=>?_⟩
   · obtain ⟨i,hi⟩:=zKp (g:=l.length - n) hs hn hb (k+1) k (by omega) (by omega) SO
     rw [h0] at hi;cases hi
   · have hin:=zKn hs (by omega:k<n) SO ht hi
     have Ny:s.getD i true=false:=by have:=(mem_ready.1 hi).1;rwa [zBQ hs hin] at this
     refine wpOp_mono (fun a'' V0 I'=>?_) (zLe B hf hd QL hs I hin hi Ny);rw [zBR (by omega)]
     refine zLb hn B hb ht hf hd QL MY f _ a'' V0 (by simpa using hs) ?_ I'
     have:=zNz (s:=s) (by omega) Ny
     omega
def headR (l:List Oper) (n:Nat):Bool :=
 decide (n<l.length) && zBa .any l n && zNG .any l n && relB l n && Region.seqB .any l.toArray (l.length - n) n (Array.replicate n true++Array.replicate (l.length - n) false)
theorem zOh {id:Nat} {Q:Exit→Act→World→Prop} (n:Nat) (R:Nat→Value→World→Prop) (hm:P.follows .mixedOrders=true) (hB:headR l n=true) (m:Nat) (MI:zEY l m=true) (Jf:a.tmps.size=m)
 (hf : ∀ i,i<n→zAO (R i))
 (QL : ∀ i o,i<n→l[i]? = some o → ∀ (ρ:Operand→Value) w,Below W.heap.size W w→(∀ v,ρ (.const v)=v)→(∀ g,ρ (.global g) = .pointer (some ⟨g,0,none⟩))→(∀ f,ρ (.func f) = .func (.func f) #[] #[]) →
  (∀ d,.tmp d∈o.op.operands→zAS l n R a d (ρ (.tmp d)) w)→zLT P w (R i) ((execOp ρ o).run P w))
 (h : ∀ (vs:List Value) w',vs.length=n→Below W.heap.size W w'→(∀ i v,vs[i]? = some v→R i v w')→wpList P l.toArray Q (l.drop n) (zKg (((l.take n).map (·.dst)).zip vs) a) w'):(Code.region id l.toArray true).wp P Q a W:=by
 simp only [headR,Bool.and_eq_true,decide_eq_true_eq] at hB;obtain ⟨⟨⟨⟨hn,hb⟩,ht⟩,hrel⟩,Rh⟩:=hB;have B:=zLQ hrel;have hd : ∀ i d,i<n→zR l i=some d→d<a.tmps.size:=fun i d _ hd=>by rw [Jf];exact zEZ MI hd
 refine wp_region_any hm ?_
 have:=zLb (Q:=Q) (by omega) B hb ht hf hd QL (fun a' w' I=>?_) n (Array.replicate n false) a { W with drawn:=W.drawn+1 } (by simp) (by simp [unl])
  ⟨rfl,rfl,fun x _=>rfl,fun i d _ hs=>(by rw [getD_replicate_false] at hs;cases hs),⟨rfl,rfl,rfl,Nat.le_refl _,fun _ _=>rfl⟩⟩
 · have e:Array.replicate n false++Array.replicate (l.length - n) false=Array.replicate l.toArray.size false:=by
    rw [Array.replicate_append_replicate];congr 1;simp;omega
   rw [e,show n+(l.length - n)=l.toArray.size by simp;omega] at this
   exact this
 · have hv : ∀ i,∃ v,i<n→(∃ d,zR l i=some d∧a'.tmps[d]? = some v)∧R i v w':=by
    intro i;by_cases hi:i<n
    · obtain ⟨o,ho⟩ : ∃ o,l[i]? = some o:=⟨_,lge (by omega)⟩
      obtain ⟨d,MA⟩:=B.dst i o hi ho;have MG:zR l i=some d:=by simp [zR,ho,MA]
      obtain ⟨v,h1,h2⟩:=I.head i d hi (by simp [hi]) MG
      exact ⟨v,fun _=>⟨⟨d,MG,h1⟩,h2⟩⟩
    · exact ⟨undef,fun h=>absurd h hi⟩
   obtain ⟨g,hg⟩:=Classical.axiomOfChoice hv;have Od:((List.range n).map g).length=n:=by simp
   have hz : ∀ i,i<n→(((l.take n).map (·.dst)).zip ((List.range n).map g))[i]? = some (zR l i,g i):=by
    intro i hi;rw [(List.getElem?_zip_eq_some (z:=(zR l i,g i))).2];refine ⟨?_,by simp [hi]⟩
    rw [List.getElem?_map,List.getElem?_take,if_pos hi];unfold zR;rw [lge (show i<l.length by omega)];rfl
   have hlt : ∀ {i p},(((l.take n).map (·.dst)).zip ((List.range n).map g))[i]? = some p→i<n:=by
    intro i p hp;have:=(List.getElem?_eq_some_iff.1 hp).1;simp at this;omega
   have Mc:a'=zKg (((l.take n).map (·.dst)).zip ((List.range n).map g)) a:=by
    refine zAl ?_ fun x=>?_
    · rw [(zKj _ _).2];exact I.defers
    · by_cases hx : ∃ i,i<n∧zR l i=some x
      · obtain ⟨i,hi,MK⟩:=hx;obtain ⟨⟨d,h1,h2⟩,_⟩:=hg i hi;rw [MK] at h1;obtain rfl:=osi h1;rw [h2];symm;refine zKh _ a x _ (hd i x hi MK) ?_ (List.mem_iff_getElem?.2 ⟨i,by rw [hz i hi,MK]⟩)
        rw [List.pairwise_iff_getElem];intro p q hp hq Qo d' e1 e2;have n1:=hz p (hlt (lge hp));have n2:=hz q (hlt (lge hq));rw [lge hp] at n1;rw [lge hq] at n2;rw [osi n1] at e1;rw [osi n2] at e2;exact B.dist p q d' (hlt (lge hp)) (hlt (lge hq)) (by omega) e1 e2
      · rw [zKi _ _ x (fun p hp e=>by
         obtain ⟨i,hi⟩:=List.mem_iff_getElem?.1 hp;have hin:=hlt hi;rw [hz i hin] at hi;have:=osi hi;subst this;exact hx ⟨i,hin,e⟩)]
        exact I.old x fun i hi _ e=>hx ⟨i,hi,e⟩
   have RD:=h ((List.range n).map g) w' Od I.below (fun i v hi=>by
    have hin:i<n:=by have:=(List.getElem?_eq_some_iff.1 hi).1;simpa using this
    have:v=g i:=by simpa [hin] using hi.symm
    rw [this];exact (hg i hin).2)
   rw [←Mc] at RD;have:=wpAny_of_seq (P:=P) (md:=.any) (ops:=l.toArray) (Q':=Q) (l.drop n) n (Array.replicate n true++Array.replicate (l.length - n) false) a' w' (fun j=>by simp [List.getElem?_drop]) (by simpa using Rh) RD
   simpa using this
end
end
section
open Go.RowKit Go.Sort Go.Maps
open Oct
theorem zID (Far:Nat→Prop) (sb:Nat) (UA:Int) (ts:List Tr) (t:Tr) (k c d x0 x1 x2 x3 x4 x5 x6 x7:Int) (s:ByteArray) (hV:zo ts t=zIq k c s d x0 x1 x2 x3 x4 x5 x6 x7) (hG:Good ts) (ht:t∈ts) (hk : ∃ kl,keyOf Tryz.prog 145 (zIq k c s d x0 x1 x2 x3 x4 x5 x6 x7)=some kl)
 (w:World) (hS:StoreIs w Far sb UA ts) :
 Calls Tryz.prog 109 #[.pointer (some ⟨sb,0,none⟩),.agg #[k,c,.string s,d,x0,x1,x2,x3,x4,x5,x6,x7]] w fun e' w'=>e' = .returned (.tuple #[(idT ts t:Int),(0:Int)])∧Below w.heap.size w w':=by
 obtain ⟨mb,nv,ks,RJ,PL,J1⟩:=hS;obtain ⟨kl,hk⟩:=hk;have OH:=zG3 hG ht;rw [hV] at OH
 have P2 : ∀ W,Below w.heap.size w W→(Instr.lookup 111 (.map (some mb)) (.agg #[k,c,.string s,d,x0,x1,x2,x3,x4,x5,x6,x7]) true).run Tryz.prog W = .ok (.tuple #[(idT ts t:Int),.bool true]) W :=
  fun W hb=>((PL.kept (row:=none) (zV hb) (by simp)).look hk).1 _ OH
 have Hl:=Bx.mk P2;have Ks:=Bx.mk ks;clear J1 PL RJ P2 OH hk hV ks;generalize (idT ts t:Int)=ii at *;go_enter Tryz.func109,Tryz.ntmps109;go_wp2_with fail;generalize hW:w.alloc _=W;have JE:=sz1 hW;have hB:=bl1 hW;have kn:Bk W (w.heap.size) #[k,c,.string s,d,x0,x1,x2,x3,x4,x5,x6,x7] 145:=bk0 hW;clear hW;have ks:=Ks.o.la hB
 have OT : ∀ dk osk,(Instr.lookup 111 (.map (some mb)) (.agg #[k,c,.string s,d,x0,x1,x2,x3,x4,x5,x6,x7]) true).run Tryz.prog (grow (redrawn W dk) osk) = .ok (.tuple #[ii,.bool true]) (grow (redrawn W dk) osk) :=
  fun dk osk=>Hl.o _ (hB.trans ((bq W dk osk).mono hB.size))
 clear Hl Ks;obtain ⟨cn0,cn1,cn2,cn3,cn4,cn5,cn6,cn7⟩:=kn.r8;have FX : ∀ dk osk,(grow (redrawn W dk) osk).cell? ⟨w.heap.size,8,none⟩=some (.int .i64 x4):=cq (kn.cell 8 rfl);have FZ : ∀ dk osk,(grow (redrawn W dk) osk).cell? ⟨w.heap.size,9,none⟩=some (.int .i64 x5):=cq (kn.cell 9 rfl);have FM : ∀ dk osk,(grow (redrawn W dk) osk).cell? ⟨w.heap.size,10,none⟩=some (.int .i64 x6):=cq (kn.cell 10 rfl);have FO : ∀ dk osk,(grow (redrawn W dk) osk).cell? ⟨w.heap.size,11,none⟩=some (.int .i64 x7):=cq (kn.cell 11 rfl);obtain ⟨Ft,Fu,cs2⟩:=ks.r3;refine wg ?_
 repeat (first | go_big_quiet_step (fail) | quiet_step (fail))
 refine wq ?_;rintro _ ⟨⟨dq,osq⟩,rfl⟩;have hb:=bq W dq osq;clear cn0 cn1 cn2 cn3 cn4 cn5 cn6 cn7 FX FZ FM FO;clear Ft Fu cs2;replace hB:=tr hB hb;replace kn:=kn.la hb;replace ks:=ks.la hb;replace JE:=nlt JE hb.size;clear hb;generalize grow (redrawn W dq) osq=W1 at *;clear OT;go_wp2_with fail
 go_ret2
 exact ⟨rfl,hB⟩
theorem zy {w:World} {B n:Nat} {e:TypeId} {sz:Nat} {v:Value} {xs:List Value} (h:w.ownsRow B e sz v n xs) : ∃ a cap,v = .slice a n cap:=by
 rcases h.2 with ⟨rfl,rfl⟩ | ⟨g,cap,cur,rfl,_⟩
 · exact ⟨_,_,rfl⟩
 · exact ⟨_,_,rfl⟩
theorem zIC (Far:Nat→Prop) (sb:Nat) (UA:Int) (ts:List Tr) (t:Tr) (k c d x0 x1 x2 x3 x4 x5 x6 x7:Int) (s:ByteArray) (hV:zo ts t=zIq k c s d x0 x1 x2 x3 x4 x5 x6 x7) (hG:Good ts) (ht:t ∉ ts) (OY:Leans ts t) (Kz:Bytes t) (hm:UA≤(ts.length:Int))
 (hk : ∃ kl,keyOf Tryz.prog 145 (zIq k c s d x0 x1 x2 x3 x4 x5 x6 x7)=some kl) (w:World) (hS:StoreIs w Far sb UA ts) :
 Calls Tryz.prog 109 #[.pointer (some ⟨sb,0,none⟩),.agg #[k,c,.string s,d,x0,x1,x2,x3,x4,x5,x6,x7]] w fun e' w'=>e' = .returned (.tuple #[(0:Int),(14:Int)])∧Below w.heap.size w w':=by
 obtain ⟨mb,nv,ks,RJ,PL,J1⟩:=hS;obtain ⟨kl,hk⟩:=hk;obtain ⟨na,nc,rfl⟩:=zy RJ;have OH:=zG5 hG ht OY Kz;rw [hV] at OH
 have P2 : ∀ W,Below w.heap.size w W→(Instr.lookup 111 (.map (some mb)) (.agg #[k,c,.string s,d,x0,x1,x2,x3,x4,x5,x6,x7]) true).run Tryz.prog W = .ok (.tuple #[(0:Int),.bool false]) W :=
  fun W hb=>((PL.kept (row:=none) (zV hb) (by simp)).look hk).2 OH
 have Hl:=Bx.mk P2;have Ks:=Bx.mk ks;clear J1 PL RJ P2 OH hk hV ks hG ht OY Kz;generalize ts.length=nn at *;go_enter Tryz.func109,Tryz.ntmps109;go_wp2_with fail;generalize hW:w.alloc _=W;have JE:=sz1 hW;have hB:=bl1 hW;have kn:Bk W (w.heap.size) #[k,c,.string s,d,x0,x1,x2,x3,x4,x5,x6,x7] 145:=bk0 hW;clear hW;have ks:=Ks.o.la hB
 have OT : ∀ dk osk,(Instr.lookup 111 (.map (some mb)) (.agg #[k,c,.string s,d,x0,x1,x2,x3,x4,x5,x6,x7]) true).run Tryz.prog (grow (redrawn W dk) osk) = .ok (.tuple #[(0:Int),.bool false]) (grow (redrawn W dk) osk) :=
  fun dk osk=>Hl.o _ (hB.trans ((bq W dk osk).mono hB.size))
 clear Hl Ks;obtain ⟨cn0,cn1,cn2,cn3,cn4,cn5,cn6,cn7⟩:=kn.r8;have FX : ∀ dk osk,(grow (redrawn W dk) osk).cell? ⟨w.heap.size,8,none⟩=some (.int .i64 x4):=cq (kn.cell 8 rfl);have FZ : ∀ dk osk,(grow (redrawn W dk) osk).cell? ⟨w.heap.size,9,none⟩=some (.int .i64 x5):=cq (kn.cell 9 rfl);have FM : ∀ dk osk,(grow (redrawn W dk) osk).cell? ⟨w.heap.size,10,none⟩=some (.int .i64 x6):=cq (kn.cell 10 rfl);have FO : ∀ dk osk,(grow (redrawn W dk) osk).cell? ⟨w.heap.size,11,none⟩=some (.int .i64 x7):=cq (kn.cell 11 rfl);obtain ⟨Ft,Fu,cs2⟩:=ks.r3;refine wg ?_
 repeat (first | go_big_quiet_step (fail) | quiet_step (fail))
 refine wq ?_;rintro _ ⟨⟨dq,osq⟩,rfl⟩;have hb:=bq W dq osq;clear cn0 cn1 cn2 cn3 cn4 cn5 cn6 cn7 FX FZ FM FO;clear Ft Fu cs2;replace hB:=tr hB hb;replace kn:=kn.la hb;replace ks:=ks.la hb;replace JE:=nlt JE hb.size;clear hb;generalize grow (redrawn W dq) osq=W1 at *;clear OT;go_wp2_with fail;obtain ⟨Ft,Fu,cs2⟩:=ks.r3;refine wg ?_
 repeat (first | go_big_quiet_step (fail) | quiet_step (fail))
 refine wq ?_;rintro _ ⟨⟨dq,osq⟩,rfl⟩;have hb:=bq W1 dq osq;clear Ft Fu cs2;replace hB:=tr hB hb;replace kn:=kn.la hb;replace ks:=ks.la hb;replace JE:=nlt JE hb.size;clear hb;generalize grow (redrawn W1 dq) osq=W2 at *;go_wp2_with fail
 go_ret2
 exact ⟨rfl,hB⟩
theorem zFZ {α:Type} (f:Tr→List α) (m:Nat) : ∀ (l:List Tr),(∀ x∈l,(f x).length=m) → ∀ (i:Nat) (t:Tr) (j:Nat),l[i]? = some t→j<m→(l.flatMap f)[i * m+j]? = (f t)[j]?
 | [],_,i,t,j,h,_=>by simp at h
 | x :: r, hl, 0, t, j, h, hj => by
   simp at h;subst h;rw [List.flatMap_cons,Nat.zero_mul,Nat.zero_add,List.getElem?_append_left (by rw [hl x (by simp)];exact hj)]
 | x :: r, hl, i + 1, t, j, h, hj => by
   rw [List.flatMap_cons,List.getElem?_append_right (by rw [hl x (by simp),Nat.succ_mul];omega),hl x (by simp)]
   rw [show (i+1) * m+j - m=i * m+j by rw [Nat.succ_mul];omega]
   exact zFZ f m r (fun y hy=>hl y (by simp [hy])) i t j (by simpa using h) hj
theorem zI0 (ts:List Tr) (t:Tr):(zo ts t).cells.toList.length=12:=by cases t <;> rfl
theorem StoreIs.node {w:World} {Far:Nat→Prop} {sb:Nat} {UA:Int} {ts:List Tr} (h:StoreIs w Far sb UA ts) {i:Nat} {t:Tr} (ht:ts[i]? = some t) :
 ∃ g cap mb,Bk w sb #[UA,.slice (some ⟨g,0,none⟩) ts.length cap,.map (some mb)] 113∧i<ts.length ∧ ∀ j u,j<12→(zo ts t).cells.toList[j]? = some u→w.cell? ⟨g,i * 12+j,none⟩=some u:=by
 obtain ⟨mb,nv,h1,h2,_⟩:=h;have hi:i<ts.length:=(List.getElem?_eq_some_iff.1 ht).1;rcases h2.2 with ⟨_,h0⟩ | ⟨g,cap,cur,rfl,_⟩
 · omega
 · refine ⟨g,cap,mb,h1,hi,fun j u hj hu=>?_⟩;have hc:=World.ownsRow.cells h2 (g:=g) rfl (i * 12+j) u (by unfold zLi;rw [zFZ _ 12 ts (fun x _=>zI0 ts x) i t j ht hj];exact hu)
   have e:(⟨g,0,none⟩:Addr).add (i * 12+j)=⟨g,i * 12+j,none⟩:=by unfold Addr.add;split <;> simp_all
   rw [e] at hc;exact hc
theorem zHO (Far:Nat→Prop) (sb:Nat) (UA:Int) (ts:List Tr) (i:Nat) (t:Tr) (ht:ts[i]? = some t) (v:Int) (hv:(zo ts t).cells.toList[0]? = some (.int .i64 v)) (_hlen:ts.length≤4194304) (w:World) (hS:StoreIs w Far sb UA ts) :
 Calls Tryz.prog 39 #[.pointer (some ⟨sb,0,none⟩),(i:Int)] w fun e' w'=>e' = .returned v∧w=w':=by
 obtain ⟨g,cap,mb,ks,hi,hc⟩:=hS.node ht;have Lx:=hc 0 _ (by omega) hv
 try rw [Nat.add_zero] at Lx
 have Fu:=ks.cell 1 rfl;have b1:(0:Int)≤(i:Int):=by omega
 have b2:(i:Int)<(ts.length:Int):=by omega
 clear hc ks hS hv ht;generalize ts.length=n at *;go_enter Tryz.func39,Tryz.ntmps39;go_wp2_with fail;go_ret;exact ⟨rfl,rfl⟩
theorem zEH (Far:Nat→Prop) (sb:Nat) (UA:Int) (ts:List Tr) (i:Nat) (t:Tr) (ht:ts[i]? = some t) (v:Int) (hv:(zo ts t).cells.toList[3]? = some (.int .i64 v)) (_hlen:ts.length≤4194304) (w:World) (hS:StoreIs w Far sb UA ts) :
 Calls Tryz.prog 63 #[.pointer (some ⟨sb,0,none⟩),(i:Int)] w fun e' w'=>e' = .returned v∧w=w':=by
 obtain ⟨g,cap,mb,ks,hi,hc⟩:=hS.node ht;have Lx:=hc 3 _ (by omega) hv
 try rw [Nat.add_zero] at Lx
 have Fu:=ks.cell 1 rfl;have b1:(0:Int)≤(i:Int):=by omega
 have b2:(i:Int)<(ts.length:Int):=by omega
 clear hc ks hS hv ht;generalize ts.length=n at *;go_enter Tryz.func63,Tryz.ntmps63;go_wp2_with fail;go_ret;exact ⟨rfl,rfl⟩
theorem zHp (Far:Nat→Prop) (sb:Nat) (UA:Int) (ts:List Tr) (w:World) (hS:StoreIs w Far sb UA ts) :
 Calls Tryz.prog 16 #[.pointer (some ⟨sb,0,none⟩)] w fun e' w'=>e' = .returned (.int .i64 (ts.length:Int))∧w=w':=by
 obtain ⟨mb,nv,ks,RJ,_⟩:=hS;obtain ⟨na,nc,rfl⟩:=zy RJ;have Fu:=ks.cell 1 rfl;clear RJ ks;generalize ts.length=n at *;go_enter Tryz.func16,Tryz.ntmps16;go_wp2_with fail;go_ret;exact ⟨rfl,rfl⟩
theorem Bk.put8 {w:World} {g:Nat} {t:TypeId} {v:Value} (h:Bk w g #[v,v,v,v,v,v,v,v] t) (a b c d e f i j:Value) :
 Bk ((((((((w.setCell ⟨g,0,none⟩ a).setCell ⟨g,1,none⟩ b).setCell ⟨g,2,none⟩ c).setCell ⟨g,3,none⟩ d).setCell ⟨g,4,none⟩ e).setCell ⟨g,5,none⟩ f).setCell ⟨g,6,none⟩ i).setCell ⟨g,7,none⟩ j) g #[a,b,c,d,e,f,i,j] t:=by
 simpa using (((((((h.set 0 a).set 1 b).set 2 c).set 3 d).set 4 e).set 5 f).set 6 i).set 7 j
theorem blw8 {B:Nat} {a w:World} (h:Below B a w) {g:Nat} (hg:B≤g) (x y z x' y' z' s s':Value) :
 Below B a ((((((((w.setCell ⟨g,0,none⟩ x).setCell ⟨g,1,none⟩ y).setCell ⟨g,2,none⟩ z).setCell ⟨g,3,none⟩ x').setCell ⟨g,4,none⟩ y').setCell ⟨g,5,none⟩ z').setCell ⟨g,6,none⟩ s).setCell ⟨g,7,none⟩ s') :=
 (((((((h.setCell hg _).setCell hg _).setCell hg _).setCell hg _).setCell hg _).setCell hg _).setCell hg _).setCell hg _
theorem zCz (Far:Nat→Prop) (sb:Nat) (UA:Int) (ts:List Tr) (i:Nat) (t:Tr) (ht:ts[i]? = some t) (x0 x1 x2 x3 x4 x5 x6 x7:Int) (hv : ∀ j u,#[Value.int .i64 x0,Value.int .i64 x1,Value.int .i64 x2,Value.int .i64 x3,Value.int .i64 x4,Value.int .i64 x5,Value.int .i64 x6,Value.int .i64 x7].toList[j]? = some u→(zo ts t).cells.toList[4+j]? = some u) (w:World) (hS:StoreIs w Far sb UA ts) :
 Calls Tryz.prog 65 #[.pointer (some ⟨sb,0,none⟩),(i:Int)] w fun e' w'=>e' = .returned (.agg #[x0,x1,x2,x3,x4,x5,x6,x7])∧Below w.heap.size w w':=by
 have HS:=Bx.mk hS;have Hv:=Bx.mk hv;have Ht:=Bx.mk ht;clear hS hv ht;go_enter Tryz.func65,Tryz.ntmps65;go_upto_region 1 with fail;generalize hW:w.alloc _=W;have JE:=sz1 hW;have hB:=bl1 hW;have kr:Bk W (w.heap.size) #[(0:Int),(0:Int),(0:Int),(0:Int),(0:Int),(0:Int),(0:Int),(0:Int)] 108:=bk0 hW;clear hW;obtain ⟨Fj,Fk,Fl,Fm,Fn,Fo,Fp,cr7⟩:=kr.c8;obtain ⟨GU,GV,GW,GX,GY,GZ,Ga,fr7⟩:=kr.f8;obtain ⟨g,cap,mb,ks,hi,hc⟩:=(HS.o.la hB).node Ht.o;have d0:=hc 4 _ (by omega) (Hv.o 0 _ rfl)
 have d1:=hc 5 _ (by omega) (Hv.o 1 _ rfl)
 have d2:=hc 6 _ (by omega) (Hv.o 2 _ rfl)
 have d3:=hc 7 _ (by omega) (Hv.o 3 _ rfl)
 have d4:=hc 8 _ (by omega) (Hv.o 4 _ rfl)
 have d5:=hc 9 _ (by omega) (Hv.o 5 _ rfl)
 have d6:=hc 10 _ (by omega) (Hv.o 6 _ rfl)
 have d7:=hc 11 _ (by omega) (Hv.o 7 _ rfl)
 have Fu:=ks.cell 1 rfl;have b1:(0:Int)≤(i:Int):=by omega
 have b2:(i:Int)<(ts.length:Int):=by omega
 clear hc HS Hv Ht ks;generalize ts.length=n at *;go_wp2_with fail;replace kr:=kr.put8 (.int .i64 x0) (.int .i64 x1) (.int .i64 x2) (.int .i64 x3) (.int .i64 x4) (.int .i64 x5) (.int .i64 x6) (.int .i64 x7);exact bodyPost_ret (v:=.agg #[x0,x1,x2,x3,x4,x5,x6,x7]) (results_cell_row rfl _ _ _ 108 #[x0,x1,x2,x3,x4,x5,x6,x7] (0,0) _ rfl kr Tryz.underlying108 rfl (by kernel_rfl)) rfl ⟨rfl,blw8 hB (by omega) _ _ _ _ _ _ _ _⟩
theorem zG4 (v:Value):zG0 [] v=none:=by
 unfold zG0;rw [dif_neg];rintro ⟨t,h,_⟩;cases h
theorem zIk (UA:Int) (w:World):Calls Tryz.prog 47 #[UA] w fun e' w' => ∃ sb,e' = .returned (.pointer (some ⟨sb,0,none⟩))∧StoreIs w' (fun k=>k<w.heap.size) sb UA []∧Below w.heap.size w w':=by
 have PW:=@run_makeMap Tryz.prog;go_enter Tryz.func47,Tryz.ntmps47;go_wp2_with fail;generalize hW1:World.alloc w (Obj.map #[] 0)=W1;have I1:=bl1 hW1;have hM:MapFn W1 w.heap.size 0 (fun _=>none):=by rw [←hW1];exact MapFn.made w
 have RX:W1.heap.size=w.heap.size+1:=by rw [←hW1];simp
 clear hW1;generalize hW2:W1.alloc _=W2;have Js:=bl1 hW2;have ks:Bk W2 W1.heap.size #[UA,.slice none 0 0,.map (some w.heap.size)] 113:=bk0 hW2 rfl;clear hW2;rw [RX] at ks;go_ret;refine ⟨w.heap.size+1,by simp,⟨w.heap.size,.slice none 0 0,ks,World.ownsRow_nil _ _ _ _,((hM.kept (row:=none) (zV Js) (by simp)).congr fun key kl _=>(zG4 key).symm),by omega,by omega,fun g hg=>by simp [Value.ownBlock] at hg,by omega,by simp [Value.ownBlock],by simp [Value.ownBlock]⟩,I1.trans (Js.mono (by omega))⟩
end
section
open Go.RowKit Go.Sort Go.Maps
theorem zMn {P:Program} {ops:Array Oper} {o:Oper} {a:Act} {w:World} {K:Act→World→Prop} {Q:Exit→Act→World→Prop} {E:Prop} (NF:o.guard=none) (s x:Operand) (t:TypeId)
 (ho:o.op = .call { callee:=.builtin .append,args:=#[s,x],argTypes:=#[t,t] })
 (base:Nat) (e:TypeId) (i:TypeInfo) (z:Value) (size bytes:Nat) (ht:P.underlying t=some (.slice e)) (hi:P.info? e=some i) (hz:i.zero=some z)
 (Rl:i.size=size) (Kz:i.bytes=bytes) (TZ:z.cells.size=size) (S9:0<size)
 (v:Value) (n:Nat) (xs:List Value) (hs:a.eval s=v) (QQ:w.ownsRow base e size v n xs)
 (ad:Addr) (m c:Nat) (UC:List Value) (hx:a.eval x = .slice (some ad) m c) (hl:UC.length=m * size) (Pn : ∀ j u,UC[j]? = some u→w.cell? (ad.add j)=some u) (h1 : ∀ u∈UC,u.oneCell'=true)
 (Gy:n+m≤maxLen) (L0:(n+m) * bytes≤140737488355328) (KH:base≤w.heap.size)
 (h : ∀ v' w',Bx (w'.ownsRow base e size v' (n+m) (xs++UC))→Bx (w.grownBy w' v.ownBlock)→Bx (v'.ownBlock=v.ownBlock∨v'.ownBlock=some w.heap.size)→K (a.put o.dst v') w') :
 if Region.wanted o (yielded ops a.tmps)=true then Oper.wp P o a w K Q else E:=by
 have hw:Region.wanted o (yielded ops a.tmps)=true:=by simp [Region.wanted,NF]
 rw [if_pos hw];obtain ⟨v',w',hr,h2,h3,h4,h5⟩:=run_append_own_at (P:=P) w base t o.type e i z size bytes ht hi hz Rl Kz TZ S9 v n xs QQ ad m c UC hl Pn h1 Gy L0 KH;unfold Oper.wp;simp [execOp,ho,resolve,invoke,builtin,hs,hx,hr,Result.andThen];exact h v' w' ⟨h2⟩ ⟨h3⟩ ⟨h5⟩
end
section
open Go.RowKit Go.Sort
theorem zA (px py pz qx qy qz:Int) (w:World) :
 Calls Tryz.prog 127 #[.agg #[px,py,pz],.agg #[qx,qy,qz]] w fun e w'=>e = .returned (.agg #[(wrap64 (px+qx):Int),(wrap64 (py+qy):Int),(wrap64 (pz+qz):Int)])∧Below w.heap.size w w':=by
 go_enter Tryz.func127,Tryz.ntmps127;go_wp2;generalize hW:((w.alloc _).alloc _).alloc _=W;have JE:=sz3 hW;have hB:=bl3 hW;have kp:Bk W (w.heap.size) #[px,py,pz] 23:=bk2 hW;have kq:Bk W (w.heap.size+1) #[qx,qy,qz] 23:=bk1 hW;have kr:Bk W (w.heap.size+1+1) #[(wrap64 (px+qx):Int),(wrap64 (py+qy):Int),(wrap64 (pz+qz):Int)] 23:=bk0 hW;clear hW;exact bodyPost_ret (v:=.agg #[(wrap64 (px+qx):Int),(wrap64 (py+qy):Int),(wrap64 (pz+qz):Int)]) (results_cell_row rfl _ _ _ 23 #[(wrap64 (px+qx):Int),(wrap64 (py+qy):Int),(wrap64 (pz+qz):Int)] (0,0) _ rfl kr Tryz.underlying23 rfl (by kernel_rfl)) rfl ⟨rfl,hB⟩
theorem zMA (px py pz n:Int) (w:World) :
 Calls Tryz.prog 128 #[.agg #[px,py,pz],n] w fun e w'=>e = .returned (.agg #[(wrap64 (n * px):Int),(wrap64 (n * py):Int),(wrap64 (n * pz):Int)])∧Below w.heap.size w w':=by
 go_enter Tryz.func128,Tryz.ntmps128;go_wp2;generalize hW:(w.alloc _).alloc _=W;have JE:=sz2 hW;have hB:=bl2 hW;have kp:Bk W (w.heap.size) #[px,py,pz] 23:=bk1 hW;have kr:Bk W (w.heap.size+1) #[(wrap64 (n * px):Int),(wrap64 (n * py):Int),(wrap64 (n * pz):Int)] 23:=bk0 hW;clear hW;exact bodyPost_ret (v:=.agg #[(wrap64 (n * px):Int),(wrap64 (n * py):Int),(wrap64 (n * pz):Int)]) (results_cell_row rfl _ _ _ 23 #[(wrap64 (n * px):Int),(wrap64 (n * py):Int),(wrap64 (n * pz):Int)] (0,0) _ rfl kr Tryz.underlying23 rfl (by kernel_rfl)) rfl ⟨rfl,hB⟩
theorem zGX (px py pz a b c d e f:Int) (w:World) :
 Calls Tryz.prog 116 #[.agg #[px,py,pz],.agg #[a,b,c,d,e,f]] w fun e' w'=>e' = .returned (.bool (inB ⟨px,py,pz⟩ ⟨⟨a,b,c⟩,⟨d,e,f⟩⟩))∧Below w.heap.size w w':=by
 go_enter Tryz.func116,Tryz.ntmps116;go_wp2
 all_goals
  go_ret;exact ⟨zx (by rw [Bool.eq_iff_iff];simp [inB];omega),bf.alloc (by simp) _⟩
theorem zU (a b c d e f:Int) (w:World) :
 Calls Tryz.prog 74 #[.agg #[a,b,c,d,e,f]] w fun e' w'=>e' = .returned (.bool (zS ⟨⟨a,b,c⟩,⟨d,e,f⟩⟩))∧Below w.heap.size w w':=by
 go_enter Tryz.func74,Tryz.ntmps74;go_wp2_with (go_at_call 116;refine (zGX _ _ _ _ _ _ _ _ _ _).mono ?_;rintro e' w1 ⟨rfl,hb⟩);go_ret;exact ⟨rfl,bf.trans (hb.mono (by simp))⟩
theorem zDz (n:Int) (w:World) :
 Calls Tryz.prog 135 #[n] w fun e w'=>e = .returned (.agg #[(0:Int),(0:Int),(0:Int),n,n,n])∧Below w.heap.size w w':=by
 go_enter Tryz.func135,Tryz.ntmps135;go_wp2;generalize hW:w.alloc _=W;have JE:=sz1 hW;have hB:=bl1 hW;have kr:Bk W (w.heap.size) #[(0:Int),(0:Int),(0:Int),n,n,n] 25:=bk0 hW;clear hW;exact bodyPost_ret (v:=.agg #[(0:Int),(0:Int),(0:Int),n,n,n]) (results_cell_row rfl _ _ _ 25 #[(0:Int),(0:Int),(0:Int),n,n,n] (0,0) _ rfl kr Tryz.underlying25 rfl (by kernel_rfl)) rfl ⟨rfl,hB⟩
theorem zIh (qx qy qz:Int) (Qz : -9000000000000000000≤qx∧qx≤9000000000000000000) (R0 : -9000000000000000000≤qy∧qy≤9000000000000000000) (R5 : -9000000000000000000≤qz∧qz≤9000000000000000000) (w:World) :
 Calls Tryz.prog 128 #[.agg #[qx,qy,qz],(-1:Int)] w fun e w'=>e = .returned (.agg #[(-qx:Int),(-qy:Int),(-qz:Int)])∧Below w.heap.size w w':=by
 have h:=zMA qx qy qz (-1) w
 have key : ∀ q:Int,(-9000000000000000000≤q∧q≤9000000000000000000)→wrap64 (-1 * q) = -q:=fun q h=>by
  rw [show -1 * q = -q by omega];exact wi _ (by omega)
 rw [key qx Qz,key qy R0,key qz R5] at h;exact h
theorem zM8 (px py pz qx qy qz:Int) (Qz : -9000000000000000000≤qx∧qx≤9000000000000000000) (R0 : -9000000000000000000≤qy∧qy≤9000000000000000000) (R5 : -9000000000000000000≤qz∧qz≤9000000000000000000) (w:World) :
 Calls Tryz.prog 179 #[.agg #[px,py,pz],.agg #[qx,qy,qz]] w fun e w'=>e = .returned (.agg #[(wrap64 (px - qx):Int),(wrap64 (py - qy):Int),(wrap64 (pz - qz):Int)])∧Below w.heap.size w w':=by
 have hn:=Bx.mk (zIh qx qy qz Qz R0 R5);clear Qz R0 R5;go_enter Tryz.func179,Tryz.ntmps179;go_wp2;generalize hW:((w.alloc _).alloc _).alloc _=W;have JE:=sz3 hW;have hB:=bl3 hW;have kp:Bk W (w.heap.size) #[px,py,pz] 23:=bk2 hW;have kq:Bk W (w.heap.size+1) #[qx,qy,qz] 23:=bk1 hW;have kr:Bk W (w.heap.size+1+1) #[(0:Int),(0:Int),(0:Int)] 23:=bk0 hW;clear hW;obtain ⟨cp0,cp1,cp2⟩:=kp.r3;obtain ⟨Fd,Fe,Ff⟩:=kq.r3;have q0:=Bx.mk fun dk osk=>rq (hn.o (grow (redrawn W dk) osk));have q1:=Bx.mk fun dk osk=>rq (zA px py pz (-qx) (-qy) (-qz) (grow (redrawn W dk) osk));refine zAK 4 (by kernel_rfl) (by kernel_rfl) ?_
 simp only [List.take_succ_cons,List.take_zero,List.drop_succ_cons,List.drop_zero]
 repeat (first | go_big_quiet_step (with_reducible first | exact q0.o _ _ | exact q1.o _ _) | quiet_step (with_reducible first | exact q0.o _ _ | exact q1.o _ _))
 refine wq ?_;rintro _ ⟨⟨dq,osq⟩,rfl⟩;have hb:=bq W dq osq;replace hB:=tr hB hb;clear cp0 cp1 cp2;clear Fd Fe Ff;clear q0;clear q1;replace kp:=kp.la hb;replace kq:=kq.la hb;replace kr:=kr.la hb;replace JE:=nlt JE hb.size;clear hb;generalize grow (redrawn W dq) osq=W1 at *;have Fj:=kr.cell 0 rfl;have GU:=kr.frozen 0;have Fk:=kr.cell 1 rfl;have GV:=kr.frozen 1;have Fl:=kr.cell 2 rfl;have GW:=kr.frozen 2;go_wp2;replace kr:=kr.put3 (.int .i64 (wrap64 (px + -qx))) (.int .i64 (wrap64 (py + -qy))) (.int .i64 (wrap64 (pz + -qz)));exact bodyPost_ret (v:=.agg #[(wrap64 (px + -qx):Int),(wrap64 (py + -qy):Int),(wrap64 (pz + -qz):Int)]) (results_cell_row rfl _ _ _ 23 #[(wrap64 (px + -qx):Int),(wrap64 (py + -qy):Int),(wrap64 (pz + -qz):Int)] (0,0) _ rfl kr Tryz.underlying23 rfl (by kernel_rfl)) rfl ⟨rfl,zBk hB (by omega) _ _ _⟩
theorem zMG (a b c d e f px py pz:Int) (w:World) :
 Calls Tryz.prog 134 #[.agg #[a,b,c,d,e,f],.agg #[px,py,pz]] w fun e' w'=>e' = .returned (.agg #[(wrap64 (a+px):Int),(wrap64 (b+py):Int),(wrap64 (c+pz):Int),(wrap64 (d+px):Int),(wrap64 (e+py):Int),(wrap64 (f+pz):Int)])∧Below w.heap.size w w':=by
 go_enter Tryz.func134,Tryz.ntmps134;go_wp2;generalize hW:((w.alloc _).alloc _).alloc _=W;have JE:=sz3 hW;have hB:=bl3 hW;have kb:Bk W (w.heap.size) #[a,b,c,d,e,f] 25:=bk2 hW;have kp:Bk W (w.heap.size+1) #[px,py,pz] 23:=bk1 hW;have kr:Bk W (w.heap.size+1+1) #[(0:Int),(0:Int),(0:Int),(0:Int),(0:Int),(0:Int)] 25:=bk0 hW;clear hW;obtain ⟨Ev,cb1,cb2,cb3,Ew,Ex⟩:=kb.r6;obtain ⟨cp0,cp1,cp2⟩:=kp.r3;have q0:=Bx.mk fun dk osk=>rq (zA a b c px py pz (grow (redrawn W dk) osk));have q1:=Bx.mk fun dk osk=>rq (zA d e f px py pz (grow (redrawn W dk) osk));refine zAK 9 (by kernel_rfl) (by kernel_rfl) ?_
 simp only [List.take_succ_cons,List.take_zero,List.drop_succ_cons,List.drop_zero]
 repeat (first | go_big_quiet_step (with_reducible first | exact q0.o _ _ | exact q1.o _ _) | quiet_step (with_reducible first | exact q0.o _ _ | exact q1.o _ _))
 refine wq ?_;rintro _ ⟨⟨dq,osq⟩,rfl⟩;have hb:=bq W dq osq;replace hB:=tr hB hb;clear Ev cb1 cb2 cb3 Ew Ex;clear cp0 cp1 cp2;clear q0;clear q1;replace kb:=kb.la hb;replace kp:=kp.la hb;replace kr:=kr.la hb;replace JE:=nlt JE hb.size;clear hb;generalize grow (redrawn W dq) osq=W1 at *;have Fj:=kr.cell 0 rfl;have GU:=kr.frozen 0;have Fk:=kr.cell 1 rfl;have GV:=kr.frozen 1;have Fl:=kr.cell 2 rfl;have GW:=kr.frozen 2;have Fm:=kr.cell 3 rfl;have GX:=kr.frozen 3;have Fn:=kr.cell 4 rfl;have GY:=kr.frozen 4;have Fo:=kr.cell 5 rfl;have GZ:=kr.frozen 5;go_wp2;replace kr:=kr.put6 (.int .i64 (wrap64 (a+px))) (.int .i64 (wrap64 (b+py))) (.int .i64 (wrap64 (c+pz))) (.int .i64 (wrap64 (d+px))) (.int .i64 (wrap64 (e+py))) (.int .i64 (wrap64 (f+pz)));exact bodyPost_ret (v:=.agg #[(wrap64 (a+px):Int),(wrap64 (b+py):Int),(wrap64 (c+pz):Int),(wrap64 (d+px):Int),(wrap64 (e+py):Int),(wrap64 (f+pz):Int)]) (results_cell_row rfl _ _ _ 25 #[(wrap64 (a+px):Int),(wrap64 (b+py):Int),(wrap64 (c+pz):Int),(wrap64 (d+px):Int),(wrap64 (e+py):Int),(wrap64 (f+pz):Int)] (0,0) _ rfl kr Tryz.underlying25 rfl (by kernel_rfl)) rfl ⟨rfl,zBm hB (by omega) _ _ _ _ _ _⟩
theorem zW {w w':World} {g:Nat} (h:w.grownBy w' (some g)) (j:Nat) (v:Value):w.grownBy (w'.setCell ⟨g,j,none⟩ v) (some g) :=
 ⟨h.os,h.tape,h.output,by rw [zMM];exact h.size,fun k hk Ph=>by
  rw [heap_setCell_other w' _ k v (fun e=>Ph (by rw [e]))]
  exact h.block k hk Ph⟩
theorem zBD (o:Oper) (h:o.op = .alloc 23) (ρ:Operand→Value) (w:World) :
 (execOp ρ o).run Tryz.prog w = .ok (.value (.pointer (some ⟨w.heap.size,0,none⟩))) (w.alloc (.cells #[(0:Int),(0:Int),(0:Int)] 23)):=by
 unfold execOp;simp only [h];go_simp
theorem zMw (o:Oper) (s u:Tmp) (h:o.op = .store 23 (.tmp s) (.tmp u)) (x0 x1 x2:Value) (a b c:Int) (ρ:Operand→Value) (w:World) (g:Nat) (h1:ρ (.tmp s) = .pointer (some ⟨g,0,none⟩))
 (h2:ρ (.tmp u) = .agg #[a,b,c]) (hb:Bk w g #[x0,x1,x2] 23) :
 ∃ w',(execOp ρ o).run Tryz.prog w = .ok .skip w'∧Bk w' g #[a,b,c] 23∧w.grownBy w' (some g)∧w'.heap.size=w.heap.size:=by
 obtain ⟨c0,c1,c2⟩:=hb.c3;obtain ⟨f0,f1,f2⟩:=hb.f3;refine ⟨_,?_,hb.put3 _ _ _,zW (zW (zW (World.grownBy.refl w _) _ _) _ _) _ _,by simp⟩
 unfold execOp;simp only [h];go_simp
theorem zBE (o:Oper) (h:o.op = .alloc 173) (ρ:Operand→Value) (w:World) :
 (execOp ρ o).run Tryz.prog w = .ok (.value (.pointer (some ⟨w.heap.size,0,none⟩))) (w.alloc (.cells #[(0:Int),(0:Int),(0:Int)] 173)):=by
 unfold execOp;simp only [h];go_simp
theorem zMx (o:Oper) (s u:Tmp) (h:o.op = .store 173 (.tmp s) (.tmp u)) (x0 x1 x2:Value) (a b c:Int) (ρ:Operand→Value) (w:World) (g:Nat) (h1:ρ (.tmp s) = .pointer (some ⟨g,0,none⟩))
 (h2:ρ (.tmp u) = .agg #[a,b,c]) (hb:Bk w g #[x0,x1,x2] 173) :
 ∃ w',(execOp ρ o).run Tryz.prog w = .ok .skip w'∧Bk w' g #[a,b,c] 173∧w.grownBy w' (some g)∧w'.heap.size=w.heap.size:=by
 obtain ⟨c0,c1,c2⟩:=hb.c3;obtain ⟨f0,f1,f2⟩:=hb.f3;refine ⟨_,?_,hb.put3 _ _ _,zW (zW (zW (World.grownBy.refl w _) _ _) _ _) _ _,by simp⟩
 unfold execOp;simp only [h];go_simp
end
section
open Go.RowKit Go.Sort Go.Maps
open Oct
attribute [local go_sem ↓] Go.wp_at_zero Go.wp_at_succ
theorem zIs:(Tryz.prog.info? 145).map (fun i=>(i.zero,i.size,i.bytes))=some (some (.agg #[(0:Int),(0:Int),.string ByteArray.empty,(0:Int),(0:Int),(0:Int),(0:Int),(0:Int),(0:Int),(0:Int),(0:Int),(0:Int)]),12,104):=by kernel_rfl
theorem Bk.grownO {w w':World} {b:Nat} {vs:Array Value} {t:TypeId} {row:Option Nat} (h:Bk w b vs t) (hg:w.grownBy w' row) (Ph:row ≠ some b):Bk w' b vs t:=(hg.block b h.lt (fun e=>Ph e.symm)).trans h
theorem Keeps.set {Far:Nat→Prop} {a b:World} (h:Keeps Far a b) (p:Addr) (v:Value) (hp : ¬Far p.block):Keeps Far a (b.setCell p v) :=
 h.trans ⟨rfl,rfl,rfl,by simp [World.setCell],fun k hk _=>heap_setCell_other b p k v (fun e=>hp (e ▸ hk))⟩
theorem zB (W:World) (o:Obj):Below W.heap.size W (W.alloc o):=bf
theorem zX (w:World) (p:Addr) (v:Value):w.grownBy (w.setCell p v) (some p.block) :=
 ⟨rfl,rfl,rfl,by simp [World.setCell],fun k _ Ph=>heap_setCell_other w p k v (fun e=>Ph (by rw [e]))⟩
structure Places (Far:Nat→Prop) (sb mb:Nat) (nv:Value):Prop where
 fs : ¬Far sb
 fm : ¬Far mb
 fn : ∀ g,nv.ownBlock=some g → ¬Far g
 apart:sb ≠ mb
 ns:nv.ownBlock ≠ some sb
 nm:nv.ownBlock ≠ some mb
theorem StoreIs.parts {w:World} {Far:Nat→Prop} {sb:Nat} {UA:Int} {ts:List Tr} (h:StoreIs w Far sb UA ts) :
 ∃ mb nv,Bk w sb #[UA,nv,.map (some mb)] 113∧w.ownsRow 0 145 12 nv ts.length (zLi ts)∧MapFn w mb ts.length (zG0 ts)∧Places Far sb mb nv:=by
 obtain ⟨mb,nv,h1,h2,h3,g1,g2,g3,g4,g5,g6⟩:=h;exact ⟨mb,nv,h1,h2,h3,g1,g2,g3,g4,g5,g6⟩
theorem StoreIs.of {w:World} {Far:Nat→Prop} {sb mb:Nat} {nv:Value} {UA:Int} {ts:List Tr} (h1:Bk w sb #[UA,nv,.map (some mb)] 113) (h2:w.ownsRow 0 145 12 nv ts.length (zLi ts))
 (h3:MapFn w mb ts.length (zG0 ts)) (g:Places Far sb mb nv):StoreIs w Far sb UA ts:=⟨mb,nv,h1,h2,h3,g.fs,g.fm,g.fn,g.apart,g.ns,g.nm⟩
theorem zMr {w W1 w1:World} {Far:Nat→Prop} {sb mb n1 n2 n3:Nat} {nv v1:Value} {F:Value→Option Int} {row xs:List Value} (hB:w.grownBy W1 none) (IV : ∀ k,Far k→k<w.heap.size) (_hrow:w.ownsRow 0 145 12 nv n1 row)
 (PL:MapFn w mb n2 F) (G:Places Far sb mb nv) (Rc:sb<w.heap.size) (QQ:w1.ownsRow 0 145 12 v1 n3 xs) (hg:W1.grownBy w1 nv.ownBlock) (Jk:v1.ownBlock=nv.ownBlock∨v1.ownBlock=some W1.heap.size) :
 (w1.setCell ⟨sb,1,none⟩ v1).ownsRow 0 145 12 v1 n3 xs∧MapFn (w1.setCell ⟨sb,1,none⟩ v1) mb n2 F∧Keeps Far w (w1.setCell ⟨sb,1,none⟩ v1)∧Places Far sb mb v1:=by
 have hmb:=PL.lt;have OY:=hB.size
 have P:Places Far sb mb v1:=by
  rcases Jk with e | e
  · exact ⟨G.fs,G.fm,by rw [e];exact G.fn,G.apart,by rw [e];exact G.ns,by rw [e];exact G.nm⟩
  · refine ⟨G.fs,G.fm,fun g hg h=>?_,G.apart,?_,?_⟩
    · rw [e] at hg;have:=IV g h;simp at hg;omega
    · rw [e];simp;omega
    · rw [e];simp;omega
 have hs:=zX w1 ⟨sb,1,none⟩ v1;refine ⟨World.ownsRow.kept QQ hs (.inr P.ns),((PL.kept hB (by simp)).kept hg (fun e=>G.nm e.symm)).kept hs (by simp only [ne_eq,Option.some.injEq];exact fun e=>G.apart e.symm),?_,P⟩
 refine ((Keeps.grown (Far:=Far) hB (by simp)).trans ?_).trans (Keeps.grown hs (fun g e=>by simp only [Option.some.injEq] at e;rw [←e];exact G.fs))
 exact Keeps.grown hg G.fn
theorem zMu {w W4 W5:World} {Far:Nat→Prop} {sb mb n':Nat} {UA:Int} {v1:Value} {F:Value→Option Int} {ts':List Tr} {xs:List Value} (ks:Bk W4 sb #[UA,v1,.map (some mb)] 113) (QQ:W4.ownsRow 0 145 12 v1 n' xs)
 (hK:Keeps Far w W4) (G:Places Far sb mb v1) (hg:W4.grownBy W5 (some mb)) (hm:MapFn W5 mb n' F) (hn:n'=ts'.length) (hx:xs=zLi ts') (hF : ∀ v,F v=zG0 ts' v):StoreIs W5 Far sb UA ts'∧Keeps Far w W5:=by
 subst hn hx;refine ⟨StoreIs.of (ks.grownO hg (by simpa using fun e=>G.apart e.symm)) (World.ownsRow.kept QQ hg (.inr G.nm)) (hm.congr fun key _ _=>hF key) G,hK.trans (Keeps.grown hg fun g e=>by simp only [Option.some.injEq] at e;rw [←e];exact G.fm)⟩
theorem zIE (w:World) (Far:Nat→Prop) (sb:Nat) (UA:Int) (ts:List Tr) (t:Tr) (k c d x0 x1 x2 x3 x4 x5 x6 x7:Int) (s:ByteArray) (hV:zo ts t=zIq k c s d x0 x1 x2 x3 x4 x5 x6 x7) (hG:Good ts) (ht:t ∉ ts) (OY:Leans ts t) (Kz:Bytes t) (hm:(ts.length:Int)<UA) (Od:ts.length≤1000000000000) (IV : ∀ k,Far k→k<w.heap.size)
 (hk : ∃ kl,keyOf Tryz.prog 145 (zIq k c s d x0 x1 x2 x3 x4 x5 x6 x7)=some kl) (hS:StoreIs w Far sb UA ts) :
 Calls Tryz.prog 109 #[.pointer (some ⟨sb,0,none⟩),.agg #[k,c,.string s,d,x0,x1,x2,x3,x4,x5,x6,x7]] w fun e' w'=>e' = .returned (.tuple #[(ts.length:Int),(0:Int)])∧StoreIs w' Far sb UA (ts++[t])∧Keeps Far w w':=by
 obtain ⟨mb,nv,ks,RJ,PL,hP⟩:=hS.parts;obtain ⟨kl,hk⟩:=hk;obtain ⟨i0,Na,TQ,TR,TS⟩:=info_parts zIs;obtain ⟨na,nc,rfl⟩:=zy RJ;have OH:=zG5 hG ht OY Kz;rw [hV] at OH
 have P2 : ∀ W,Below w.heap.size w W→(Instr.lookup 111 (.map (some mb)) (.agg #[k,c,.string s,d,x0,x1,x2,x3,x4,x5,x6,x7]) true).run Tryz.prog W = .ok (.tuple #[(0:Int),.bool false]) W :=
  fun W hb=>((PL.kept (row:=none) (zV hb) (by simp)).look hk).2 OH
 have Hl:=Bx.mk P2;have Ks:=Bx.mk ks;have DW:=Bx.mk RJ;have DB:=Bx.mk PL;have Hkf:=Bx.mk OH;have Hk:=Bx.mk hk;have Ea:=Bx.mk (zLj hG OY);have EW:=Bx.mk (fun v=>zG1 hG ht OY Kz v);rw [hV] at Ea EW;have Rc:=ks.lt;have hmb:=PL.lt;clear PL RJ P2 OH hk hV ks hG ht OY Kz;have G:=Bx.mk hP;have HF:=Bx.mk IV;clear hP IV hS;have Di:=Bx.mk (show ts.length+1=(ts++[t]).length by simp)
 generalize ts++[t]=ts' at *;generalize zLi ts=row at *;generalize zG0 ts=F at *;generalize ts.length=nn at *;go_enter Tryz.func109,Tryz.ntmps109;go_wp2_with fail;generalize hW:w.alloc _=W;have JE:=sz1 hW;have hB:=bl1 hW;have kn:Bk W (w.heap.size) #[k,c,.string s,d,x0,x1,x2,x3,x4,x5,x6,x7] 145:=bk0 hW;clear hW;have ks:=Ks.o.la hB
 have OT : ∀ dk osk,(Instr.lookup 111 (.map (some mb)) (.agg #[k,c,.string s,d,x0,x1,x2,x3,x4,x5,x6,x7]) true).run Tryz.prog (grow (redrawn W dk) osk) = .ok (.tuple #[(0:Int),.bool false]) (grow (redrawn W dk) osk) :=
  fun dk osk=>Hl.o _ (hB.trans ((bq W dk osk).mono hB.size))
 clear Hl Ks;obtain ⟨cn0,cn1,cn2,cn3,cn4,cn5,cn6,cn7⟩:=kn.r8;have FX : ∀ dk osk,(grow (redrawn W dk) osk).cell? ⟨w.heap.size,8,none⟩=some (.int .i64 x4):=cq (kn.cell 8 rfl);have FZ : ∀ dk osk,(grow (redrawn W dk) osk).cell? ⟨w.heap.size,9,none⟩=some (.int .i64 x5):=cq (kn.cell 9 rfl);have FM : ∀ dk osk,(grow (redrawn W dk) osk).cell? ⟨w.heap.size,10,none⟩=some (.int .i64 x6):=cq (kn.cell 10 rfl);have FO : ∀ dk osk,(grow (redrawn W dk) osk).cell? ⟨w.heap.size,11,none⟩=some (.int .i64 x7):=cq (kn.cell 11 rfl);obtain ⟨Ft,Fu,cs2⟩:=ks.r3;refine wg ?_
 repeat (first | go_big_quiet_step (fail) | quiet_step (fail))
 refine wq ?_;rintro _ ⟨⟨dq,osq⟩,rfl⟩;have hb:=bq W dq osq;clear cn0 cn1 cn2 cn3 cn4 cn5 cn6 cn7 FX FZ FM FO;clear Ft Fu cs2;replace hB:=tr hB hb;replace kn:=kn.la hb;replace ks:=ks.la hb;replace JE:=nlt JE hb.size;clear hb;generalize grow (redrawn W dq) osq=W1 at *;clear OT;go_wp2_with fail;obtain ⟨Ft,Fu,cs2⟩:=ks.r3;refine wg ?_
 repeat (first | go_big_quiet_step (fail) | quiet_step (fail))
 refine wq ?_;rintro _ ⟨⟨dq,osq⟩,rfl⟩;have hb:=bq W1 dq osq;clear Ft Fu cs2;replace hB:=tr hB hb;replace kn:=kn.la hb;replace ks:=ks.la hb;replace JE:=nlt JE hb.size;clear hb;generalize grow (redrawn W1 dq) osq=W2 at *;go_wp2_with fail;obtain ⟨cn0,cn1,cn2,cn3,cn4,cn5,cn6,cn7,FX,FZ,FM,FO⟩:=kn.c12;obtain ⟨Ft,Fu,cs2⟩:=ks.c3;have Gb:=ks.frozen 1;have RL : ∀ o,((W2.alloc o).drew).ownsRow 0 145 12 (.slice na nn nc) nn row:=fun o=>(World.ownsRow.alloc (World.ownsRow.kept DW.o (zV hB) (by cases (Value.slice na nn nc).ownBlock <;> simp)) o).drew
 have Pi:(Value.slice na nn nc).ownBlock ≠ some sb:=G.o.ns;have Pj:(Value.slice na nn nc).ownBlock ≠ some w.heap.size:=fun e=>by have:=(World.ownsRow.lt DW.o _ e).2;omega
 have al1 : ∀ o,(W2.alloc o).cell? ⟨sb,1,none⟩=some (.slice na nn nc):=fun o=>(ks.alloc o).cell 1 rfl;have U6:=Bx.mk ks;have Tv:=Bx.mk kn;replace RL:=Bx.mk RL;replace Pi:=Bx.mk Pi;replace Pj:=Bx.mk Pj;clear ks kn
 go_region_law
  ((refine zMn (by rfl) _ _ 110 (by rfl) 0 145 i0 _ 12 104 Tryz.underlying110 Na TQ TR TS rfl (by omega) (.slice na nn nc) nn row (by rfl) (RL.o _) ⟨W2.heap.size,0,none⟩ 1 1 [.int .i64 k,.int .i64 c,.string s,.int .i64 d,.int .i64 x0,.int .i64 x1,.int .i64 x2,.int .i64 x3,.int .i64 x4,.int .i64 x5,.int .i64 x6,.int .i64 x7] (by rfl) (by rfl) (World.news_of_block (cs:=#[k,c,.string s,d,x0,x1,x2,x3,x4,x5,x6,x7]) (t:=145) (fr:=(0,0)) (heap_alloc_new W2 _)) (by simp [Value.oneCell']) (by simp [maxLen];omega) (by omega) (Nat.zero_le _) ?_;intro v1 w1 QR NS Jk;obtain ⟨va,vc,rfl⟩:=zy QR.o;have U5:=Bk.grownO ((U6.o.alloc _).drew) NS.o Pi.o;have Tu:=Bk.grownO ((Tv.o.alloc _).drew) NS.o Pj.o;have Fv:=U5.cell 1 rfl;have Gc:=U5.frozen 1;have FK:=Tu.cell 0 rfl;have FL:=Tu.cell 1 rfl;have FQ:=Tu.cell 2 rfl;have FR:=Tu.cell 3 rfl;have FT:=Tu.cell 4 rfl;have FU:=Tu.cell 5 rfl;have FV:=Tu.cell 6 rfl;have FW:=Tu.cell 7 rfl;have FY:=Tu.cell 8 rfl;have Fa:=Tu.cell 9 rfl;have FN:=Tu.cell 10 rfl;have FP:=Tu.cell 11 rfl))
 all_goals (clear al1 cn0 cn1 cn2 cn3 cn4 cn5 cn6 cn7 FX FZ FM FO Ft Fu cs2 Gb)
 all_goals
  replace U5:Bk (w1.setCell ⟨sb,1,none⟩ (.slice va (nn+1) vc)) sb #[UA,.slice va (nn+1) vc,.map (some mb)] 113:=by simpa using U5.set 1 (.slice va (nn+1) vc)
  replace Tu:=Tu.other ⟨sb,1,none⟩ (.slice va (nn+1) vc) (by simp only;omega)
  obtain ⟨QT,PM,Ik,Iz⟩:=zMr (zV (hB.trans ((zB W2 _).drew.mono hB.size))) HF.o DW.o DB.o G.o Rc QR.o NS.o Jk.o;replace QT:=Bx.mk QT;replace PM:=Bx.mk PM;replace Ik:=Bx.mk Ik;replace Iz:=Bx.mk Iz;clear NS QR Jk Gc Fv FK FL FQ FR FT FU FV FW FY Fa FN FP U6 Tv RL Pi Pj;generalize w1.setCell ⟨sb,1,none⟩ (.slice va (nn+1) vc)=W3 at *;go_wp2_with fail;clear hB JE;have hB:Below W3.heap.size W3 W3:=br;have JE:W3.heap.size≤W3.heap.size:=nlr;obtain ⟨cn0,cn1,cn2,cn3,cn4,cn5,cn6,cn7⟩:=Tu.r8;have FX : ∀ dk osk,(grow (redrawn W3 dk) osk).cell? ⟨w.heap.size,8,none⟩=some (.int .i64 x4):=cq (Tu.cell 8 rfl);have FZ : ∀ dk osk,(grow (redrawn W3 dk) osk).cell? ⟨w.heap.size,9,none⟩=some (.int .i64 x5):=cq (Tu.cell 9 rfl);have FM : ∀ dk osk,(grow (redrawn W3 dk) osk).cell? ⟨w.heap.size,10,none⟩=some (.int .i64 x6):=cq (Tu.cell 10 rfl);have FO : ∀ dk osk,(grow (redrawn W3 dk) osk).cell? ⟨w.heap.size,11,none⟩=some (.int .i64 x7):=cq (Tu.cell 11 rfl);obtain ⟨Ft,Fu,cs2⟩:=U5.r3;refine zAK 11 (by kernel_rfl) (by kernel_rfl) ?_
  simp only [List.take_succ_cons,List.take_zero,List.drop_succ_cons,List.drop_zero]
  repeat (first | go_big_quiet_step (fail) | quiet_step (fail))
  refine wq ?_;rintro _ ⟨⟨dq,osq⟩,rfl⟩;have hb:=bq W3 dq osq;replace hB:=tr hB hb;clear cn0 cn1 cn2 cn3 cn4 cn5 cn6 cn7 FX FZ FM FO;clear Ft Fu cs2;replace Tu:=Tu.la hb;replace U5:=U5.la hb;replace JE:=nlt JE hb.size;clear hb;generalize grow (redrawn W3 dq) osq=W4 at *;obtain ⟨W5,RP,PI,N8⟩:=(PM.o.kept (row:=none) (zV hB) (by simp)).put (by simp [maxLen];omega) Hk.o Hkf.o (nn:Int) (WalkArith.wf_i64 (by omega))
  obtain ⟨J6,Il⟩:=zMu (Far:=Far) U5 (World.ownsRow.kept QT.o (zV hB) (by cases (Value.slice va (nn+1) vc).ownBlock <;> simp)) (Ik.o.trans (Keeps.below hB)) Iz.o N8 PI Di.o Ea.o.symm (fun v=>(EW.o v).symm)
  have Bt:=Bx.mk J6;have HK5:=Bx.mk Il;obtain ⟨p5,q5,k5,r5,-⟩:=J6;obtain ⟨ra,rc,rfl⟩:=zy r5;rw [←Di.o] at k5;have c5:=k5.cell 1 rfl;clear PI N8 Il r5 k5;unfold zIq at RP;go_wp2_with fail
  go_ret2
  exact ⟨rfl,Bt.o,HK5.o⟩
end
section
open Go.RowKit Go.Sort
theorem zML (a b c d e f:Int) (hS:Small ⟨⟨a,b,c⟩,⟨d,e,f⟩⟩ 1048575) (w:World) :
 Calls Tryz.prog 177 #[.agg #[a,b,c,d,e,f]] w fun e' w'=>e' = .returned (.agg #[.int .i64 (zz ⟨⟨a,b,c⟩,⟨d,e,f⟩⟩).x,.int .i64 (zz ⟨⟨a,b,c⟩,⟨d,e,f⟩⟩).y,.int .i64 (zz ⟨⟨a,b,c⟩,⟨d,e,f⟩⟩).z])∧Below w.heap.size w w':=by
 obtain ⟨s1,s2,s3,s4,s5,s6⟩:=hS;simp only [] at s1 s2 s3 s4 s5 s6;cases he:zS ⟨⟨a,b,c⟩,⟨d,e,f⟩⟩ with
 | true =>
   have hz:zz ⟨⟨a,b,c⟩,⟨d,e,f⟩⟩=Pt.zero:=by unfold zz;rw [if_pos he]
   have Hz:=Bx.mk hz;have He:=Bx.mk he;clear hz he;go_enter Tryz.func177,Tryz.ntmps177;go_wp2_with fail;generalize hW:(w.alloc _).alloc _=W;have JE:=sz2 hW;have hB:=bl2 hW;have kb:Bk W (w.heap.size) #[a,b,c,d,e,f] 25:=bk1 hW;have kr:Bk W (w.heap.size+1) #[(0:Int),(0:Int),(0:Int)] 23:=bk0 hW;clear hW;refine (zU _ _ _ _ _ _ _).mono ?_;rintro e' w1 ⟨rfl,hb⟩;rw [He.o];replace hB:=tr hB hb;replace kb:=kb.la hb;replace kr:=kr.la hb;replace JE:=nlt JE hb.size;clear hb;obtain ⟨Ev,cb1,cb2,cb3,Ew,Ex⟩:=kb.c6;obtain ⟨Fj,Fk,Fl⟩:=kr.c3;obtain ⟨GU,GV,GW⟩:=kr.f3;go_wp2_with fail;replace kr:=kr.put3 (.int .i64 0) (.int .i64 0) (.int .i64 0);exact bodyPost_ret (v:=.agg #[(0:Int),(0:Int),(0:Int)]) (results_cell_row rfl _ _ _ 23 #[(0:Int),(0:Int),(0:Int)] (0,0) _ rfl kr Tryz.underlying23 rfl (by kernel_rfl)) rfl ⟨by rw [Hz.o];rfl,zBk hB (by omega) _ _ _⟩
 | false =>
   have hz:zz ⟨⟨a,b,c⟩,⟨d,e,f⟩⟩=⟨d - a,e - b,f - c⟩:=by unfold zz;rw [if_neg (by simp [he])];rfl
   have Hz:=Bx.mk hz;have He:=Bx.mk he;have MW:=zT.1 he;simp only [] at MW;clear hz he;have S8:=Bx.mk fun W=>zM8 d e f a b c (by omega) (by omega) (by omega) W
   rw [wi (d - a) (by omega),wi (e - b) (by omega),wi (f - c) (by omega)] at S8
   clear MW s1 s2 s3 s4 s5 s6;go_enter Tryz.func177,Tryz.ntmps177;go_wp2_with fail;generalize hW:(w.alloc _).alloc _=W;have JE:=sz2 hW;have hB:=bl2 hW;have kb:Bk W (w.heap.size) #[a,b,c,d,e,f] 25:=bk1 hW;have kr:Bk W (w.heap.size+1) #[(0:Int),(0:Int),(0:Int)] 23:=bk0 hW;clear hW;refine (zU _ _ _ _ _ _ _).mono ?_;rintro e' w1 ⟨rfl,hb⟩;rw [He.o];replace hB:=tr hB hb;replace kb:=kb.la hb;replace kr:=kr.la hb;replace JE:=nlt JE hb.size;clear hb;obtain ⟨Ev,cb1,cb2,cb3,Ew,Ex⟩:=kb.c6;obtain ⟨Fj,Fk,Fl⟩:=kr.c3;go_wp2_with fail;refine (S8.o _).mono ?_;rintro e' w2 ⟨rfl,hb⟩;clear Ev cb1 cb2 cb3 Ew Ex Fj Fk Fl;replace hB:=tr hB hb;replace kb:=kb.la hb;replace kr:=kr.la hb;replace JE:=nlt JE hb.size;clear hb;obtain ⟨Fj,Fk,Fl⟩:=kr.c3;obtain ⟨GU,GV,GW⟩:=kr.f3;go_wp2_with fail;replace kr:=kr.put3 (.int .i64 (d - a)) (.int .i64 (e - b)) (.int .i64 (f - c));exact bodyPost_ret (v:=.agg #[(d - a:Int),(e - b:Int),(f - c:Int)]) (results_cell_row rfl _ _ _ 23 #[(d - a:Int),(e - b:Int),(f - c:Int)] (0,0) _ rfl kr Tryz.underlying23 rfl (by kernel_rfl)) rfl ⟨by rw [Hz.o],zBk hB (by omega) _ _ _⟩
theorem zOA (a b c d e f:Int) (hS:Small ⟨⟨a,b,c⟩,⟨d,e,f⟩⟩ 1048575) (w:World) :
 Calls Tryz.prog 143 #[.agg #[a,b,c,d,e,f]] w fun e' w'=>e' = .returned (.int .i64 (zAE ⟨⟨a,b,c⟩,⟨d,e,f⟩⟩))∧Below w.heap.size w w':=by
 have S9:=Bx.mk fun W=>zML a b c d e f hS W;have hv:=Bx.mk (show zAE ⟨⟨a,b,c⟩,⟨d,e,f⟩⟩=(zz ⟨⟨a,b,c⟩,⟨d,e,f⟩⟩).x * (zz ⟨⟨a,b,c⟩,⟨d,e,f⟩⟩).y * (zz ⟨⟨a,b,c⟩,⟨d,e,f⟩⟩).z from rfl);obtain ⟨⟨p1,p2⟩,p3,p4⟩:=zKT ⟨⟨a,b,c⟩,⟨d,e,f⟩⟩ (by decide) hS
 rw [show zAE ⟨⟨a,b,c⟩,⟨d,e,f⟩⟩=(zz ⟨⟨a,b,c⟩,⟨d,e,f⟩⟩).x * (zz ⟨⟨a,b,c⟩,⟨d,e,f⟩⟩).y * (zz ⟨⟨a,b,c⟩,⟨d,e,f⟩⟩).z from rfl] at p3 p4;clear hS;generalize (zz ⟨⟨a,b,c⟩,⟨d,e,f⟩⟩)=s at *;obtain ⟨sx,sy,sz⟩:=s;simp only [] at *;have m1:=wj (sx * sy) (by omega)
 have m2:=wj (sx * sy * sz) (by omega)
 have m3:=wi (sx * sy) (by omega)
 have m4:=wi (sx * sy * sz) (by omega)
 clear p1 p2 p3 p4;go_enter Tryz.func143,Tryz.ntmps143;go_wp2_with fail;generalize hW:w.alloc _=W;have JE:=sz1 hW;have hB:=bl1 hW;have kb:Bk W (w.heap.size) #[a,b,c,d,e,f] 25:=bk0 hW;clear hW;refine (S9.o _).mono ?_;rintro e' w1 ⟨rfl,hb⟩;replace hB:=tr hB hb;replace kb:=kb.la hb;replace JE:=nlt JE hb.size;clear hb;go_wp2_with fail;go_ret;exact ⟨zLa (by rw [hv.o]),hB.alloc hB.size _⟩
theorem zGe (a b c d e f px py pz:Int) (hS:Small ⟨⟨a,b,c⟩,⟨d,e,f⟩⟩ 1048575) (w:World) :
 Calls Tryz.prog 165 #[.agg #[a,b,c,d,e,f],.agg #[px,py,pz]] w fun e' w'=>e' = .returned (.int .i64 (ze ⟨⟨a,b,c⟩,⟨d,e,f⟩⟩ ⟨px,py,pz⟩))∧Below w.heap.size w w':=by
 cases hin:inB ⟨px,py,pz⟩ ⟨⟨a,b,c⟩,⟨d,e,f⟩⟩ with
 | false =>
   have hv:=Bx.mk (show ze ⟨⟨a,b,c⟩,⟨d,e,f⟩⟩ ⟨px,py,pz⟩ = -1 by unfold ze;rw [if_neg (by simp [hin])])
   have Cv:=Bx.mk hin;clear hin hS;go_enter Tryz.func165,Tryz.ntmps165;go_wp2_with fail;generalize hW:(w.alloc _).alloc _=W;have JE:=sz2 hW;have hB:=bl2 hW;have kb:Bk W (w.heap.size) #[a,b,c,d,e,f] 25:=bk1 hW;have kp:Bk W (w.heap.size+1) #[px,py,pz] 23:=bk0 hW;clear hW;refine (zGX _ _ _ _ _ _ _ _ _ _).mono ?_;rintro e' w1 ⟨rfl,hb⟩;rw [Cv.o];go_wp2_with fail;go_ret;exact ⟨zLa hv.o.symm,tr hB hb⟩
 | true =>
   have MW:=zc hin;have Ns:=zb.1 hin;have Mz:=zAA MW;have hv:=Bx.mk (show ze ⟨⟨a,b,c⟩,⟨d,e,f⟩⟩ ⟨px,py,pz⟩=((pz - c) * (zz ⟨⟨a,b,c⟩,⟨d,e,f⟩⟩).y+(py - b)) * (zz ⟨⟨a,b,c⟩,⟨d,e,f⟩⟩).x+(px - a) by unfold ze;rw [if_pos hin])
   have KK:=zf hin;rw [hv.o] at KK;have Se:=(zKT ⟨⟨a,b,c⟩,⟨d,e,f⟩⟩ (by decide) hS).2.2
   have S9:=Bx.mk fun W=>zML a b c d e f hS W;have Cv:=Bx.mk hin;obtain ⟨s1,s2,s3,s4,s5,s6⟩:=hS;simp only [] at s1 s2 s3 s4 s5 s6 Ns;have S8:=Bx.mk fun W=>zM8 px py pz a b c (by omega) (by omega) (by omega) W
   rw [wi (px - a) (by omega),wi (py - b) (by omega),wi (pz - c) (by omega)] at S8
   have k1:=Int.mul_nonneg (show 0≤pz - c by omega) (show 0≤(zz ⟨⟨a,b,c⟩,⟨d,e,f⟩⟩).y by rw [Mz];simp only [Pt.sub];omega)
   have k2:0≤(zz ⟨⟨a,b,c⟩,⟨d,e,f⟩⟩).x:=by rw [Mz];simp only [Pt.sub];omega
   have k3:1≤(zz ⟨⟨a,b,c⟩,⟨d,e,f⟩⟩).x:=by rw [Mz];simp only [Pt.sub];omega
   have k4:0≤px - a∧0≤py - b:=by omega
   generalize zAE ⟨⟨a,b,c⟩,⟨d,e,f⟩⟩=V at *;generalize zz ⟨⟨a,b,c⟩,⟨d,e,f⟩⟩=s at *;obtain ⟨sx,sy,sz⟩:=s;simp only [] at S9 hv KK k1 k2 k3;generalize px - a=dx at *;generalize py - b=dy at *;generalize pz - c=dz at *
   have k5:(dz * sy+dy)≤(dz * sy+dy) * sx:=by
    have:=Int.mul_le_mul_of_nonneg_left k3 (show 0≤dz * sy+dy by omega)
    rwa [Int.mul_one] at this
   have m1:=wj (dz * sy) (by omega)
   have m3:=wj ((dz * sy+dy) * sx) (by omega)
   have w1:=wi (dz * sy) (by omega)
   have w3:=wi ((dz * sy+dy) * sx) (by omega)
   have w2:=wi (dz * sy+dy) (by omega)
   have w4:=wi ((dz * sy+dy) * sx+dx) (by omega)
   have m2:=wj (dz * sy+dy) (by omega)
   have m4:=wj ((dz * sy+dy) * sx+dx) (by omega)
   clear s1 s2 s3 s4 s5 s6 Ns hin MW Mz KK Se k1 k2 k3 k4 k5;go_enter Tryz.func165,Tryz.ntmps165;go_wp2_with fail;generalize hW:(w.alloc _).alloc _=W;have JE:=sz2 hW;have hB:=bl2 hW;have kb:Bk W (w.heap.size) #[a,b,c,d,e,f] 25:=bk1 hW;have kp:Bk W (w.heap.size+1) #[px,py,pz] 23:=bk0 hW;clear hW;refine (zGX _ _ _ _ _ _ _ _ _ _).mono ?_;rintro e' W2 ⟨rfl,hb⟩;rw [Cv.o];replace hB:=tr hB hb;replace kb:=kb.la hb;replace kp:=kp.la hb;replace JE:=nlt JE hb.size;clear hb;go_wp2_with fail;obtain ⟨Ev,cb1,cb2,cb3,Ew,Ex⟩:=kb.r6;obtain ⟨cp0,cp1,cp2⟩:=kp.r3;have q0:=Bx.mk fun dk osk=>(S9.o (grow (redrawn W2 dk) osk));have q1:=Bx.mk fun dk osk=>(S8.o (grow (redrawn W2 dk) osk));refine zAI 6 2 (fun j=>[5,6].getD j 0) (fun j=>[12,16].getD j 0) (fun j=>[23,23].getD j 0) (fun _=>#[.int .i64 0,.int .i64 0,.int .i64 0]) (fun j=>[#[.int .i64 sx,.int .i64 sy,.int .i64 sz],#[.int .i64 dx,.int .i64 dy,.int .i64 dz]].getD j #[]) (by kernel_rfl) (by kernel_rfl) ⟨fun j hj=>?_,fun j hj=>?_⟩ 31 (by kernel_rfl) (by rfl) ?_
   · match j,hj with
     | 0,_=>exact ⟨_,rfl,rfl,rfl,zBD _ rfl⟩
     | 1,_=>exact ⟨_,rfl,rfl,rfl,zBD _ rfl⟩
     | j+2,hj=>omega
   · match j,hj with
     | 0,_=>exact ⟨_,rfl,rfl,rfl,fun ρ w g h1 h2 hb=>zMw _ 5 12 rfl _ _ _ _ _ _ ρ w g h1 h2 hb⟩
     | 1,_=>exact ⟨_,rfl,rfl,rfl,fun ρ w g h1 h2 hb=>zMw _ 6 16 rfl _ _ _ _ _ _ ρ w g h1 h2 hb⟩
     | j+2,hj=>omega
   simp only [List.take_succ_cons,List.take_zero]
   repeat (refine zOT (fun K hK=>?_);go_simp;first | (refine hK _ ?_;clear hK K) | (apply Exists.intro;refine ⟨fun _=>?_,hK _ ?_⟩;(first | ((with_reducible refine (q0.o _ _).mono ?_);exact fun _ _ h=>by simpa using h) | ((with_reducible refine (q1.o _ _).mono ?_);exact fun _ _ h=>by simpa using h));clear hK K))
   refine zOS ⟨fun j hj=>match j,hj with | 0,_=>rfl | 1,_=>rfl | j+2,hj=>absurd hj (by omega),fun g W1 hb hg Ph=>?_⟩
   obtain ⟨hs,ks⟩:=hg 0 (by omega)
   obtain ⟨hd,kd⟩:=hg 1 (by omega)
   have UE:=Ph 0 1 (by omega) (by omega) (by omega)
   clear hg Ph;clear Ev cb1 cb2 cb3 Ew Ex;clear cp0 cp1 cp2;clear q0;clear q1;replace hB:=tr hB hb;replace kb:=kb.la hb;replace kp:=kp.la hb;replace JE:=nlt JE hb.size;clear hb;simp only [zKg,List.range_succ,List.range_zero,List.nil_append,List.cons_append,List.map_cons,List.map_nil,List.foldl_cons,List.foldl_nil,List.getD_cons_zero,List.getD_cons_succ];generalize g 0=gs at *;generalize g 1=gd at *;replace ks:Bk W1 gs #[sx,sy,sz] 23:=ks;replace kd:Bk W1 gd #[dx,dy,dz] 23:=kd;obtain ⟨Ft,Fu⟩:=ks.c2;obtain ⟨Ez,cd1,cd2⟩:=kd.c3;go_wp2_with fail;go_ret;exact ⟨zLa (by rw [hv.o]),hB⟩
theorem zHx (px py pz:Int) (w:World) :
 Calls Tryz.prog 171 #[.agg #[px,py,pz]] w fun e w'=>e = .returned (.agg #[px,py,pz])∧Below w.heap.size w w':=by
 go_enter Tryz.func171,Tryz.ntmps171;go_wp2;generalize hW:(w.alloc _).alloc _=W;have JE:=sz2 hW;have hB:=bl2 hW;have kp:Bk W (w.heap.size) #[px,py,pz] 23:=bk1 hW;have kr:Bk W (w.heap.size+1) #[px,py,pz] 173:=bk0 hW;clear hW;exact bodyPost_ret (v:=.agg #[px,py,pz]) (results_cell_row rfl _ _ _ 173 #[px,py,pz] (0,0) _ rfl kr Tryz.underlying173 rfl (by kernel_rfl)) rfl ⟨rfl,hB⟩
theorem zFz (x y:Int) (w:World) :
 Calls Tryz.prog 132 #[x,y] w fun e w'=>e = .returned (.int .i64 (max x y))∧w=w':=by
 go_enter Tryz.func132,Tryz.ntmps132;go_wp2
 all_goals
  go_ret;exact ⟨zLa (by omega),rfl⟩
theorem zHq (x y:Int) (w:World) :
 Calls Tryz.prog 133 #[x,y] w fun e w'=>e = .returned (.int .i64 (min x y))∧w=w':=by
 go_enter Tryz.func133,Tryz.ntmps133;go_wp2
 all_goals
  go_ret;exact ⟨zLa (by omega),rfl⟩
theorem each_1 (p1 p2 p3:Addr) (v0 v1 v2:Int) (w:World)
 (hf : ∀ (k v:Int),(k=0∧v=v0)∨(k=1∧v=v1)∨(k=2∧v=v2) → ∀ W,Below w.heap.size w W→Calls Tryz.prog 173 #[k,.pointer (some p1),.pointer (some p2),.pointer (some p3)] W fun e w'=>e = .returned v∧Below W.heap.size W w') :
 Calls Tryz.prog 172 #[.func (.func 173) #[] #[.pointer (some p1),.pointer (some p2),.pointer (some p3)]] w fun e w'=>e = .returned (.agg #[v0,v1,v2])∧Below w.heap.size w w':=by
 have f0:=Bx.mk fun W=>hf 0 v0 (by omega) W
 have f1:=Bx.mk fun W=>hf 1 v1 (by omega) W
 have f2:=Bx.mk fun W=>hf 2 v2 (by omega) W
 clear hf;go_enter Tryz.func172,Tryz.ntmps172;go_wp2_with fail;generalize hW:(w.alloc _).alloc _=W;have JE:=sz2 hW;have hB:=bl2 hW;have kr:Bk W (w.heap.size) #[(0:Int),(0:Int),(0:Int)] 23:=bk1 hW;have kc:Bk W (w.heap.size+1) #[(0:Int),(0:Int),(0:Int)] 173:=bk0 hW;clear hW
 go_loopw [5] (fun i wr => ∃ k:Nat,k≤3∧i = .int .i64 k∧Bk wr (w.heap.size) #[(0:Int),(0:Int),(0:Int)] 23∧Bk wr (w.heap.size+1) #[.int .i64 (if 0<k then v0 else 0),.int .i64 (if 1<k then v1 else 0),.int .i64 (if 2<k then v2 else 0)] 173∧Below w.heap.size w wr∧w.heap.size+1<wr.heap.size) (fun i _=>3 - (intOf i).toNat)
 case atStart=>exact ⟨0,by omega,rfl,kr,kc,hB,by omega⟩
 case round =>
  clear kr kc hB JE;obtain ⟨k,hk,rfl,kr,kc,hB,JE⟩:=hrel;by_cases hlt:k<3
  · have LB:Bx (Calls Tryz.prog 173 #[(k:Int),.pointer (some p1),.pointer (some p2),.pointer (some p3)] wr fun e w'=>e = .returned (.int .i64 (if k=0 then v0 else if k=1 then v1 else v2))∧Below wr.heap.size wr w'):=⟨by
     obtain rfl | rfl | rfl:k=0∨k=1∨k=2:=by omega
     · exact f0.o wr hB
     · exact f1.o wr hB
     · exact f2.o wr hB⟩
    go_wp2_with fail;refine LB.o.mono ?_;rintro e w1 ⟨rfl,hb⟩;replace hB:=tr hB hb;replace kr:=kr.la hb;replace kc:=kc.la hb;replace JE:=nll JE hb.size;clear hb LB f0 f1 f2
    have LM : ∃ v,w1.cell? ⟨w.heap.size+1,k,none⟩=some v:=by
     obtain rfl | rfl | rfl:k=0∨k=1∨k=2:=by omega
     · exact ⟨_,kc.cell 0 rfl⟩
     · exact ⟨_,kc.cell 1 rfl⟩
     · exact ⟨_,kc.cell 2 rfl⟩
    obtain ⟨vc,LM⟩:=LM;have hff:=kc.frozen k;have Td:=kc.set k (.int .i64 (if k=0 then v0 else if k=1 then v1 else v2));have U1:=kr.other ⟨w.heap.size+1,k,none⟩ (.int .i64 (if k=0 then v0 else if k=1 then v1 else v2)) (by simp)
    have Kc:Bx (Bk (w1.setCell ⟨w.heap.size+1,k,none⟩ (.int .i64 (if k=0 then v0 else if k=1 then v1 else v2))) (w.heap.size+1) #[.int .i64 (if 0<k+1 then v0 else 0),.int .i64 (if 1<k+1 then v1 else 0),.int .i64 (if 2<k+1 then v2 else 0)] 173):=⟨by
     obtain rfl | rfl | rfl:k=0∨k=1∨k=2:=by omega
     all_goals simpa using Td⟩
    have Kr:=Bx.mk U1;clear kc kr Td U1;generalize (if k=0 then v0 else if k=1 then v1 else v2)=vv at *;go_wp2_with fail
    go_roundw
    case rel=>exact ⟨k+1,by omega,by go_num,Kr.o,Kc.o,hB.setCell (by simp) _,by rw [zMM];omega⟩
    case measure=>simp [intOf];omega
  · obtain rfl:k=3:=by omega
    obtain ⟨cc0,cc1,cc2⟩:=kc.c3;obtain ⟨Fj,Fk,Fl⟩:=kr.c3;obtain ⟨GU,GV,GW⟩:=kr.f3;go_wp2_with fail;replace kr:=kr.put3 (.int .i64 v0) (.int .i64 v1) (.int .i64 v2);exact bodyPost_ret (v:=.agg #[v0,v1,v2]) (results_cell_row rfl _ _ _ 23 #[v0,v1,v2] (0,0) _ rfl kr Tryz.underlying23 rfl (by kernel_rfl)) rfl ⟨rfl,zBk hB (by omega) _ _ _⟩
theorem each_2 (p1 p2 p3:Addr) (v0 v1 v2:Int) (w:World)
 (hf : ∀ (k v:Int),(k=0∧v=v0)∨(k=1∧v=v1)∨(k=2∧v=v2) → ∀ W,Below w.heap.size w W→Calls Tryz.prog 174 #[k,.pointer (some p1),.pointer (some p2),.pointer (some p3)] W fun e w'=>e = .returned v∧Below W.heap.size W w') :
 Calls Tryz.prog 172 #[.func (.func 174) #[] #[.pointer (some p1),.pointer (some p2),.pointer (some p3)]] w fun e w'=>e = .returned (.agg #[v0,v1,v2])∧Below w.heap.size w w':=by
 have f0:=Bx.mk fun W=>hf 0 v0 (by omega) W
 have f1:=Bx.mk fun W=>hf 1 v1 (by omega) W
 have f2:=Bx.mk fun W=>hf 2 v2 (by omega) W
 clear hf;go_enter Tryz.func172,Tryz.ntmps172;go_wp2_with fail;generalize hW:(w.alloc _).alloc _=W;have JE:=sz2 hW;have hB:=bl2 hW;have kr:Bk W (w.heap.size) #[(0:Int),(0:Int),(0:Int)] 23:=bk1 hW;have kc:Bk W (w.heap.size+1) #[(0:Int),(0:Int),(0:Int)] 173:=bk0 hW;clear hW
 go_loopw [5] (fun i wr => ∃ k:Nat,k≤3∧i = .int .i64 k∧Bk wr (w.heap.size) #[(0:Int),(0:Int),(0:Int)] 23∧Bk wr (w.heap.size+1) #[.int .i64 (if 0<k then v0 else 0),.int .i64 (if 1<k then v1 else 0),.int .i64 (if 2<k then v2 else 0)] 173∧Below w.heap.size w wr∧w.heap.size+1<wr.heap.size) (fun i _=>3 - (intOf i).toNat)
 case atStart=>exact ⟨0,by omega,rfl,kr,kc,hB,by omega⟩
 case round =>
  clear kr kc hB JE;obtain ⟨k,hk,rfl,kr,kc,hB,JE⟩:=hrel;by_cases hlt:k<3
  · have LB:Bx (Calls Tryz.prog 174 #[(k:Int),.pointer (some p1),.pointer (some p2),.pointer (some p3)] wr fun e w'=>e = .returned (.int .i64 (if k=0 then v0 else if k=1 then v1 else v2))∧Below wr.heap.size wr w'):=⟨by
     obtain rfl | rfl | rfl:k=0∨k=1∨k=2:=by omega
     · exact f0.o wr hB
     · exact f1.o wr hB
     · exact f2.o wr hB⟩
    go_wp2_with fail;refine LB.o.mono ?_;rintro e w1 ⟨rfl,hb⟩;replace hB:=tr hB hb;replace kr:=kr.la hb;replace kc:=kc.la hb;replace JE:=nll JE hb.size;clear hb LB f0 f1 f2
    have LM : ∃ v,w1.cell? ⟨w.heap.size+1,k,none⟩=some v:=by
     obtain rfl | rfl | rfl:k=0∨k=1∨k=2:=by omega
     · exact ⟨_,kc.cell 0 rfl⟩
     · exact ⟨_,kc.cell 1 rfl⟩
     · exact ⟨_,kc.cell 2 rfl⟩
    obtain ⟨vc,LM⟩:=LM;have hff:=kc.frozen k;have Td:=kc.set k (.int .i64 (if k=0 then v0 else if k=1 then v1 else v2));have U1:=kr.other ⟨w.heap.size+1,k,none⟩ (.int .i64 (if k=0 then v0 else if k=1 then v1 else v2)) (by simp)
    have Kc:Bx (Bk (w1.setCell ⟨w.heap.size+1,k,none⟩ (.int .i64 (if k=0 then v0 else if k=1 then v1 else v2))) (w.heap.size+1) #[.int .i64 (if 0<k+1 then v0 else 0),.int .i64 (if 1<k+1 then v1 else 0),.int .i64 (if 2<k+1 then v2 else 0)] 173):=⟨by
     obtain rfl | rfl | rfl:k=0∨k=1∨k=2:=by omega
     all_goals simpa using Td⟩
    have Kr:=Bx.mk U1;clear kc kr Td U1;generalize (if k=0 then v0 else if k=1 then v1 else v2)=vv at *;go_wp2_with fail
    go_roundw
    case rel=>exact ⟨k+1,by omega,by go_num,Kr.o,Kc.o,hB.setCell (by simp) _,by rw [zMM];omega⟩
    case measure=>simp [intOf];omega
  · obtain rfl:k=3:=by omega
    obtain ⟨cc0,cc1,cc2⟩:=kc.c3;obtain ⟨Fj,Fk,Fl⟩:=kr.c3;obtain ⟨GU,GV,GW⟩:=kr.f3;go_wp2_with fail;replace kr:=kr.put3 (.int .i64 v0) (.int .i64 v1) (.int .i64 v2);exact bodyPost_ret (v:=.agg #[v0,v1,v2]) (results_cell_row rfl _ _ _ 23 #[v0,v1,v2] (0,0) _ rfl kr Tryz.underlying23 rfl (by kernel_rfl)) rfl ⟨rfl,zBk hB (by omega) _ _ _⟩
theorem clo_1 (ga gb gc:Nat) (a0 a1 a2 b0 b1 b2:Int) (k v:Int) (hk:(k=0∧v=max a0 b0)∨(k=1∧v=max a1 b1)∨(k=2∧v=max a2 b2)) (w:World)
 (hf:w.cell? ⟨ga,0,none⟩=some (.func (.func 132) #[] #[])) (ha:Bk w gb #[a0,a1,a2] 173) (hb:Bk w gc #[b0,b1,b2] 173) :
 Calls Tryz.prog 173 #[k,.pointer (some ⟨ga,0,none⟩),.pointer (some ⟨gb,0,none⟩),.pointer (some ⟨gc,0,none⟩)] w fun e w'=>e = .returned v∧Below w.heap.size w w':=by
 obtain ⟨i,x,y,hi,hi3,hv,hx,hy⟩ : ∃ (i:Nat) (x y:Int),k=(i:Int)∧i<3∧v=max x y∧w.cell? ⟨gb,i,none⟩=some (.int .i64 x)∧w.cell? ⟨gc,i,none⟩=some (.int .i64 y):=by
  rcases hk with ⟨rfl,rfl⟩ | ⟨rfl,rfl⟩ | ⟨rfl,rfl⟩
  · exact ⟨0,_,_,rfl,by omega,rfl,ha.cell 0 rfl,hb.cell 0 rfl⟩
  · exact ⟨1,_,_,rfl,by omega,rfl,ha.cell 1 rfl,hb.cell 1 rfl⟩
  · exact ⟨2,_,_,rfl,by omega,rfl,ha.cell 2 rfl,hb.cell 2 rfl⟩
 subst hi;clear hk ha hb;have Hv:=Bx.mk hv;clear hv;have b1:(0:Int)≤(i:Int):=by omega
 have b2:(i:Int)<3:=by omega
 have cf : ∀ dk osk,(grow (redrawn w dk) osk).cell? ⟨ga,0,none⟩=some (.func (.func 132) #[] #[]):=cq hf;have cx : ∀ dk osk,(grow (redrawn w dk) osk).cell? ⟨gb,i,none⟩=some (.int .i64 x):=cq hx;have cy : ∀ dk osk,(grow (redrawn w dk) osk).cell? ⟨gc,i,none⟩=some (.int .i64 y):=cq hy;have q0:=Bx.mk fun dk osk=>rq ((zFz x y (grow (redrawn w dk) osk)).mono fun _ _ ⟨h1,h2⟩=>⟨h1,by subst h2;exact br⟩)
 clear hf hx hy;go_enter Tryz.func173,Tryz.ntmps173;go_wp2_with fail;refine wg ?_
 repeat (first | go_big_quiet_step (with_reducible exact q0.o _ _) | quiet_step (with_reducible exact q0.o _ _))
 refine wq ?_;rintro _ ⟨⟨dq,osq⟩,rfl⟩;have hb:=bq w dq osq;clear cf cx cy q0;generalize grow (redrawn w dq) osq=W1 at *;go_wp2_with fail;go_ret;exact ⟨zLa Hv.o.symm,hb⟩
theorem clo_2 (ga gb gc:Nat) (a0 a1 a2 b0 b1 b2:Int) (k v:Int) (hk:(k=0∧v=min a0 b0)∨(k=1∧v=min a1 b1)∨(k=2∧v=min a2 b2)) (w:World)
 (hf:w.cell? ⟨ga,0,none⟩=some (.func (.func 133) #[] #[])) (ha:Bk w gb #[a0,a1,a2] 173) (hb:Bk w gc #[b0,b1,b2] 173) :
 Calls Tryz.prog 174 #[k,.pointer (some ⟨ga,0,none⟩),.pointer (some ⟨gb,0,none⟩),.pointer (some ⟨gc,0,none⟩)] w fun e w'=>e = .returned v∧Below w.heap.size w w':=by
 obtain ⟨i,x,y,hi,hi3,hv,hx,hy⟩ : ∃ (i:Nat) (x y:Int),k=(i:Int)∧i<3∧v=min x y∧w.cell? ⟨gb,i,none⟩=some (.int .i64 x)∧w.cell? ⟨gc,i,none⟩=some (.int .i64 y):=by
  rcases hk with ⟨rfl,rfl⟩ | ⟨rfl,rfl⟩ | ⟨rfl,rfl⟩
  · exact ⟨0,_,_,rfl,by omega,rfl,ha.cell 0 rfl,hb.cell 0 rfl⟩
  · exact ⟨1,_,_,rfl,by omega,rfl,ha.cell 1 rfl,hb.cell 1 rfl⟩
  · exact ⟨2,_,_,rfl,by omega,rfl,ha.cell 2 rfl,hb.cell 2 rfl⟩
 subst hi;clear hk ha hb;have Hv:=Bx.mk hv;clear hv;have b1:(0:Int)≤(i:Int):=by omega
 have b2:(i:Int)<3:=by omega
 have cf : ∀ dk osk,(grow (redrawn w dk) osk).cell? ⟨ga,0,none⟩=some (.func (.func 133) #[] #[]):=cq hf;have cx : ∀ dk osk,(grow (redrawn w dk) osk).cell? ⟨gb,i,none⟩=some (.int .i64 x):=cq hx;have cy : ∀ dk osk,(grow (redrawn w dk) osk).cell? ⟨gc,i,none⟩=some (.int .i64 y):=cq hy;have q0:=Bx.mk fun dk osk=>rq ((zHq x y (grow (redrawn w dk) osk)).mono fun _ _ ⟨h1,h2⟩=>⟨h1,by subst h2;exact br⟩)
 clear hf hx hy;go_enter Tryz.func174,Tryz.ntmps174;go_wp2_with fail;refine wg ?_
 repeat (first | go_big_quiet_step (with_reducible exact q0.o _ _) | quiet_step (with_reducible exact q0.o _ _))
 refine wq ?_;rintro _ ⟨⟨dq,osq⟩,rfl⟩;have hb:=bq w dq osq;clear cf cx cy q0;generalize grow (redrawn w dq) osq=W1 at *;go_wp2_with fail;go_ret;exact ⟨zLa Hv.o.symm,hb⟩
end
section
open Go.RowKit
theorem zEu (a0 a1 a2 a3 a4 a5 b0 b1 b2 b3 b4 b5:Int) (w:World):(binOp .eql 25 (.agg #[a0,a1,a2,a3,a4,a5]) (.agg #[b0,b1,b2,b3,b4,b5])).run Tryz.prog w = .ok (.bool (decide ((⟨⟨a0,a1,a2⟩,⟨a3,a4,a5⟩⟩:Box)=⟨⟨b0,b1,b2⟩,⟨b3,b4,b5⟩⟩))) w:=by
 have h1 : Tryz.prog.stoodInHeld 25=false:=by kernel_rfl
 have h2 : Tryz.prog.stoodInHeld 23=false:=by kernel_rfl
 rw [run_eql_struct,run_equalIn_agg _ _ _ _ _ (by kernel_rfl) h1]
 go_simp;by_cases h3:a0=b0
 rotate_left
 · simp [h3]
 by_cases h4:a1=b1
 rotate_left
 · simp [h4]
 by_cases h5:a2=b2
 rotate_left
 · simp [h5]
 by_cases h6:a3=b3
 rotate_left
 · simp [h6]
 by_cases h7:a4=b4
 rotate_left
 · simp [h7]
 by_cases h8:a5=b5
 rotate_left
 · simp [h8]
 simp [h3,h4,h5,h6,h7,h8]
theorem zIi (a0 a1 a2 a3 a4 a5 b0 b1 b2 b3 b4 b5:Int) (w:World):(binOp .neq 25 (.agg #[a0,a1,a2,a3,a4,a5]) (.agg #[b0,b1,b2,b3,b4,b5])).run Tryz.prog w = .ok (.bool (!decide ((⟨⟨a0,a1,a2⟩,⟨a3,a4,a5⟩⟩:Box)=⟨⟨b0,b1,b2⟩,⟨b3,b4,b5⟩⟩))) w:=by
 have h1 : Tryz.prog.stoodInHeld 25=false:=by kernel_rfl
 have h2 : Tryz.prog.stoodInHeld 23=false:=by kernel_rfl
 rw [run_neq_struct,run_equalIn_agg _ _ _ _ _ (by kernel_rfl) h1]
 go_simp;by_cases h3:a0=b0
 rotate_left
 · simp [h3]
 by_cases h4:a1=b1
 rotate_left
 · simp [h4]
 by_cases h5:a2=b2
 rotate_left
 · simp [h5]
 by_cases h6:a3=b3
 rotate_left
 · simp [h6]
 by_cases h7:a4=b4
 rotate_left
 · simp [h7]
 by_cases h8:a5=b5
 rotate_left
 · simp [h8]
 simp [h3,h4,h5,h6,h7,h8]
end
section
open Go.RowKit Go.Sort
theorem zGy (a0 a1 a2 a3 a4 a5 b0 b1 b2 b3 b4 b5:Int) (w:World) :
 Calls Tryz.prog 131 #[.agg #[a0,a1,a2,a3,a4,a5],.agg #[b0,b1,b2,b3,b4,b5],.func (.func 132) #[] #[],.func (.func 133) #[] #[]] w fun e' w'=>e' = .returned (.agg #[(max a0 b0:Int),(max a1 b1:Int),(max a2 b2:Int),(min a3 b3:Int),(min a4 b4:Int),(min a5 b5:Int)])∧Below w.heap.size w w':=by
 go_enter Tryz.func131,Tryz.ntmps131;go_wp2_with fail;generalize hW:((((w.alloc _).alloc _).alloc _).alloc _).alloc _=W;have JE:w.heap.size+1+1+1+1+1≤W.heap.size:=by rw [←hW];simp
 have hB:Below w.heap.size w W:=by rw [←hW];exact (((bf.alloc (by simp) _).alloc (by simp;omega) _).alloc (by simp;omega) _).alloc (by simp;omega) _
 have ka:Bk W (w.heap.size) #[a0,a1,a2,a3,a4,a5] 25:=by rw [←hW];exact zD (zD (zD (zD (zC _ _ _ (by simp)))))
 have kb:Bk W (w.heap.size+1) #[b0,b1,b2,b3,b4,b5] 25:=by rw [←hW];exact zD (zD (zD (zC _ _ _ (by simp))))
 have kl:Bk W (w.heap.size+1+1) #[.func (.func 132) #[] #[]] 169:=bk2 hW;have kh:Bk W (w.heap.size+1+1+1) #[.func (.func 133) #[] #[]] 169:=bk1 hW;have kr:Bk W (w.heap.size+1+1+1+1) #[(0:Int),(0:Int),(0:Int),(0:Int),(0:Int),(0:Int)] 25:=bk0 hW;clear hW;obtain ⟨ca0,ca1,ca2,ca3,ca4,ca5⟩:=ka.r6;obtain ⟨Ev,cb1,cb2,cb3,Ew,Ex⟩:=kb.r6;have q0:=Bx.mk fun dk osk=>(zHx a0 a1 a2 (grow (redrawn W dk) osk));have q1:=Bx.mk fun dk osk=>(zHx b0 b1 b2 (grow (redrawn W dk) osk));have q2:=Bx.mk fun dk osk=>(zHx a3 a4 a5 (grow (redrawn W dk) osk));have q3:=Bx.mk fun dk osk=>(zHx b3 b4 b5 (grow (redrawn W dk) osk));refine zAI 12 4 (fun j=>[9,10,11,12].getD j 0) (fun j=>[15,18,21,24].getD j 0) (fun j=>[173,173,173,173].getD j 0) (fun _=>#[.int .i64 0,.int .i64 0,.int .i64 0]) (fun j=>[#[.int .i64 a0,.int .i64 a1,.int .i64 a2],#[.int .i64 b0,.int .i64 b1,.int .i64 b2],#[.int .i64 a3,.int .i64 a4,.int .i64 a5],#[.int .i64 b3,.int .i64 b4,.int .i64 b5]].getD j #[]) (by kernel_rfl) (by kernel_rfl) ⟨fun j hj=>?_,fun j hj=>?_⟩ 30 (by kernel_rfl) (by rfl) ?_
 · match j,hj with
   | 0,_=>exact ⟨_,rfl,rfl,rfl,zBE _ rfl⟩
   | 1,_=>exact ⟨_,rfl,rfl,rfl,zBE _ rfl⟩
   | 2,_=>exact ⟨_,rfl,rfl,rfl,zBE _ rfl⟩
   | 3,_=>exact ⟨_,rfl,rfl,rfl,zBE _ rfl⟩
   | j+4,hj=>omega
 · match j,hj with
   | 0,_=>exact ⟨_,rfl,rfl,rfl,fun ρ w g h1 h2 hb=>zMx _ 9 15 rfl _ _ _ _ _ _ ρ w g h1 h2 hb⟩
   | 1,_=>exact ⟨_,rfl,rfl,rfl,fun ρ w g h1 h2 hb=>zMx _ 10 18 rfl _ _ _ _ _ _ ρ w g h1 h2 hb⟩
   | 2,_=>exact ⟨_,rfl,rfl,rfl,fun ρ w g h1 h2 hb=>zMx _ 11 21 rfl _ _ _ _ _ _ ρ w g h1 h2 hb⟩
   | 3,_=>exact ⟨_,rfl,rfl,rfl,fun ρ w g h1 h2 hb=>zMx _ 12 24 rfl _ _ _ _ _ _ ρ w g h1 h2 hb⟩
   | j+4,hj=>omega
 simp only [List.take_succ_cons,List.take_zero]
 repeat (refine zOT (fun K hK=>?_);go_simp;first | (refine hK _ ?_;clear hK K) | (apply Exists.intro;refine ⟨fun _=>?_,hK _ ?_⟩;(first | ((with_reducible refine (q0.o _ _).mono ?_);exact fun _ _ h=>by simpa using h) | ((with_reducible refine (q1.o _ _).mono ?_);exact fun _ _ h=>by simpa using h) | ((with_reducible refine (q2.o _ _).mono ?_);exact fun _ _ h=>by simpa using h) | ((with_reducible refine (q3.o _ _).mono ?_);exact fun _ _ h=>by simpa using h));clear hK K))
 refine zOS ⟨fun j hj=>match j,hj with | 0,_=>rfl | 1,_=>rfl | 2,_=>rfl | 3,_=>rfl | j+4,hj=>absurd hj (by omega),fun g W1 hb hg Ph=>?_⟩
 obtain ⟨hp,kp⟩:=hg 0 (by omega)
 obtain ⟨hq,kq⟩:=hg 1 (by omega)
 obtain ⟨hs,ks⟩:=hg 2 (by omega)
 obtain ⟨ht,kt⟩:=hg 3 (by omega)
 have npq:=Ph 0 1 (by omega) (by omega) (by omega)
 have nps:=Ph 0 2 (by omega) (by omega) (by omega)
 have npt:=Ph 0 3 (by omega) (by omega) (by omega)
 have nqs:=Ph 1 2 (by omega) (by omega) (by omega)
 have nqt:=Ph 1 3 (by omega) (by omega) (by omega)
 have nst:=Ph 2 3 (by omega) (by omega) (by omega)
 clear hg Ph;clear ca0 ca1 ca2 ca3 ca4 ca5;clear Ev cb1 cb2 cb3 Ew Ex;clear q0;clear q1;clear q2;clear q3;replace hB:=tr hB hb;replace ka:=ka.la hb;replace kb:=kb.la hb;replace kl:=kl.la hb;replace kh:=kh.la hb;replace kr:=kr.la hb;replace JE:=nlt JE hb.size;clear hb;simp only [zKg,List.range_succ,List.range_zero,List.nil_append,List.cons_append,List.map_cons,List.map_nil,List.foldl_cons,List.foldl_nil,List.getD_cons_zero,List.getD_cons_succ];generalize g 0=gp at *;generalize g 1=gq at *;generalize g 2=gs at *;generalize g 3=gt at *;replace kp:Bk W1 gp #[a0,a1,a2] 173:=kp;replace kq:Bk W1 gq #[b0,b1,b2] 173:=kq;replace ks:Bk W1 gs #[a3,a4,a5] 173:=ks;replace kt:Bk W1 gt #[b3,b4,b5] 173:=kt;go_wp2_with fail;refine (each_1 ⟨w.heap.size+1+1,0,none⟩ ⟨gp,0,none⟩ ⟨gq,0,none⟩ (max a0 b0) (max a1 b1) (max a2 b2) _ (fun k v hkv W' Jp=>clo_1 _ _ _ a0 a1 a2 b0 b1 b2 k v hkv W' ((kl.la Jp).cell 0 rfl) (kp.la Jp) (kq.la Jp))).mono ?_;rintro e' w1 ⟨rfl,hb⟩;replace hB:=tr hB hb;replace ka:=ka.la hb;replace kb:=kb.la hb;replace kl:=kl.la hb;replace kh:=kh.la hb;replace kr:=kr.la hb;replace kp:=kp.la hb;replace kq:=kq.la hb;replace ks:=ks.la hb;replace kt:=kt.la hb;replace JE:=nlt JE hb.size;clear hb;go_wp2_with fail;refine (each_2 ⟨w.heap.size+1+1+1,0,none⟩ ⟨gs,0,none⟩ ⟨gt,0,none⟩ (min a3 b3) (min a4 b4) (min a5 b5) _ (fun k v hkv W' Jp=>clo_2 _ _ _ a3 a4 a5 b3 b4 b5 k v hkv W' ((kh.la Jp).cell 0 rfl) (ks.la Jp) (kt.la Jp))).mono ?_;rintro e' w2 ⟨rfl,hb⟩;replace hB:=tr hB hb;replace ka:=ka.la hb;replace kb:=kb.la hb;replace kl:=kl.la hb;replace kh:=kh.la hb;replace kr:=kr.la hb;replace kp:=kp.la hb;replace kq:=kq.la hb;replace ks:=ks.la hb;replace kt:=kt.la hb;replace JE:=nlt JE hb.size;clear hb;obtain ⟨Fj,Fk,Fl,Fm,Fn,Fo⟩:=kr.c6;obtain ⟨GU,GV,GW,GX,GY,GZ⟩:=kr.f6;go_wp2_with fail;replace kr:=kr.put6 (.int .i64 (max a0 b0)) (.int .i64 (max a1 b1)) (.int .i64 (max a2 b2)) (.int .i64 (min a3 b3)) (.int .i64 (min a4 b4)) (.int .i64 (min a5 b5));exact bodyPost_ret (v:=.agg #[(max a0 b0:Int),(max a1 b1:Int),(max a2 b2:Int),(min a3 b3:Int),(min a4 b4:Int),(min a5 b5:Int)]) (results_cell_row rfl _ _ _ 25 #[(max a0 b0:Int),(max a1 b1:Int),(max a2 b2:Int),(min a3 b3:Int),(min a4 b4:Int),(min a5 b5:Int)] (0,0) _ rfl kr Tryz.underlying25 rfl (by kernel_rfl)) rfl ⟨rfl,zBm hB (by omega) _ _ _ _ _ _⟩
theorem zIN (a0 a1 a2 a3 a4 a5 b0 b1 b2 b3 b4 b5:Int) (w:World) :
 Calls Tryz.prog 72 #[.agg #[a0,a1,a2,a3,a4,a5],.agg #[b0,b1,b2,b3,b4,b5]] w fun e' w'=>e' = .returned (.agg #[.int .i64 (zn ⟨⟨a0,a1,a2⟩,⟨a3,a4,a5⟩⟩ ⟨⟨b0,b1,b2⟩,⟨b3,b4,b5⟩⟩).lo.x,.int .i64 (zn ⟨⟨a0,a1,a2⟩,⟨a3,a4,a5⟩⟩ ⟨⟨b0,b1,b2⟩,⟨b3,b4,b5⟩⟩).lo.y,.int .i64 (zn ⟨⟨a0,a1,a2⟩,⟨a3,a4,a5⟩⟩ ⟨⟨b0,b1,b2⟩,⟨b3,b4,b5⟩⟩).lo.z,.int .i64 (zn ⟨⟨a0,a1,a2⟩,⟨a3,a4,a5⟩⟩ ⟨⟨b0,b1,b2⟩,⟨b3,b4,b5⟩⟩).hi.x,.int .i64 (zn ⟨⟨a0,a1,a2⟩,⟨a3,a4,a5⟩⟩ ⟨⟨b0,b1,b2⟩,⟨b3,b4,b5⟩⟩).hi.y,.int .i64 (zn ⟨⟨a0,a1,a2⟩,⟨a3,a4,a5⟩⟩ ⟨⟨b0,b1,b2⟩,⟨b3,b4,b5⟩⟩).hi.z])∧Below w.heap.size w w':=by
 have hM:=Bx.mk (show zn ⟨⟨a0,a1,a2⟩,⟨a3,a4,a5⟩⟩ ⟨⟨b0,b1,b2⟩,⟨b3,b4,b5⟩⟩=if zS (zGx ⟨⟨a0,a1,a2⟩,⟨a3,a4,a5⟩⟩ ⟨⟨b0,b1,b2⟩,⟨b3,b4,b5⟩⟩)=true then Box.zero else zGx ⟨⟨a0,a1,a2⟩,⟨a3,a4,a5⟩⟩ ⟨⟨b0,b1,b2⟩,⟨b3,b4,b5⟩⟩ from rfl);have hJ:=Bx.mk (show zGx ⟨⟨a0,a1,a2⟩,⟨a3,a4,a5⟩⟩ ⟨⟨b0,b1,b2⟩,⟨b3,b4,b5⟩⟩=⟨⟨max a0 b0,max a1 b1,max a2 b2⟩,⟨min a3 b3,min a4 b4,min a5 b5⟩⟩ from rfl);rw [hJ.o] at hM;cases he:zS ⟨⟨max a0 b0,max a1 b1,max a2 b2⟩,⟨min a3 b3,min a4 b4,min a5 b5⟩⟩ with
 | false =>
   have He:=Bx.mk he;rw [he] at hM;rw [if_neg (by decide)] at hM
   clear he hJ;go_enter Tryz.func72,Tryz.ntmps72;go_wp2_with fail;generalize hW:((w.alloc _).alloc _).alloc _=W;have JE:=sz3 hW;have hB:=bl3 hW;have ka:Bk W (w.heap.size) #[a0,a1,a2,a3,a4,a5] 25:=bk2 hW;have kb:Bk W (w.heap.size+1) #[b0,b1,b2,b3,b4,b5] 25:=bk1 hW;have kr:Bk W (w.heap.size+1+1) #[(0:Int),(0:Int),(0:Int),(0:Int),(0:Int),(0:Int)] 25:=bk0 hW;clear hW;refine (zGy _ _ _ _ _ _ _ _ _ _ _ _ _).mono ?_;rintro e' w1 ⟨rfl,hb⟩;replace hB:=tr hB hb;replace ka:=ka.la hb;replace kb:=kb.la hb;replace kr:=kr.la hb;replace JE:=nlt JE hb.size;clear hb;go_wp2_with fail;generalize hW1:w1.alloc _=W2;have kc:Bk W2 w1.heap.size #[(max a0 b0:Int),(max a1 b1:Int),(max a2 b2:Int),(min a3 b3:Int),(min a4 b4:Int),(min a5 b5:Int)] 25:=bk0 hW1 rfl;have hb:=bl1 hW1;clear hW1;replace hB:=tr hB hb;replace ka:=ka.la hb;replace kb:=kb.la hb;replace kr:=kr.la hb;replace JE:=nlt JE hb.size;clear hb;refine (zU _ _ _ _ _ _ _).mono ?_;rintro e' w3 ⟨rfl,hb⟩;rw [He.o];replace hB:=tr hB hb;replace ka:=ka.la hb;replace kb:=kb.la hb;replace kr:=kr.la hb;replace kc:=kc.la hb;replace JE:=nlt JE hb.size;clear hb;obtain ⟨Fj,Fk,Fl,Fm,Fn,Fo⟩:=kr.c6;obtain ⟨cc0,cc1,cc2,cc3,cc4,cc5⟩:=kc.c6;obtain ⟨GU,GV,GW,GX,GY,GZ⟩:=kr.f6;go_wp2_with fail;replace kr:=kr.put6 (.int .i64 (max a0 b0)) (.int .i64 (max a1 b1)) (.int .i64 (max a2 b2)) (.int .i64 (min a3 b3)) (.int .i64 (min a4 b4)) (.int .i64 (min a5 b5));exact bodyPost_ret (v:=.agg #[(max a0 b0:Int),(max a1 b1:Int),(max a2 b2:Int),(min a3 b3:Int),(min a4 b4:Int),(min a5 b5:Int)]) (results_cell_row rfl _ _ _ 25 #[(max a0 b0:Int),(max a1 b1:Int),(max a2 b2:Int),(min a3 b3:Int),(min a4 b4:Int),(min a5 b5:Int)] (0,0) _ rfl kr Tryz.underlying25 rfl (by kernel_rfl)) rfl ⟨by rw [hM.o],zBm hB (by omega) _ _ _ _ _ _⟩
 | true =>
   have He:=Bx.mk he;rw [he] at hM;rw [if_pos rfl] at hM;clear he hJ;go_enter Tryz.func72,Tryz.ntmps72;go_wp2_with fail;generalize hW:((w.alloc _).alloc _).alloc _=W;have JE:=sz3 hW;have hB:=bl3 hW;have ka:Bk W (w.heap.size) #[a0,a1,a2,a3,a4,a5] 25:=bk2 hW;have kb:Bk W (w.heap.size+1) #[b0,b1,b2,b3,b4,b5] 25:=bk1 hW;have kr:Bk W (w.heap.size+1+1) #[(0:Int),(0:Int),(0:Int),(0:Int),(0:Int),(0:Int)] 25:=bk0 hW;clear hW;refine (zGy _ _ _ _ _ _ _ _ _ _ _ _ _).mono ?_;rintro e' w1 ⟨rfl,hb⟩;replace hB:=tr hB hb;replace ka:=ka.la hb;replace kb:=kb.la hb;replace kr:=kr.la hb;replace JE:=nlt JE hb.size;clear hb;go_wp2_with fail;generalize hW1:w1.alloc _=W2;have kc:Bk W2 w1.heap.size #[(max a0 b0:Int),(max a1 b1:Int),(max a2 b2:Int),(min a3 b3:Int),(min a4 b4:Int),(min a5 b5:Int)] 25:=bk0 hW1 rfl;have hb:=bl1 hW1;clear hW1;replace hB:=tr hB hb;replace ka:=ka.la hb;replace kb:=kb.la hb;replace kr:=kr.la hb;replace JE:=nlt JE hb.size;clear hb;refine (zU _ _ _ _ _ _ _).mono ?_;rintro e' w3 ⟨rfl,hb⟩;rw [He.o];replace hB:=tr hB hb;replace ka:=ka.la hb;replace kb:=kb.la hb;replace kr:=kr.la hb;replace kc:=kc.la hb;replace JE:=nlt JE hb.size;clear hb;obtain ⟨Fj,Fk,Fl,Fm,Fn,Fo⟩:=kr.c6;obtain ⟨cc0,cc1,cc2,cc3,cc4,cc5⟩:=kc.c6;obtain ⟨GU,GV,GW,GX,GY,GZ⟩:=kr.f6;go_wp2_with fail;replace kr:=kr.put6 (.int .i64 0) (.int .i64 0) (.int .i64 0) (.int .i64 0) (.int .i64 0) (.int .i64 0);exact bodyPost_ret (v:=.agg #[(0:Int),(0:Int),(0:Int),(0:Int),(0:Int),(0:Int)]) (results_cell_row rfl _ _ _ 25 #[(0:Int),(0:Int),(0:Int),(0:Int),(0:Int),(0:Int)] (0,0) _ rfl kr Tryz.underlying25 rfl (by kernel_rfl)) rfl ⟨by rw [hM.o];rfl,zBm hB (by omega) _ _ _ _ _ _⟩
theorem zDF (a0 a1 a2 a3 a4 a5 b0 b1 b2 b3 b4 b5:Int) (w:World) :
 Calls Tryz.prog 91 #[.agg #[a0,a1,a2,a3,a4,a5],.agg #[b0,b1,b2,b3,b4,b5]] w fun e' w'=>e' = .returned (.bool (zL ⟨⟨a0,a1,a2⟩,⟨a3,a4,a5⟩⟩ ⟨⟨b0,b1,b2⟩,⟨b3,b4,b5⟩⟩))∧Below w.heap.size w w':=by
 cases he:zS ⟨⟨b0,b1,b2⟩,⟨b3,b4,b5⟩⟩ with
 | true =>
   have hc:=Bx.mk (show zL ⟨⟨a0,a1,a2⟩,⟨a3,a4,a5⟩⟩ ⟨⟨b0,b1,b2⟩,⟨b3,b4,b5⟩⟩=true by simp [zL,he])
   have ML:=Bx.mk fun W=>((zU b0 b1 b2 b3 b4 b5 W).mono (R':=fun e w'=>e = .returned (.bool true)∧Below W.heap.size W w') (by rw [he];exact fun _ _ h=>h))
   clear he;go_enter Tryz.func91,Tryz.ntmps91;go_wp2_with fail;generalize hW:(w.alloc _).alloc _=W;have JE:=sz2 hW;have hB:=bl2 hW;have ka:Bk W (w.heap.size) #[a0,a1,a2,a3,a4,a5] 25:=bk1 hW;have kb:Bk W (w.heap.size+1) #[b0,b1,b2,b3,b4,b5] 25:=bk0 hW;clear hW;obtain ⟨ca0,ca1,ca2,ca3,ca4,ca5⟩:=ka.r6;obtain ⟨Ev,cb1,cb2,cb3,Ew,Ex⟩:=kb.r6;have q0:=Bx.mk fun dk osk=>rq (ML.o (grow (redrawn W dk) osk));refine wg ?_
   repeat (first | go_big_quiet_step (with_reducible exact q0.o _ _) | quiet_step (with_reducible exact q0.o _ _))
   refine wq ?_;rintro _ ⟨⟨dq,osq⟩,rfl⟩;have hb:=bq W dq osq;clear ca0 ca1 ca2 ca3 ca4 ca5;clear Ev cb1 cb2 cb3 Ew Ex;clear q0;replace hB:=tr hB hb;replace ka:=ka.la hb;replace kb:=kb.la hb;replace JE:=nlt JE hb.size;clear hb;generalize grow (redrawn W dq) osq=W1 at *;go_wp2_with fail;go_ret;exact ⟨zx hc.o.symm,hB⟩
 | false =>
   have hc:=Bx.mk (show zL ⟨⟨a0,a1,a2⟩,⟨a3,a4,a5⟩⟩ ⟨⟨b0,b1,b2⟩,⟨b3,b4,b5⟩⟩=decide (zn ⟨⟨a0,a1,a2⟩,⟨a3,a4,a5⟩⟩ ⟨⟨b0,b1,b2⟩,⟨b3,b4,b5⟩⟩=⟨⟨b0,b1,b2⟩,⟨b3,b4,b5⟩⟩) by simp [zL,he])
   have ML:=Bx.mk fun W=>((zU b0 b1 b2 b3 b4 b5 W).mono (R':=fun e w'=>e = .returned (.bool false)∧Below W.heap.size W w') (by rw [he];exact fun _ _ h=>h))
   have hm:=Bx.mk fun W=>zIN a0 a1 a2 a3 a4 a5 b0 b1 b2 b3 b4 b5 W;generalize zn ⟨⟨a0,a1,a2⟩,⟨a3,a4,a5⟩⟩ ⟨⟨b0,b1,b2⟩,⟨b3,b4,b5⟩⟩=m at *;obtain ⟨⟨m0,m1,m2⟩,⟨m3,m4,m5⟩⟩:=m;simp only [] at hm;have Mc:=fun W=>zEu m0 m1 m2 m3 m4 m5 b0 b1 b2 b3 b4 b5 W;generalize decide ((⟨⟨m0,m1,m2⟩,⟨m3,m4,m5⟩⟩:Box)=⟨⟨b0,b1,b2⟩,⟨b3,b4,b5⟩⟩)=r at *;clear he;go_enter Tryz.func91,Tryz.ntmps91;go_wp2_with fail;generalize hW:(w.alloc _).alloc _=W;have JE:=sz2 hW;have hB:=bl2 hW;have ka:Bk W (w.heap.size) #[a0,a1,a2,a3,a4,a5] 25:=bk1 hW;have kb:Bk W (w.heap.size+1) #[b0,b1,b2,b3,b4,b5] 25:=bk0 hW;clear hW;obtain ⟨ca0,ca1,ca2,ca3,ca4,ca5⟩:=ka.r6;obtain ⟨Ev,cb1,cb2,cb3,Ew,Ex⟩:=kb.r6;have q0:=Bx.mk fun dk osk=>rq (ML.o (grow (redrawn W dk) osk));have q1:=Bx.mk fun dk osk=>rq (hm.o (grow (redrawn W dk) osk));refine wg ?_
   repeat (first | go_big_quiet_step (with_reducible first | exact q0.o _ _ | exact q1.o _ _) | quiet_step (with_reducible first | exact q0.o _ _ | exact q1.o _ _))
   refine wq ?_;rintro _ ⟨⟨dq,osq⟩,rfl⟩;have hb:=bq W dq osq;clear ca0 ca1 ca2 ca3 ca4 ca5;clear Ev cb1 cb2 cb3 Ew Ex;clear q0;clear q1;replace hB:=tr hB hb;replace ka:=ka.la hb;replace kb:=kb.la hb;replace JE:=nlt JE hb.size;clear hb;generalize grow (redrawn W dq) osq=W1 at *;go_wp2_with fail;go_ret;exact ⟨zx hc.o.symm,hB⟩
end
section
open Go.RowKit
theorem zOp : ∀ n:Int,0≤n→n<2 ^ 62→IntKind.i64.wrap n=n:=fun n h0 h1=>by
 have:(2:Int) ^ 62=4611686018427387904:=by decide
 rw [IntKind.wrap_i64];omega
theorem zGJ      (x : Int) (h0 : 0 ≤ x) (h1 : x ≤ 1000000000) : bits .and .i64 x 1 = x % 2 := bits_mask .i64 62 (by decide) zOp       1 (by decide) x h0 (by have : (2 : Int) ^ 62 = 4611686018427387904 := by decide
                                                                                                                                                             omega)
theorem zJT : ∀ u v t:Fin 2,bits .or .i64 (bits .or .i64 (u.val:Int) (IntKind.i64.wrap ((v.val:Int) * 2))) (IntKind.i64.wrap ((t.val:Int) * 4))=u.val+2 * v.val+4 * t.val:=by decide
theorem or_two {u v t:Int} (hu:0≤u∧u<2) (hv:0≤v∧v<2) (ht:0≤t∧t<2):bits .or .i64 (bits .or .i64 u (IntKind.i64.wrap (v * 2))) (IntKind.i64.wrap (t * 4))=u+2 * v+4 * t:=by
 have:=zJT ⟨u.toNat,by omega⟩ ⟨v.toNat,by omega⟩ ⟨t.toNat,by omega⟩
 simp only [Int.toNat_of_nonneg hu.1,Int.toNat_of_nonneg hv.1,Int.toNat_of_nonneg ht.1] at this;exact this
theorem zJU {u v t:Int} (hu:0≤u∧u<2) (hv:0≤v∧v<2) (ht:0≤t∧t<2):bits .or .i64 (bits .or .i64 u (wrap64 (v * 2))) (wrap64 (t * 4))=u+2 * v+4 * t:=by
 have:=or_two hu hv ht;rwa [IntWalk.i64_left,IntWalk.i64_left] at this
end
end Go.Proofs.YtfcbajmjaifjlaaGreat