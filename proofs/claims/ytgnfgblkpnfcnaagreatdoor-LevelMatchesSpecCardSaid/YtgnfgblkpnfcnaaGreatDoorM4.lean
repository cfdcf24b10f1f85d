/- Rel, Make, Read, App: joined by program, for one claim. -/
import Derived.Test.YtgnfgblkpnfcnaaGreatDoorMr
import Derived.Test.YtgnfgblkpnfcnaaGreatDoorM3
import Derived.Deep.Cut
import Derived.Deep.RegionLaw
set_option maxHeartbeats 1000000
set_option maxRecDepth 100000
set_option linter.unusedVariables false
set_option linter.unusedSimpArgs false
namespace Go.Proofs.YtgnfgblkpnfcnaaGreatDoor
section
open Go.Sort Go.RowKit
@[go_sem] def zLD (P : Program) (w : World) (R : Value → World → Prop) : Result Next → Prop
  | .ok (.value u) w'=>Below w.heap.size w w'∧R u w'
  | .ok (.enter f args) w'=>w'=w∧Calls P f args w (fun e w'' => ∃ v,e = .returned v∧Below w.heap.size w w''∧R v w'')
  | _=>False
def zHi (l:List Oper) (n:Nat) (d:Tmp):Option Nat:=(List.range n).find? fun j=>decide (zM l j=some d)
def zAW (l:List Oper) (n:Nat) (R:Nat→Value→World→Prop) (a:Act) (d:Tmp) (v:Value) (w:World):Prop :=
 match zHi l n d with
 | some j=>R j v w
 | none=>v=a.eval (.tmp d)
def zLB (l:List Oper) (n:Nat):Bool :=
 Region.noSelect l.toArray &&
 ((List.range n).all fun i => match l[i]? with
   | some o => o.guard.isNone && o.dst.isSome && o.op.operands.toList.all fun x => match x with
     | .tmp d=>(List.range n).all fun j => !decide (zM l j=some d) || (decide (j<i) && Region.waitsFor .any l.toArray i j)
     | _=>true
   | none=>false) &&
 ((List.range n).all fun i=>(List.range n).all fun j=>decide (i=j) || !decide (zM l i=zM l j))
structure RelB (l:List Oper) (n:Nat):Prop where
 nosel:Region.noSelect l.toArray=true
 guard : ∀ i o,i<n→l[i]? = some o→o.guard=none
 dst : ∀ i o,i<n→l[i]? = some o → ∃ d,o.dst=some d
 data : ∀ i o d j,i<n→l[i]? = some o → .tmp d∈o.op.operands→j<n→zM l j=some d→j<i∧Region.waitsFor .any l.toArray i j=true
 dist : ∀ i j d,i<n→j<n→i ≠ j→zM l i=some d→zM l j ≠ some d
theorem zLC {l:List Oper} {n:Nat} (h:zLB l n=true):RelB l n:=by
 simp only [zLB,Bool.and_eq_true] at h;obtain ⟨⟨h3,h4⟩,h5⟩:=h;refine ⟨h3,fun i o hi ho=>?_,fun i o hi ho=>?_,fun i o d j hi ho hd hj hdj=>?_,fun i j d hi hj hne hdi hdj=>?_⟩
 · have:=List.all_eq_true.1 h4 i (List.mem_range.2 hi);simp only [ho,Bool.and_eq_true,Option.isNone_iff_eq_none] at this;exact this.1.1
 · have:=List.all_eq_true.1 h4 i (List.mem_range.2 hi);simp only [ho,Bool.and_eq_true] at this;exact Option.isSome_iff_exists.1 this.1.2
 · have:=List.all_eq_true.1 h4 i (List.mem_range.2 hi);simp only [ho,Bool.and_eq_true] at this;have:=List.all_eq_true.1 this.2 (.tmp d) (by simpa using hd)
   have:=List.all_eq_true.1 this j (List.mem_range.2 hj);simpa [hdj] using this
 · have:=List.all_eq_true.1 (List.all_eq_true.1 h5 i (List.mem_range.2 hi)) j (List.mem_range.2 hj);simp [hne,hdi,hdj] at this
def zAR (R:Value→World→Prop):Prop := ∀ v w w',Below w.heap.size w w'→R v w→R v w'
structure RI (l:List Oper) (n:Nat) (R:Nat→Value→World→Prop) (W:World) (a:Act) (s:Array Bool) (a':Act) (w':World):Prop where
 tsize:a'.tmps.size=a.tmps.size
 defers:a'.defers=a.defers
 old : ∀ x:Nat,(∀ i,i<n→s.getD i false=true→zM l i ≠ some x)→a'.tmps[x]? = a.tmps[x]?
 head : ∀ i d,i<n→s.getD i false=true→zM l i=some d → ∃ v,a'.tmps[d]? = some v∧R i v w'
 below:Below W.heap.size W w'
section
variable {P:Program} {l:List Oper} {n:Nat} {R:Nat→Value→World→Prop} {W:World} {a:Act}
theorem zHk {d:Tmp} {j:Nat} (h:zHi l n d=some j):j<n∧zM l j=some d:=by
 unfold zHi at h;exact ⟨List.mem_range.1 (List.mem_of_find?_eq_some h),by simpa using List.find?_some h⟩
theorem zHj {d:Tmp} (h:zHi l n d=none) : ∀ j,j<n→zM l j ≠ some d:=by
 unfold zHi at h;intro j hj e;have:=List.find?_eq_none.1 h j (List.mem_range.2 hj);simp [e] at this
theorem zLQ (B:RelB l n) (hf : ∀ i,i<n→zAR (R i)) (hd : ∀ i d,i<n→zM l i=some d→d<a.tmps.size)
 (hop : ∀ i o,i<n→l[i]? = some o → ∀ (ρ:Operand→Value) w,Below W.heap.size W w→(∀ v,ρ (.const v)=v)→(∀ g,ρ (.global g) = .pointer (some ⟨g,0,none⟩))→(∀ f,ρ (.func f) = .func (.func f) #[] #[]) →
  (∀ d,.tmp d∈o.op.operands→zAW l n R a d (ρ (.tmp d)) w)→zLD P w (R i) ((execOp ρ o).run P w))
 {Q:Exit→Act→World→Prop} {s:Array Bool} (hs:s.size=n) {a':Act} {w':World} (I:RI l n R W a s a' w') {i:Nat} (hin:i<n) (hr:i∈Region.ready .any l.toArray (s++Array.replicate (l.length - n) false)) (hun:s.getD i true=false) :
 wpOp P l.toArray Q i (fun a'' w''=>RI l n R W a (s.setIfInBounds i true) a'' w'') a' w':=by
 obtain ⟨_,o,ho,hall⟩:=mem_ready.1 hr;have hol:l[i]? = some o:=by simpa using ho
 have hdo:zM l i=o.dst:=by simp [zM,hol]
 obtain ⟨di,hdi⟩:=B.dst i o hin hol;have hself:=zEe (s:=s) (i:=i) (by omega)
 have hnew : ∀ j,j ≠ i→(s.setIfInBounds i true).getD j false=s.getD j false:=fun j hj=>getD_set_ne false (Ne.symm hj);unfold wpOp;simp only [ho];have hw:Region.wanted o (yielded l.toArray a'.tmps)=true:=by simp [Region.wanted,B.guard i o hin hol]
 rw [if_pos hw];left
 have hk : ∀ d,.tmp d∈o.op.operands→zAW l n R a d (a'.eval (.tmp d)) w':=by
  intro d hd';unfold zAW;cases hm:zHi l n d with
  | some j =>
    obtain ⟨hj,hdj⟩:=zHk hm;obtain ⟨hji,hwt⟩:=B.data i o d j hin hol hd' hj hdj;have hlj:=zN2 hwt hr;rw [zBJ hs hj] at hlj;obtain ⟨v,h1,h2⟩:=I.head j d hj hlj hdj;have:a'.eval (.tmp d)=v:=by simp [Act.eval,Array.getD_eq_getD_getElem?,h1]
    rw [this];exact h2
  | none=>exact zD6 (I.old d fun j hj _ e=>zHj hm j hj e)
 have hrun:=hop i o hin hol a'.eval w' I.below (fun _=>rfl) (fun _=>rfl) (fun _=>rfl) hk
 have post : ∀ v w'',Below w'.heap.size w' w''→R i v w''→RI l n R W a (s.setIfInBounds i true) (a'.put o.dst v) w'':=by
  intro v w'' hb hR;refine ⟨by rw [zJ7,I.tsize],by rw [zJ1,I.defers],fun x hx=>?_,fun j d hj hs' hdj=>?_,I.below.trans (hb.mono I.below.size)⟩
  · rw [zq v (fun e=>hx i hin hself (by rw [hdo];exact e))]
    refine I.old x fun j hj hs'=>hx j hj ?_;by_cases e:j=i
    · subst e;exact hself
    · rw [hnew j e];exact hs'
  · by_cases e:j=i
    · subst e;rw [hdo] at hdj;rw [hdj,zJ6 v (by rw [I.tsize];exact hd j d hin (by rw [hdo];exact hdj))]
      exact ⟨v,rfl,hR⟩
    · rw [hnew j e] at hs';obtain ⟨u,h1,h2⟩:=I.head j d hj hs' hdj;rw [zq v (fun e'=>B.dist j i d hj hin e hdj (by rw [hdo];exact e'))]
      exact ⟨u,h1,hf j hj u w' w'' hb h2⟩
 unfold Oper.wp;generalize (execOp a'.eval o).run P w'=r at hrun;cases r with
 | ok nx w'' =>
   cases nx <;> simp only [zLD] at hrun <;> simp only [Oper.upon]
   case value u=>exact post _ _ hrun.1 hrun.2
   case enter f args =>
    obtain ⟨rfl,hc⟩:=hrun;refine hc.mono fun e w3 ⟨v,he,hb,hR⟩=>?_;subst he;exact post _ _ hb hR
 | halt x w''=>simp only [zLD] at hrun
theorem zLN (hn:n≤l.length) (B:RelB l n) (hb:zBV .any l n=true) (ht:zM9 .any l n=true) (hf : ∀ i,i<n→zAR (R i)) (hd : ∀ i d,i<n→zM l i=some d→d<a.tmps.size)
 (hop : ∀ i o,i<n→l[i]? = some o → ∀ (ρ:Operand→Value) w,Below W.heap.size W w→(∀ v,ρ (.const v)=v)→(∀ g,ρ (.global g) = .pointer (some ⟨g,0,none⟩))→(∀ f,ρ (.func f) = .func (.func f) #[] #[]) →
  (∀ d,.tmp d∈o.op.operands→zAW l n R a d (ρ (.tmp d)) w)→zLD P w (R i) ((execOp ρ o).run P w))
 {Q:Exit→Act→World→Prop} (hend : ∀ a' w',RI l n R W a (Array.replicate n true) a' w'→wpAny P .any l.toArray Q (l.length - n) (Array.replicate n true++Array.replicate (l.length - n) false) a' w') :
 ∀ (f:Nat) (s:Array Bool) (a':Act) (w':World),s.size=n→unl s=f→RI l n R W a s a' w'→wpAny P .any l.toArray Q (f+(l.length - n)) (s++Array.replicate (l.length - n) false) a' w'
 | 0, s, a', w', hs, hu, I => by
   have e:s=Array.replicate n true:=by rw [←hs];exact zNp hu
   rw [Nat.zero_add,e];rw [e] at I;exact hend a' w' I
 | f + 1, s, a', w', hs, hu, I => by
   obtain ⟨k,hk,hun⟩:=zNn (s:=s) (by omega)
   rw [show f+1+(l.length - n)=(f+(l.length - n))+1 by omega]
   refine ⟨fun h0=>?_,fun i hi=>?_⟩
   · obtain ⟨i,hi⟩:=zKN (g:=l.length - n) hs hn hb (k+1) k (by omega) (by omega) hun
     rw [h0] at hi;cases hi
   · have hin:=zKK hs (by omega:k<n) hun ht hi
     have hiu:s.getD i true=false:=by have:=(mem_ready.1 hi).1;rwa [zBJ hs hin] at this
     refine wpOp_mono (fun a'' w'' I'=>?_) (zLQ B hf hd hop hs I hin hi hiu);rw [zBK (by omega)]
     refine zLN hn B hb ht hf hd hop hend f _ a'' w'' (by simpa using hs) ?_ I'
     have:=zNo (s:=s) (by omega) hiu
     omega
def headR (l:List Oper) (n:Nat):Bool :=
 decide (n<l.length) && zBV .any l n && zM9 .any l n && zLB l n && Region.seqB .any l.toArray (l.length - n) n (Array.replicate n true++Array.replicate (l.length - n) false)
theorem zOU {id:Nat} {Q:Exit→Act→World→Prop} (n:Nat) (R:Nat→Value→World→Prop) (hm:P.follows .mixedOrders=true) (hB:headR l n=true) (m:Nat) (hdm:zDk l m=true) (ham:a.tmps.size=m)
 (hf : ∀ i,i<n→zAR (R i))
 (hop : ∀ i o,i<n→l[i]? = some o → ∀ (ρ:Operand→Value) w,Below W.heap.size W w→(∀ v,ρ (.const v)=v)→(∀ g,ρ (.global g) = .pointer (some ⟨g,0,none⟩))→(∀ f,ρ (.func f) = .func (.func f) #[] #[]) →
  (∀ d,.tmp d∈o.op.operands→zAW l n R a d (ρ (.tmp d)) w)→zLD P w (R i) ((execOp ρ o).run P w))
 (h : ∀ (vs:List Value) w',vs.length=n→Below W.heap.size W w'→(∀ i v,vs[i]? = some v→R i v w')→wpList P l.toArray Q (l.drop n) (zKA (((l.take n).map (·.dst)).zip vs) a) w'):(Code.region id l.toArray true).wp P Q a W:=by
 simp only [headR,Bool.and_eq_true,decide_eq_true_eq] at hB;obtain ⟨⟨⟨⟨hn,hb⟩,ht⟩,hrel⟩,hseq⟩:=hB;have B:=zLC hrel;have hd : ∀ i d,i<n→zM l i=some d→d<a.tmps.size:=fun i d _ hd=>by rw [ham];exact zDl hdm hd
 refine wp_region_any hm ?_
 have:=zLN (Q:=Q) (by omega) B hb ht hf hd hop (fun a' w' I=>?_) n (Array.replicate n false) a { W with drawn:=W.drawn+1 } (by simp) (by simp [unl])
  ⟨rfl,rfl,fun x _=>rfl,fun i d _ hs=>(by rw [getD_replicate_false] at hs;cases hs),⟨rfl,rfl,rfl,Nat.le_refl _,fun _ _=>rfl⟩⟩
 · have e:Array.replicate n false++Array.replicate (l.length - n) false=Array.replicate l.toArray.size false:=by
    rw [Array.replicate_append_replicate];congr 1;simp;omega
   rw [e,show n+(l.length - n)=l.toArray.size by simp;omega] at this
   exact this
 · have hv : ∀ i,∃ v,i<n→(∃ d,zM l i=some d∧a'.tmps[d]? = some v)∧R i v w':=by
    intro i;by_cases hi:i<n
    · obtain ⟨o,ho⟩ : ∃ o,l[i]? = some o:=⟨_,List.getElem?_eq_getElem (by omega)⟩
      obtain ⟨d,hdd⟩:=B.dst i o hi ho;have hdl:zM l i=some d:=by simp [zM,ho,hdd]
      obtain ⟨v,h1,h2⟩:=I.head i d hi (by simp [hi]) hdl
      exact ⟨v,fun _=>⟨⟨d,hdl,h1⟩,h2⟩⟩
    · exact ⟨undef,fun h=>absurd h hi⟩
   obtain ⟨g,hg⟩:=Classical.axiomOfChoice hv;have hlen:((List.range n).map g).length=n:=by simp
   have hz : ∀ i,i<n→(((l.take n).map (·.dst)).zip ((List.range n).map g))[i]? = some (zM l i,g i):=by
    intro i hi;rw [(List.getElem?_zip_eq_some (z:=(zM l i,g i))).2];refine ⟨?_,by simp [hi]⟩
    rw [List.getElem?_map,List.getElem?_take,if_pos hi];unfold zM;rw [List.getElem?_eq_getElem (show i<l.length by omega)];rfl
   have hlt : ∀ {i p},(((l.take n).map (·.dst)).zip ((List.range n).map g))[i]? = some p→i<n:=by
    intro i p hp;have:=(List.getElem?_eq_some_iff.1 hp).1;simp at this;omega
   have heq:a'=zKA (((l.take n).map (·.dst)).zip ((List.range n).map g)) a:=by
    refine zAi ?_ fun x=>?_
    · rw [(zKD _ _).2];exact I.defers
    · by_cases hx : ∃ i,i<n∧zM l i=some x
      · obtain ⟨i,hi,hdx⟩:=hx;obtain ⟨⟨d,h1,h2⟩,_⟩:=hg i hi;rw [hdx] at h1;obtain rfl:=Option.some.inj h1;rw [h2];symm;refine zKB _ a x _ (hd i x hi hdx) ?_ (List.mem_iff_getElem?.2 ⟨i,by rw [hz i hi,hdx]⟩)
        rw [List.pairwise_iff_getElem];intro p q hp hq hpq d' e1 e2;have n1:=hz p (hlt (List.getElem?_eq_getElem hp));have n2:=hz q (hlt (List.getElem?_eq_getElem hq));rw [List.getElem?_eq_getElem hp] at n1;rw [List.getElem?_eq_getElem hq] at n2;rw [Option.some.inj n1] at e1;rw [Option.some.inj n2] at e2;exact B.dist p q d' (hlt (List.getElem?_eq_getElem hp)) (hlt (List.getElem?_eq_getElem hq)) (by omega) e1 e2
      · rw [zKC _ _ x (fun p hp e=>by
         obtain ⟨i,hi⟩:=List.mem_iff_getElem?.1 hp;have hin:=hlt hi;rw [hz i hin] at hi;have:=Option.some.inj hi;subst this;exact hx ⟨i,hin,e⟩)]
        exact I.old x fun i hi _ e=>hx ⟨i,hi,e⟩
   have hres:=h ((List.range n).map g) w' hlen I.below (fun i v hi=>by
    have hin:i<n:=by have:=(List.getElem?_eq_some_iff.1 hi).1;simpa using this
    have:v=g i:=by simpa [hin] using hi.symm
    rw [this];exact (hg i hin).2)
   rw [←heq] at hres;have:=wpAny_of_seq (P:=P) (md:=.any) (ops:=l.toArray) (Q':=Q) (l.drop n) n (Array.replicate n true++Array.replicate (l.length - n) false) a' w' (fun j=>by simp [List.getElem?_drop]) (by simpa using hseq) hres
   simpa using this
end
end
section
open Go.RowKit Go.Sort Go.Maps
open Oct
theorem zHf (Far:Nat→Prop) (sb:Nat) (most:Int) (ts:List Tr) (t:Tr) (k c d x0 x1 x2 x3 x4 x5 x6 x7:Int) (s:ByteArray) (hV:zh ts t=zII k c s d x0 x1 x2 x3 x4 x5 x6 x7) (hG:Good ts) (ht:t∈ts) (hk : ∃ kl,keyOf Tryz.prog 111 (zII k c s d x0 x1 x2 x3 x4 x5 x6 x7)=some kl)
 (w:World) (hS:StoreIs w Far sb most ts) :
 Calls Tryz.prog 74 #[.pointer (some ⟨sb,0,none⟩),.agg #[k,c,.string s,d,x0,x1,x2,x3,x4,x5,x6,x7]] w fun e' w'=>e' = .returned (.tuple #[(idT ts t:Int),(0:Int)])∧Below w.heap.size w w':=by
 obtain ⟨mb,nv,ks,hrow,hmap,hS'⟩:=hS;obtain ⟨kl,hk⟩:=hk;have hkf:=zFt hG ht;rw [hV] at hkf
 have hlook : ∀ W,Below w.heap.size w W→(Instr.lookup 100 (.map (some mb)) (.agg #[k,c,.string s,d,x0,x1,x2,x3,x4,x5,x6,x7]) true).run Tryz.prog W = .ok (.tuple #[(idT ts t:Int),.bool true]) W :=
  fun W hb=>((hmap.kept (row:=none) (zQ hb) (by simp)).look hk).1 _ hkf
 have Hl:=Bx.mk hlook;have Ks:=Bx.mk ks;clear hS' hmap hrow hlook hkf hk hV ks;generalize (idT ts t:Int)=ii at *;go_enter Tryz.func74,Tryz.ntmps74;go_wp2_with fail;generalize hW:World.alloc w _=W;have hSz:=sz1 hW;have hB:=bl1 hW;have kn:Bk W (w.heap.size) #[k,c,.string s,d,x0,x1,x2,x3,x4,x5,x6,x7] 111:=bk0 hW;clear hW;have ks:=Ks.out.later hB
 have hl2 : ∀ dk osk,(Instr.lookup 100 (.map (some mb)) (.agg #[k,c,.string s,d,x0,x1,x2,x3,x4,x5,x6,x7]) true).run Tryz.prog (grow (redrawn W dk) osk) = .ok (.tuple #[ii,.bool true]) (grow (redrawn W dk) osk) :=
  fun dk osk=>Hl.out _ (hB.trans ((below_regrown W dk osk).mono hB.size))
 clear Hl Ks;obtain ⟨cn0,cn1,cn2,cn3,cn4,cn5,cn6,cn7⟩:=kn.r8;have cn8 : ∀ dk osk,(grow (redrawn W dk) osk).cell? ⟨w.heap.size,8,none⟩=some (.int .i64 x4):=cell_regrown (kn.cell 8 rfl);have cn9 : ∀ dk osk,(grow (redrawn W dk) osk).cell? ⟨w.heap.size,9,none⟩=some (.int .i64 x5):=cell_regrown (kn.cell 9 rfl);have cn10 : ∀ dk osk,(grow (redrawn W dk) osk).cell? ⟨w.heap.size,10,none⟩=some (.int .i64 x6):=cell_regrown (kn.cell 10 rfl);have cn11 : ∀ dk osk,(grow (redrawn W dk) osk).cell? ⟨w.heap.size,11,none⟩=some (.int .i64 x7):=cell_regrown (kn.cell 11 rfl);obtain ⟨cs0,cs1,cs2⟩:=ks.r3;refine wp_region_quiet_below (by kernel_rfl) (by kernel_rfl) ?_
 repeat (first | go_big_quiet_step ((fail)) | quiet_step (fail))
 refine wpQuiet_nil ?_;rintro _ ⟨⟨dq,osq⟩,rfl⟩;have hb:=below_regrown W dq osq;clear cn0 cn1 cn2 cn3 cn4 cn5 cn6 cn7 cn8 cn9 cn10 cn11;clear cs0 cs1 cs2;replace hB:=hB.trans (hb.mono hB.size);replace kn:=kn.later hb;replace ks:=ks.later hb;replace hSz:=Nat.le_trans hSz hb.size;clear hb;generalize grow (redrawn W dq) osq=W1 at *;clear hl2;go_wp2_with fail
 go_ret2
 exact ⟨rfl,hB⟩
theorem zLc {w:World} {B n:Nat} {e:TypeId} {sz:Nat} {v:Value} {xs:List Value} (h:w.ownsRow B e sz v n xs) : ∃ a cap,v = .slice a n cap:=by
 rcases h.2 with ⟨rfl,rfl⟩ | ⟨g,cap,cur,rfl,_⟩
 · exact ⟨_,_,rfl⟩
 · exact ⟨_,_,rfl⟩
theorem zHe (Far:Nat→Prop) (sb:Nat) (most:Int) (ts:List Tr) (t:Tr) (k c d x0 x1 x2 x3 x4 x5 x6 x7:Int) (s:ByteArray) (hV:zh ts t=zII k c s d x0 x1 x2 x3 x4 x5 x6 x7) (hG:Good ts) (ht:t ∉ ts) (hle:Leans ts t) (hby:Bytes t) (hm:most≤(ts.length:Int))
 (hk : ∃ kl,keyOf Tryz.prog 111 (zII k c s d x0 x1 x2 x3 x4 x5 x6 x7)=some kl) (w:World) (hS:StoreIs w Far sb most ts) :
 Calls Tryz.prog 74 #[.pointer (some ⟨sb,0,none⟩),.agg #[k,c,.string s,d,x0,x1,x2,x3,x4,x5,x6,x7]] w fun e' w'=>e' = .returned (.tuple #[(0:Int),(14:Int)])∧Below w.heap.size w w':=by
 obtain ⟨mb,nv,ks,hrow,hmap,hS'⟩:=hS;obtain ⟨kl,hk⟩:=hk;obtain ⟨na,nc,rfl⟩:=zLc hrow;have hkf:=zFv hG ht hle hby;rw [hV] at hkf
 have hlook : ∀ W,Below w.heap.size w W→(Instr.lookup 100 (.map (some mb)) (.agg #[k,c,.string s,d,x0,x1,x2,x3,x4,x5,x6,x7]) true).run Tryz.prog W = .ok (.tuple #[(0:Int),.bool false]) W :=
  fun W hb=>((hmap.kept (row:=none) (zQ hb) (by simp)).look hk).2 hkf
 have Hl:=Bx.mk hlook;have Ks:=Bx.mk ks;clear hS' hmap hrow hlook hkf hk hV ks hG ht hle hby;generalize ts.length=nn at *;go_enter Tryz.func74,Tryz.ntmps74;go_wp2_with fail;generalize hW:World.alloc w _=W;have hSz:=sz1 hW;have hB:=bl1 hW;have kn:Bk W (w.heap.size) #[k,c,.string s,d,x0,x1,x2,x3,x4,x5,x6,x7] 111:=bk0 hW;clear hW;have ks:=Ks.out.later hB
 have hl2 : ∀ dk osk,(Instr.lookup 100 (.map (some mb)) (.agg #[k,c,.string s,d,x0,x1,x2,x3,x4,x5,x6,x7]) true).run Tryz.prog (grow (redrawn W dk) osk) = .ok (.tuple #[(0:Int),.bool false]) (grow (redrawn W dk) osk) :=
  fun dk osk=>Hl.out _ (hB.trans ((below_regrown W dk osk).mono hB.size))
 clear Hl Ks;obtain ⟨cn0,cn1,cn2,cn3,cn4,cn5,cn6,cn7⟩:=kn.r8;have cn8 : ∀ dk osk,(grow (redrawn W dk) osk).cell? ⟨w.heap.size,8,none⟩=some (.int .i64 x4):=cell_regrown (kn.cell 8 rfl);have cn9 : ∀ dk osk,(grow (redrawn W dk) osk).cell? ⟨w.heap.size,9,none⟩=some (.int .i64 x5):=cell_regrown (kn.cell 9 rfl);have cn10 : ∀ dk osk,(grow (redrawn W dk) osk).cell? ⟨w.heap.size,10,none⟩=some (.int .i64 x6):=cell_regrown (kn.cell 10 rfl);have cn11 : ∀ dk osk,(grow (redrawn W dk) osk).cell? ⟨w.heap.size,11,none⟩=some (.int .i64 x7):=cell_regrown (kn.cell 11 rfl);obtain ⟨cs0,cs1,cs2⟩:=ks.r3;refine wp_region_quiet_below (by kernel_rfl) (by kernel_rfl) ?_
 repeat (first | go_big_quiet_step ((fail)) | quiet_step (fail))
 refine wpQuiet_nil ?_;rintro _ ⟨⟨dq,osq⟩,rfl⟩;have hb:=below_regrown W dq osq;clear cn0 cn1 cn2 cn3 cn4 cn5 cn6 cn7 cn8 cn9 cn10 cn11;clear cs0 cs1 cs2;replace hB:=hB.trans (hb.mono hB.size);replace kn:=kn.later hb;replace ks:=ks.later hb;replace hSz:=Nat.le_trans hSz hb.size;clear hb;generalize grow (redrawn W dq) osq=W1 at *;clear hl2;go_wp2_with fail;obtain ⟨cs0,cs1,cs2⟩:=ks.r3;refine wp_region_quiet_below (by kernel_rfl) (by kernel_rfl) ?_
 repeat (first | go_big_quiet_step ((fail)) | quiet_step (fail))
 refine wpQuiet_nil ?_;rintro _ ⟨⟨dq,osq⟩,rfl⟩;have hb:=below_regrown W1 dq osq;clear cs0 cs1 cs2;replace hB:=hB.trans (hb.mono hB.size);replace kn:=kn.later hb;replace ks:=ks.later hb;replace hSz:=Nat.le_trans hSz hb.size;clear hb;generalize grow (redrawn W1 dq) osq=W2 at *;go_wp2_with fail
 go_ret2
 exact ⟨rfl,hB⟩
theorem zEM {α:Type} (f:Tr→List α) (m:Nat) : ∀ (l:List Tr),(∀ x∈l,(f x).length=m) → ∀ (i:Nat) (t:Tr) (j:Nat),l[i]? = some t→j<m→(l.flatMap f)[i * m+j]? = (f t)[j]?
 | [],_,i,t,j,h,_=>by simp at h
 | x :: r, hl, 0, t, j, h, hj => by
   simp at h;subst h;rw [List.flatMap_cons,Nat.zero_mul,Nat.zero_add,List.getElem?_append_left (by rw [hl x (by simp)];exact hj)]
 | x :: r, hl, i + 1, t, j, h, hj => by
   rw [List.flatMap_cons,List.getElem?_append_right (by rw [hl x (by simp),Nat.succ_mul];omega),hl x (by simp)]
   rw [show (i+1) * m+j - m=i * m+j by rw [Nat.succ_mul];omega]
   exact zEM f m r (fun y hy=>hl y (by simp [hy])) i t j (by simpa using h) hj
theorem zIS (ts:List Tr) (t:Tr):(zh ts t).cells.toList.length=12:=by cases t <;> rfl
theorem StoreIs.node {w:World} {Far:Nat→Prop} {sb:Nat} {most:Int} {ts:List Tr} (h:StoreIs w Far sb most ts) {i:Nat} {t:Tr} (ht:ts[i]? = some t) :
 ∃ g cap mb,Bk w sb #[most,.slice (some ⟨g,0,none⟩) ts.length cap,.map (some mb)] 102∧i<ts.length ∧ ∀ j u,j<12→(zh ts t).cells.toList[j]? = some u→w.cell? ⟨g,i * 12+j,none⟩=some u:=by
 obtain ⟨mb,nv,h1,h2,_⟩:=h;have hi:i<ts.length:=(List.getElem?_eq_some_iff.1 ht).1;rcases h2.2 with ⟨_,h0⟩ | ⟨g,cap,cur,rfl,_⟩
 · omega
 · refine ⟨g,cap,mb,h1,hi,fun j u hj hu=>?_⟩;have hc:=World.ownsRow.cells h2 (g:=g) rfl (i * 12+j) u (by unfold zLX;rw [zEM _ 12 ts (fun x _=>zIS ts x) i t j ht hj];exact hu)
   have e:(⟨g,0,none⟩:Addr).add (i * 12+j)=⟨g,i * 12+j,none⟩:=by unfold Addr.add;split <;> simp_all
   rw [e] at hc;exact hc
theorem zGB (Far:Nat→Prop) (sb:Nat) (most:Int) (ts:List Tr) (i:Nat) (t:Tr) (ht:ts[i]? = some t) (v:Int) (hv:(zh ts t).cells.toList[0]? = some (.int .i64 v)) (_hlen:ts.length≤4194304) (w:World) (hS:StoreIs w Far sb most ts) :
 Calls Tryz.prog 103 #[.pointer (some ⟨sb,0,none⟩),(i:Int)] w fun e' w'=>e' = .returned (.int .i64 v)∧w=w':=by
 obtain ⟨g,cap,mb,ks,hi,hc⟩:=hS.node ht;have hcv:=hc 0 _ (by omega) hv
 try rw [Nat.add_zero] at hcv
 have cs1:=ks.cell 1 rfl;have b1:(0:Int)≤(i:Int):=by omega
 have b2:(i:Int)<(ts.length:Int):=by omega
 clear hc ks hS hv ht;generalize ts.length=n at *;go_enter Tryz.func103,Tryz.ntmps103;go_wp2_with fail;go_ret;exact ⟨rfl,rfl⟩
theorem zGO (Far:Nat→Prop) (sb:Nat) (most:Int) (ts:List Tr) (w:World) (hS:StoreIs w Far sb most ts) :
 Calls Tryz.prog 32 #[.pointer (some ⟨sb,0,none⟩)] w fun e' w'=>e' = .returned (.int .i64 (ts.length:Int))∧w=w':=by
 obtain ⟨mb,nv,ks,hrow,_⟩:=hS;obtain ⟨na,nc,rfl⟩:=zLc hrow;have cs1:=ks.cell 1 rfl;clear hrow ks;generalize ts.length=n at *;go_enter Tryz.func32,Tryz.ntmps32;go_wp2_with fail;go_ret;exact ⟨rfl,rfl⟩
theorem Bk.put8 {w:World} {g:Nat} {t:TypeId} {v:Value} (h:Bk w g #[v,v,v,v,v,v,v,v] t) (a b c d e f i j:Value) :
 Bk ((((((((w.setCell ⟨g,0,none⟩ a).setCell ⟨g,1,none⟩ b).setCell ⟨g,2,none⟩ c).setCell ⟨g,3,none⟩ d).setCell ⟨g,4,none⟩ e).setCell ⟨g,5,none⟩ f).setCell ⟨g,6,none⟩ i).setCell ⟨g,7,none⟩ j) g #[a,b,c,d,e,f,i,j] t:=by
 simpa using (((((((h.set 0 a).set 1 b).set 2 c).set 3 d).set 4 e).set 5 f).set 6 i).set 7 j
theorem blw8 {B:Nat} {a w:World} (h:Below B a w) {g:Nat} (hg:B≤g) (x y z x' y' z' s s':Value) :
 Below B a ((((((((w.setCell ⟨g,0,none⟩ x).setCell ⟨g,1,none⟩ y).setCell ⟨g,2,none⟩ z).setCell ⟨g,3,none⟩ x').setCell ⟨g,4,none⟩ y').setCell ⟨g,5,none⟩ z').setCell ⟨g,6,none⟩ s).setCell ⟨g,7,none⟩ s') :=
 (((((((h.setCell hg _).setCell hg _).setCell hg _).setCell hg _).setCell hg _).setCell hg _).setCell hg _).setCell hg _
theorem zCi (Far:Nat→Prop) (sb:Nat) (most:Int) (ts:List Tr) (i:Nat) (t:Tr) (ht:ts[i]? = some t) (x0 x1 x2 x3 x4 x5 x6 x7:Int) (hv : ∀ j u,#[Value.int .i64 x0,Value.int .i64 x1,Value.int .i64 x2,Value.int .i64 x3,Value.int .i64 x4,Value.int .i64 x5,Value.int .i64 x6,Value.int .i64 x7].toList[j]? = some u→(zh ts t).cells.toList[4+j]? = some u) (w:World) (hS:StoreIs w Far sb most ts) :
 Calls Tryz.prog 68 #[.pointer (some ⟨sb,0,none⟩),(i:Int)] w fun e' w'=>e' = .returned (.agg #[x0,x1,x2,x3,x4,x5,x6,x7])∧Below w.heap.size w w':=by
 have HS:=Bx.mk hS;have Hv:=Bx.mk hv;have Ht:=Bx.mk ht;clear hS hv ht;go_enter Tryz.func68,Tryz.ntmps68;go_upto_region 1 with fail;generalize hW:World.alloc w _=W;have hSz:=sz1 hW;have hB:=bl1 hW;have kr:Bk W (w.heap.size) #[(0:Int),(0:Int),(0:Int),(0:Int),(0:Int),(0:Int),(0:Int),(0:Int)] 54:=bk0 hW;clear hW;obtain ⟨cr0,cr1,cr2,cr3,cr4,cr5,cr6,cr7⟩:=kr.c8;obtain ⟨fr0,fr1,fr2,fr3,fr4,fr5,fr6,fr7⟩:=kr.f8;obtain ⟨g,cap,mb,ks,hi,hc⟩:=(HS.out.later hB).node Ht.out;have d0:=hc 4 _ (by omega) (Hv.out 0 _ rfl)
 have d1:=hc 5 _ (by omega) (Hv.out 1 _ rfl)
 have d2:=hc 6 _ (by omega) (Hv.out 2 _ rfl)
 have d3:=hc 7 _ (by omega) (Hv.out 3 _ rfl)
 have d4:=hc 8 _ (by omega) (Hv.out 4 _ rfl)
 have d5:=hc 9 _ (by omega) (Hv.out 5 _ rfl)
 have d6:=hc 10 _ (by omega) (Hv.out 6 _ rfl)
 have d7:=hc 11 _ (by omega) (Hv.out 7 _ rfl)
 have cs1:=ks.cell 1 rfl;have b1:(0:Int)≤(i:Int):=by omega
 have b2:(i:Int)<(ts.length:Int):=by omega
 clear hc HS Hv Ht ks;generalize ts.length=n at *;go_wp2_with fail;replace kr:=kr.put8 (.int .i64 x0) (.int .i64 x1) (.int .i64 x2) (.int .i64 x3) (.int .i64 x4) (.int .i64 x5) (.int .i64 x6) (.int .i64 x7);exact bodyPost_ret (v:=.agg #[x0,x1,x2,x3,x4,x5,x6,x7]) (results_cell_row rfl _ _ _ 54 #[x0,x1,x2,x3,x4,x5,x6,x7] (0,0) _ rfl kr Tryz.underlying54 rfl (by kernel_rfl)) rfl ⟨rfl,blw8 hB (by omega) _ _ _ _ _ _ _ _⟩
theorem zFu (v:Value):zFq [] v=none:=by
 unfold zFq;rw [dif_neg];rintro ⟨t,h,_⟩;cases h
theorem zIF (most:Int) (w:World):Calls Tryz.prog 35 #[most] w fun e' w' => ∃ sb,e' = .returned (.pointer (some ⟨sb,0,none⟩))∧StoreIs w' (fun k=>k<w.heap.size) sb most []∧Below w.heap.size w w':=by
 have hmm:=@run_makeMap Tryz.prog;go_enter Tryz.func35,Tryz.ntmps35;go_wp2_with fail;generalize hW1:World.alloc w (Obj.map #[] 0)=W1;have hB1:=bl1 hW1;have hM:MapFn W1 w.heap.size 0 (fun _=>none):=by rw [←hW1];exact MapFn.made w
 have hs1:W1.heap.size=w.heap.size+1:=by rw [←hW1];simp
 clear hW1;generalize hW2:World.alloc W1 _=W2;have hb2:=bl1 hW2;have ks:Bk W2 W1.heap.size #[most,.slice none 0 0,.map (some w.heap.size)] 102:=bk0 hW2 rfl;clear hW2;rw [hs1] at ks;go_ret;refine ⟨w.heap.size+1,by simp,⟨w.heap.size,.slice none 0 0,ks,World.ownsRow_nil _ _ _ _,((hM.kept (row:=none) (zQ hb2) (by simp)).congr fun key kl _=>(zFu key).symm),by omega,by omega,fun g hg=>by simp [Value.ownBlock] at hg,by omega,by simp [Value.ownBlock],by simp [Value.ownBlock]⟩,hB1.trans (hb2.mono (by omega))⟩
end
section
open Go.RowKit Go.Sort Go.Maps
theorem zMZ {P:Program} {ops:Array Oper} {o:Oper} {a:Act} {w:World} {K:Act→World→Prop} {Q:Exit→Act→World→Prop} {E:Prop} (hgd:o.guard=none) (s x:Operand) (t:TypeId)
 (ho:o.op = .call { callee:=.builtin .append,args:=#[s,x],argTypes:=#[t,t] })
 (base:Nat) (e:TypeId) (i:TypeInfo) (z:Value) (size bytes:Nat) (ht:P.underlying t=some (.slice e)) (hi:P.info? e=some i) (hz:i.zero=some z)
 (hsize:i.size=size) (hby:i.bytes=bytes) (hzs:z.cells.size=size) (hsz:0<size)
 (v:Value) (n:Nat) (xs:List Value) (hs:a.eval s=v) (hown:w.ownsRow base e size v n xs)
 (ad:Addr) (m c:Nat) (news:List Value) (hx:a.eval x = .slice (some ad) m c) (hl:news.length=m * size) (hnews : ∀ j u,news[j]? = some u→w.cell? (ad.add j)=some u) (h1 : ∀ u∈news,u.oneCell'=true)
 (h63:n+m≤maxLen) (hbytes:(n+m) * bytes≤140737488355328) (hbase:base≤w.heap.size)
 (h : ∀ v' w',Bx (w'.ownsRow base e size v' (n+m) (xs++news))→Bx (w.grownBy w' v.ownBlock)→Bx (v'.ownBlock=v.ownBlock∨v'.ownBlock=some w.heap.size)→K (a.put o.dst v') w') :
 if Region.wanted o (yielded ops a.tmps)=true then Oper.wp P o a w K Q else E:=by
 have hw:Region.wanted o (yielded ops a.tmps)=true:=by simp [Region.wanted,hgd]
 rw [if_pos hw];obtain ⟨v',w',hr,h2,h3,h4,h5⟩:=run_append_own_at (P:=P) w base t o.type e i z size bytes ht hi hz hsize hby hzs hsz v n xs hown ad m c news hl hnews h1 h63 hbytes hbase;unfold Oper.wp;simp [execOp,ho,resolve,invoke,builtin,hs,hx,hr,Result.andThen];exact h v' w' ⟨h2⟩ ⟨h3⟩ ⟨h5⟩
end
end Go.Proofs.YtgnfgblkpnfcnaaGreatDoor
