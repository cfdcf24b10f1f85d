/- Rel, RegT, RlT, Map, Node: joined by program, for one claim. -/
import Derived.Test.YtfcbajmjaifjlaaGreatM2
import Derived.Test.YtfcbajmjaifjlaaGreatM1
import Derived.Maps.OwnSet
import Derived.Maps.Views
import Derived.DeepKeys4
import Derived.Laws.BytesArg
set_option linter.unusedVariables false
set_option linter.unusedSimpArgs false
namespace Go.Proofs.YtfcbajmjaifjlaaGreat
section
open Go.Sort Go.RowKit
@[go_sem] def relUpon (P : Program) (w : World) (R : Value → World → Prop) : Result Next → Prop
  | .ok (.value u) w'=>Below w.heap.size w w'∧R u w'
  | .ok (.enter f args) w'=>w'=w∧Calls P f args w (fun e w'' => ∃ v,e = .returned v∧Below w.heap.size w w''∧R v w'')
  | _=>False
def maker (l:List Oper) (n:Nat) (d:Tmp):Option Nat:=(List.range n).find? fun j=>decide (dstAt l j=some d)
def Known (l:List Oper) (n:Nat) (R:Nat→Value→World→Prop) (a:Act) (d:Tmp) (v:Value) (w:World):Prop :=
 match maker l n d with
 | some j=>R j v w
 | none=>v=a.eval (.tmp d)
def relB (l:List Oper) (n:Nat):Bool :=
 Region.noSelect l.toArray &&
 ((List.range n).all fun i => match l[i]? with
   | some o => o.guard.isNone && o.dst.isSome && o.op.operands.toList.all fun x => match x with
     | .tmp d=>(List.range n).all fun j => !decide (dstAt l j=some d) || (decide (j<i) && Region.waitsFor .any l.toArray i j)
     | _=>true
   | none=>false) &&
 ((List.range n).all fun i=>(List.range n).all fun j=>decide (i=j) || !decide (dstAt l i=dstAt l j))
structure RelB (l:List Oper) (n:Nat):Prop where
 nosel:Region.noSelect l.toArray=true
 guard : ∀ i o,i<n→l[i]? = some o→o.guard=none
 dst : ∀ i o,i<n→l[i]? = some o → ∃ d,o.dst=some d
 data : ∀ i o d j,i<n→l[i]? = some o → .tmp d∈o.op.operands→j<n→dstAt l j=some d→j<i∧Region.waitsFor .any l.toArray i j=true
 dist : ∀ i j d,i<n→j<n→i ≠ j→dstAt l i=some d→dstAt l j ≠ some d
theorem relB_spec {l:List Oper} {n:Nat} (h:relB l n=true):RelB l n:=by
 simp only [relB,Bool.and_eq_true] at h
 obtain ⟨⟨h3,h4⟩,h5⟩:=h
 refine ⟨h3,fun i o hi ho=>?_,fun i o hi ho=>?_,fun i o d j hi ho hd hj hdj=>?_,fun i j d hi hj hne hdi hdj=>?_⟩
 · have:=List.all_eq_true.1 h4 i (List.mem_range.2 hi)
   simp only [ho,Bool.and_eq_true,Option.isNone_iff_eq_none] at this
   exact this.1.1
 · have:=List.all_eq_true.1 h4 i (List.mem_range.2 hi)
   simp only [ho,Bool.and_eq_true] at this
   exact Option.isSome_iff_exists.1 this.1.2
 · have:=List.all_eq_true.1 h4 i (List.mem_range.2 hi)
   simp only [ho,Bool.and_eq_true] at this
   have:=List.all_eq_true.1 this.2 (.tmp d) (by simpa using hd)
   have:=List.all_eq_true.1 this j (List.mem_range.2 hj)
   simpa [hdj] using this
 · have:=List.all_eq_true.1 (List.all_eq_true.1 h5 i (List.mem_range.2 hi)) j (List.mem_range.2 hj)
   simp [hne,hdi,hdj] at this
def Firm (R:Value→World→Prop):Prop := ∀ v w w',Below w.heap.size w w'→R v w→R v w'
structure RI (l:List Oper) (n:Nat) (R:Nat→Value→World→Prop) (W:World) (a:Act) (s:Array Bool) (a':Act) (w':World):Prop where
 tsize:a'.tmps.size=a.tmps.size
 defers:a'.defers=a.defers
 old : ∀ x:Nat,(∀ i,i<n→s.getD i false=true→dstAt l i ≠ some x)→a'.tmps[x]? = a.tmps[x]?
 head : ∀ i d,i<n→s.getD i false=true→dstAt l i=some d → ∃ v,a'.tmps[d]? = some v∧R i v w'
 below:Below W.heap.size W w'
section
variable {P:Program} {l:List Oper} {n:Nat} {R:Nat→Value→World→Prop} {W:World} {a:Act}
theorem maker_spec {d:Tmp} {j:Nat} (h:maker l n d=some j):j<n∧dstAt l j=some d:=by
 unfold maker at h
 exact ⟨List.mem_range.1 (List.mem_of_find?_eq_some h),by simpa using List.find?_some h⟩
theorem maker_none {d:Tmp} (h:maker l n d=none) : ∀ j,j<n→dstAt l j ≠ some d:=by
 unfold maker at h
 intro j hj e
 have:=List.find?_eq_none.1 h j (List.mem_range.2 hj)
 simp [e] at this
theorem ri_step (B:RelB l n) (hf : ∀ i,i<n→Firm (R i)) (hd : ∀ i d,i<n→dstAt l i=some d→d<a.tmps.size)
 (hop : ∀ i o,i<n→l[i]? = some o → ∀ (ρ:Operand→Value) w,Below W.heap.size W w→(∀ v,ρ (.const v)=v)→(∀ g,ρ (.global g) = .pointer (some ⟨g,0,none⟩))→(∀ f,ρ (.func f) = .func (.func f) #[] #[]) →
  (∀ d,.tmp d∈o.op.operands→Known l n R a d (ρ (.tmp d)) w)→relUpon P w (R i) ((execOp ρ o).run P w))
 {Q:Exit→Act→World→Prop} {s:Array Bool} (hs:s.size=n) {a':Act} {w':World} (I:RI l n R W a s a' w') {i:Nat} (hin:i<n) (hr:i∈Region.ready .any l.toArray (s++Array.replicate (l.length - n) false)) (hun:s.getD i true=false) :
 wpOp P l.toArray Q i (fun a'' w''=>RI l n R W a (s.setIfInBounds i true) a'' w'') a' w':=by
 obtain ⟨_,o,ho,hall⟩:=mem_ready.1 hr
 have hol:l[i]? = some o:=by simpa using ho
 have hdo:dstAt l i=o.dst:=by simp [dstAt,hol]
 obtain ⟨di,hdi⟩:=B.dst i o hin hol
 have hself:=getD_set_self (s:=s) (i:=i) (by omega)
 have hnew : ∀ j,j ≠ i→(s.setIfInBounds i true).getD j false=s.getD j false:=fun j hj=>getD_set_ne false (Ne.symm hj)
 unfold wpOp
 simp only [ho]
 have hw:Region.wanted o (yielded l.toArray a'.tmps)=true:=by simp [Region.wanted,B.guard i o hin hol]
 rw [if_pos hw]
 left
 have hk : ∀ d,.tmp d∈o.op.operands→Known l n R a d (a'.eval (.tmp d)) w':=by
  intro d hd'
  unfold Known
  cases hm:maker l n d with
  | some j =>
    obtain ⟨hj,hdj⟩:=maker_spec hm
    obtain ⟨hji,hwt⟩:=B.data i o d j hin hol hd' hj hdj
    have hlj:=waits_listed hwt hr
    rw [app_get hs hj] at hlj
    obtain ⟨v,h1,h2⟩:=I.head j d hj hlj hdj
    have:a'.eval (.tmp d)=v:=by simp [Act.eval,Array.getD_eq_getD_getElem?,h1]
    rw [this];exact h2
  | none=>exact eval_tmp (I.old d fun j hj _ e=>maker_none hm j hj e)
 have hrun:=hop i o hin hol a'.eval w' I.below (fun _=>rfl) (fun _=>rfl) (fun _=>rfl) hk
 have post : ∀ v w'',Below w'.heap.size w' w''→R i v w''→RI l n R W a (s.setIfInBounds i true) (a'.put o.dst v) w'':=by
  intro v w'' hb hR
  refine ⟨by rw [put_size,I.tsize],by rw [put_defers,I.defers],fun x hx=>?_,fun j d hj hs' hdj=>?_,I.below.trans (hb.mono I.below.size)⟩
  · rw [put_other v (fun e=>hx i hin hself (by rw [hdo];exact e))]
    refine I.old x fun j hj hs'=>hx j hj ?_
    by_cases e:j=i
    · subst e;exact hself
    · rw [hnew j e];exact hs'
  · by_cases e:j=i
    · subst e
      rw [hdo] at hdj
      rw [hdj,put_same v (by rw [I.tsize];exact hd j d hin (by rw [hdo];exact hdj))]
      exact ⟨v,rfl,hR⟩
    · rw [hnew j e] at hs'
      obtain ⟨u,h1,h2⟩:=I.head j d hj hs' hdj
      rw [put_other v (fun e'=>B.dist j i d hj hin e hdj (by rw [hdo];exact e'))]
      exact ⟨u,h1,hf j hj u w' w'' hb h2⟩
 unfold Oper.wp
 generalize (execOp a'.eval o).run P w'=r at hrun
 cases r with
 | ok nx w'' =>
   cases nx <;> simp only [relUpon] at hrun <;> simp only [Oper.upon]
   case value u=>exact post _ _ hrun.1 hrun.2
   case enter f args =>
    obtain ⟨rfl,hc⟩:=hrun
    refine hc.mono fun e w3 ⟨v,he,hb,hR⟩=>?_
    subst he
    exact post _ _ hb hR
 | halt x w''=>simp only [relUpon] at hrun
theorem ri_any (hn:n≤l.length) (B:RelB l n) (hb:backB .any l n=true) (ht:tailB .any l n=true) (hf : ∀ i,i<n→Firm (R i)) (hd : ∀ i d,i<n→dstAt l i=some d→d<a.tmps.size)
 (hop : ∀ i o,i<n→l[i]? = some o → ∀ (ρ:Operand→Value) w,Below W.heap.size W w→(∀ v,ρ (.const v)=v)→(∀ g,ρ (.global g) = .pointer (some ⟨g,0,none⟩))→(∀ f,ρ (.func f) = .func (.func f) #[] #[]) →
  (∀ d,.tmp d∈o.op.operands→Known l n R a d (ρ (.tmp d)) w)→relUpon P w (R i) ((execOp ρ o).run P w))
 {Q:Exit→Act→World→Prop} (hend : ∀ a' w',RI l n R W a (Array.replicate n true) a' w'→wpAny P .any l.toArray Q (l.length - n) (Array.replicate n true++Array.replicate (l.length - n) false) a' w') :
 ∀ (f:Nat) (s:Array Bool) (a':Act) (w':World),s.size=n→unl s=f→RI l n R W a s a' w'→wpAny P .any l.toArray Q (f+(l.length - n)) (s++Array.replicate (l.length - n) false) a' w'
 | 0, s, a', w', hs, hu, I => by
   have e:s=Array.replicate n true:=by rw [←hs];exact unl_zero hu
   rw [Nat.zero_add,e]
   rw [e] at I
   exact hend a' w' I
 | f + 1, s, a', w', hs, hu, I => by
   obtain ⟨k,hk,hun⟩:=unl_pos (s:=s) (by omega)
   rw [show f+1+(l.length - n)=(f+(l.length - n))+1 by omega]
   refine ⟨fun h0=>?_,fun i hi=>?_⟩
   · obtain ⟨i,hi⟩:=ready_some (g:=l.length - n) hs hn hb (k+1) k (by omega) (by omega) hun
     rw [h0] at hi;cases hi
   · have hin:=ready_not_tail hs (by omega:k<n) hun ht hi
     have hiu:s.getD i true=false:=by have:=(mem_ready.1 hi).1;rwa [app_get hs hin] at this
     refine wpOp_mono (fun a'' w'' I'=>?_) (ri_step B hf hd hop hs I hin hi hiu)
     rw [app_set (by omega)]
     refine ri_any hn B hb ht hf hd hop hend f _ a'' w'' (by simpa using hs) ?_ I'
     have:=unl_set (s:=s) (by omega) hiu
     omega
def headR (l:List Oper) (n:Nat):Bool :=
 decide (n<l.length) && backB .any l n && tailB .any l n && relB l n && Region.seqB .any l.toArray (l.length - n) n (Array.replicate n true++Array.replicate (l.length - n) false)
theorem wp_region_rel {id:Nat} {Q:Exit→Act→World→Prop} (n:Nat) (R:Nat→Value→World→Prop) (hm:P.follows .mixedOrders=true) (hB:headR l n=true) (m:Nat) (hdm:dstB l m=true) (ham:a.tmps.size=m)
 (hf : ∀ i,i<n→Firm (R i))
 (hop : ∀ i o,i<n→l[i]? = some o → ∀ (ρ:Operand→Value) w,Below W.heap.size W w→(∀ v,ρ (.const v)=v)→(∀ g,ρ (.global g) = .pointer (some ⟨g,0,none⟩))→(∀ f,ρ (.func f) = .func (.func f) #[] #[]) →
  (∀ d,.tmp d∈o.op.operands→Known l n R a d (ρ (.tmp d)) w)→relUpon P w (R i) ((execOp ρ o).run P w))
 (h : ∀ (vs:List Value) w',vs.length=n→Below W.heap.size W w'→(∀ i v,vs[i]? = some v→R i v w')→wpList P l.toArray Q (l.drop n) (puts (((l.take n).map (·.dst)).zip vs) a) w'):(Code.region id l.toArray true).wp P Q a W:=by
 simp only [headR,Bool.and_eq_true,decide_eq_true_eq] at hB
 obtain ⟨⟨⟨⟨hn,hb⟩,ht⟩,hrel⟩,hseq⟩:=hB
 have B:=relB_spec hrel
 have hd : ∀ i d,i<n→dstAt l i=some d→d<a.tmps.size:=fun i d _ hd=>by rw [ham];exact dstB_spec hdm hd
 refine wp_region_any hm ?_
 have:=ri_any (Q:=Q) (by omega) B hb ht hf hd hop (fun a' w' I=>?_) n (Array.replicate n false) a { W with drawn:=W.drawn+1 } (by simp) (by simp [unl])
  ⟨rfl,rfl,fun x _=>rfl,fun i d _ hs=>(by rw [getD_replicate_false] at hs;cases hs),⟨rfl,rfl,rfl,Nat.le_refl _,fun _ _=>rfl⟩⟩
 · have e:Array.replicate n false++Array.replicate (l.length - n) false=Array.replicate l.toArray.size false:=by
    rw [Array.replicate_append_replicate];congr 1;simp;omega
   rw [e,show n+(l.length - n)=l.toArray.size by simp;omega] at this
   exact this
 · have hv : ∀ i,∃ v,i<n→(∃ d,dstAt l i=some d∧a'.tmps[d]? = some v)∧R i v w':=by
    intro i
    by_cases hi:i<n
    · obtain ⟨o,ho⟩ : ∃ o,l[i]? = some o:=⟨_,List.getElem?_eq_getElem (by omega)⟩
      obtain ⟨d,hdd⟩:=B.dst i o hi ho
      have hdl:dstAt l i=some d:=by simp [dstAt,ho,hdd]
      obtain ⟨v,h1,h2⟩:=I.head i d hi (by simp [hi]) hdl
      exact ⟨v,fun _=>⟨⟨d,hdl,h1⟩,h2⟩⟩
    · exact ⟨undef,fun h=>absurd h hi⟩
   obtain ⟨g,hg⟩:=Classical.axiomOfChoice hv
   have hlen:((List.range n).map g).length=n:=by simp
   have hz : ∀ i,i<n→(((l.take n).map (·.dst)).zip ((List.range n).map g))[i]? = some (dstAt l i,g i):=by
    intro i hi
    rw [(List.getElem?_zip_eq_some (z:=(dstAt l i,g i))).2]
    refine ⟨?_,by simp [hi]⟩
    rw [List.getElem?_map,List.getElem?_take,if_pos hi]
    unfold dstAt
    rw [List.getElem?_eq_getElem (show i<l.length by omega)];rfl
   have hlt : ∀ {i p},(((l.take n).map (·.dst)).zip ((List.range n).map g))[i]? = some p→i<n:=by
    intro i p hp
    have:=(List.getElem?_eq_some_iff.1 hp).1
    simp at this;omega
   have heq:a'=puts (((l.take n).map (·.dst)).zip ((List.range n).map g)) a:=by
    refine act_ext ?_ fun x=>?_
    · rw [(puts_size _ _).2];exact I.defers
    · by_cases hx : ∃ i,i<n∧dstAt l i=some x
      · obtain ⟨i,hi,hdx⟩:=hx
        obtain ⟨⟨d,h1,h2⟩,_⟩:=hg i hi
        rw [hdx] at h1
        obtain rfl:=Option.some.inj h1
        rw [h2]
        symm
        refine puts_in _ a x _ (hd i x hi hdx) ?_ (List.mem_iff_getElem?.2 ⟨i,by rw [hz i hi,hdx]⟩)
        rw [List.pairwise_iff_getElem]
        intro p q hp hq hpq d' e1 e2
        have n1:=hz p (hlt (List.getElem?_eq_getElem hp))
        have n2:=hz q (hlt (List.getElem?_eq_getElem hq))
        rw [List.getElem?_eq_getElem hp] at n1
        rw [List.getElem?_eq_getElem hq] at n2
        rw [Option.some.inj n1] at e1
        rw [Option.some.inj n2] at e2
        exact B.dist p q d' (hlt (List.getElem?_eq_getElem hp)) (hlt (List.getElem?_eq_getElem hq)) (by omega) e1 e2
      · rw [puts_out _ _ x (fun p hp e=>by
         obtain ⟨i,hi⟩:=List.mem_iff_getElem?.1 hp
         have hin:=hlt hi
         rw [hz i hin] at hi
         have:=Option.some.inj hi
         subst this
         exact hx ⟨i,hin,e⟩)]
        exact I.old x fun i hi _ e=>hx ⟨i,hi,e⟩
   have hres:=h ((List.range n).map g) w' hlen I.below (fun i v hi=>by
    have hin:i<n:=by have:=(List.getElem?_eq_some_iff.1 hi).1;simpa using this
    have:v=g i:=by simpa [hin] using hi.symm
    rw [this];exact (hg i hin).2)
   rw [←heq] at hres
   have:=wpAny_of_seq (P:=P) (md:=.any) (ops:=l.toArray) (Q':=Q) (l.drop n) n (Array.replicate n true++Array.replicate (l.length - n) false) a' w' (fun j=>by simp [List.getElem?_drop]) (by simpa using hseq) hres
   simpa using this
end
end
section
open Go.Sort Go.RowKit
def tailT (md:Region.Mode) (l:List Oper) (n:Nat):Bool :=
 ((List.range n).all fun k=>Region.waitsFor md l.toArray n k || (List.range n).any fun m=>decide (k<m) && Region.waitsFor md l.toArray m k) && (List.range l.length).all fun t=>decide (t≤n) || Region.waitsFor md l.toArray t (t - 1)
def headT (l:List Oper) (n:Nat):Bool :=
 decide (n<l.length) && backB .any l n && tailT .any l n && Region.lexB .any (l.take n).toArray && Region.seqB .any l.toArray (l.length - n) n (Array.replicate n true++Array.replicate (l.length - n) false)
section
variable {P:Program} {md:Region.Mode} {l:List Oper} {n:Nat} {C:World→Prop}
def Shut (md:Region.Mode) (l:List Oper) (s:Array Bool):Prop := ∀ m k,s.getD m false=true→Region.waitsFor md l.toArray m k=true→s.getD k false=true
theorem not_first {s:Array Bool} (hs:s.size=n) {g:Nat} (hsh:Shut md l s) (ht:tailT md l n=true) (h:n∈Region.ready md l.toArray (s++Array.replicate g false)) : ∀ (d k:Nat),n - k≤d→k<n→s.getD k false=false→False
 | 0,k,h1,h2,_=>by omega
 | d + 1, k, hd, hk, hun => by
   obtain ⟨h1,o,ho,h2⟩:=mem_ready.1 h
   have ht':=ht
   simp only [tailT,Bool.and_eq_true] at ht'
   have h3:=List.all_eq_true.1 ht'.1 k (List.mem_range.2 hk)
   simp only [Bool.or_eq_true] at h3
   rcases h3 with h3 | h3
   · obtain ⟨o',ho',e,he,hbi,hon⟩:=Region.waitsFor_spec h3
     obtain rfl:o'=o:=Option.some.inj (ho'.symm.trans ho)
     have:=h2 e he hbi
     rw [hon,app_get hs hk,hun] at this
     cases this
   · obtain ⟨m,hm,h4⟩:=List.any_eq_true.1 h3
     simp only [Bool.and_eq_true,decide_eq_true_eq] at h4
     have hmn:=List.mem_range.1 hm
     refine not_first hs hsh ht h d m (by omega) hmn ?_
     cases hx:s.getD m false with
     | false=>rfl
     | true=>have:=hsh m k hx h4.2;rw [hun] at this;cases this
theorem ready_not_tailT {s:Array Bool} (hs:s.size=n) (hsh:Shut md l s) {g i k:Nat} (hk:k<n) (hun:s.getD k false=false) (ht:tailT md l n=true) (h:i∈Region.ready md l.toArray (s++Array.replicate g false)):i<n:=by
 obtain ⟨h1,o,ho,h2⟩:=mem_ready.1 h
 rcases Nat.lt_or_ge i n with hlt | hge
 · exact hlt
 · exfalso
   have hil:i<l.length:=by have:=(Array.getElem?_eq_some_iff.1 ho).1;simpa using this
   by_cases hin:i=n
   · subst hin
     exact not_first hs hsh ht h (i - k) k (Nat.le_refl _) hk hun
   · have ht':=ht
     simp only [tailT,Bool.and_eq_true] at ht'
     have h3:=List.all_eq_true.1 ht'.2 i (List.mem_range.2 hil)
     simp only [Bool.or_eq_true,decide_eq_true_eq] at h3
     rcases h3 with h3 | h3
     · omega
     · obtain ⟨o',ho',e,he,hbi,hon⟩:=Region.waitsFor_spec h3
       obtain rfl:o'=o:=Option.some.inj (ho'.symm.trans ho)
       have:=h2 e he hbi
       rw [hon,app_tail hs (by omega)] at this
       cases this
theorem shut_set {s:Array Bool} {i:Nat} (hsh:Shut md l s) (hi:i∈Region.ready md (l.take n).toArray s) (hin:i<n):Shut md l (s.setIfInBounds i true):=by
 intro m k hm hw
 have keep : ∀ j,s.getD j false=true→(s.setIfInBounds i true).getD j false=true:=by
  intro j hj
  simp only [Array.getD_eq_getD_getElem?,Array.getElem?_setIfInBounds] at hj ⊢
  split
  · split
    · rfl
    · rename_i h;rw [Array.getElem?_eq_none (by omega)] at hj;exact hj
  · exact hj
 by_cases e:i=m
 · subst e
   obtain ⟨_,o,ho,h2⟩:=mem_ready.1 hi
   obtain ⟨o',ho',e,he,hbi,hon⟩:=Region.waitsFor_spec hw
   rw [take_get hin] at ho
   obtain rfl:o'=o:=Option.some.inj (ho'.symm.trans ho)
   exact keep k (hon ▸ h2 e he hbi)
 · refine keep k (hsh m k ?_ hw)
   simpa [Array.getD_eq_getD_getElem?,Array.getElem?_setIfInBounds,e] using hm
theorem wpAny_of_headT {Qa:Act→Prop} {Q:Exit→Act→World→Prop} {g:Nat} (hn:n≤l.length) (hb:backB md l n=true) (ht:tailT md l n=true)
 (hend : ∀ a w,C w→Qa a→wpAny P md l.toArray Q g (Array.replicate n true++Array.replicate g false) a w) :
 ∀ (f : Nat) (s : Array Bool) (a : Act) (w : World), s.size = n → Shut md l s → unl s = f → C w → wpAnyQ P md (l.take n).toArray C Qa f s a →
   wpAny P md l.toArray Q (f+g) (s++Array.replicate g false) a w
 | 0, s, a, w, hs, _, hu, hw, h => by
   rw [Nat.zero_add,unl_zero hu,hs]
   exact hend a w hw h.2
 | f + 1, s, a, w, hs, hsh, hu, hw, h => by
   obtain ⟨k,hk,hun⟩:=unl_pos (s:=s) (by omega)
   rw [show f+1+g=(f+g)+1 by omega]
   refine ⟨fun h0=>?_,fun i hi=>?_⟩
   · obtain ⟨i,hi⟩:=ready_some (g:=g) hs hn hb (k+1) k (by omega) (by omega) hun
     rw [h0] at hi;cases hi
   · have hin:=ready_not_tailT hs hsh (by omega:k<n) hun ht hi
     have hr:=ready_head hs hin hb hi
     have hq:=h.2 i hr
     obtain ⟨hiu,o,ho,_⟩:=mem_ready.1 hr
     have ho':l.toArray[i]? = some o:=by rw [←take_get hin];exact ho
     have step : ∀ a' w',C w'→wpAnyQ P md (l.take n).toArray C Qa f (s.setIfInBounds i true) a'→wpAny P md l.toArray Q (f+g) ((s++Array.replicate g false).setIfInBounds i true) a' w':=by
      intro a' w' hw' h'
      rw [app_set (by omega)]
      refine wpAny_of_headT hn hb ht hend f _ a' w' (by simpa using hs) (shut_set hsh hr hin) ?_ hw' h'
      have:=unl_set (s:=s) (by omega) hiu
      omega
     have hq':qOp P l.toArray C i (wpAnyQ P md (l.take n).toArray C Qa f (s.setIfInBounds i true)) a:=by
      unfold qOp at hq ⊢
      simp only [ho] at hq
      simp only [ho']
      rwa [wanted_head hb hin ho'] at hq
     exact wpOp_of_qOp hw step hq'
theorem wp_region_headT {id:Nat} {Q:Exit→Act→World→Prop} {a:Act} {w:World} (n:Nat) (hm:P.follows .mixedOrders=true) (hB:headT l n=true) (hC:C { w with drawn:=w.drawn+1 })
 (h:wpQuiet P (l.take n).toArray C (fun a' => ∀ w',C w'→wpList P l.toArray Q (l.drop n) a' w') (l.take n) a):(Code.region id l.toArray true).wp P Q a w:=by
 simp only [headT,Bool.and_eq_true,decide_eq_true_eq] at hB
 obtain ⟨⟨⟨⟨hn,hb⟩,ht⟩,hlex⟩,hseq⟩:=hB
 simp only [Region.lexB,Bool.and_eq_true] at hlex
 refine wp_region_any hm ?_
 have hsz:(l.take n).toArray.size=n:=by simp;omega
 have hq:=wpAnyQ_lex (P:=P) (C:=C) (md:=.any) hlex.1 (l.take n) 0 (Array.replicate n false) a (by simp) (by have:=hlex.2;rw [hsz] at this;simpa [show (l.take n).length=n by simp;omega] using this) h
 rw [show (l.take n).length=n by simp;omega] at hq
 have:=wpAny_of_headT (g:=l.length - n) (Q:=Q) (md:=.any) (by omega) hb ht (fun a w hw hQa=>by
  have:=wpAny_of_seq (P:=P) (md:=.any) (ops:=l.toArray) (Q':=Q) (l.drop n) n (Array.replicate n true++Array.replicate (l.length - n) false) a w (fun j=>by simp [List.getElem?_drop]) (by simpa using hseq) (hQa w hw)
  simpa using this) n (Array.replicate n false) a _ (by simp) (fun m k h=>by
   simp only [Array.getD_eq_getD_getElem?,Array.getElem?_replicate] at h
   split at h <;> simp at h) (by simp [unl]) hC hq
 have e:Array.replicate n false++Array.replicate (l.length - n) false=Array.replicate l.toArray.size false:=by
  rw [Array.replicate_append_replicate];congr 1;simp;omega
 rw [e,show n+(l.length - n)=l.toArray.size by simp;omega] at this
 exact this
theorem wp_region_headT_below {id:Nat} {Q:Exit→Act→World→Prop} {a:Act} {w:World} (n:Nat) (hm:P.follows .mixedOrders=true) (hB:headT l n=true)
 (h:wpQuiet P (l.take n).toArray (fun w' => ∃ p:Regrown,w'=grow (redrawn w p.d) p.os) (fun a' => ∀ w',(∃ p:Regrown,w'=grow (redrawn w p.d) p.os)→wpList P l.toArray Q (l.drop n) a' w') (l.take n) a) :
 (Code.region id l.toArray true).wp P Q a w :=
 wp_region_headT (C:=fun w' => ∃ p:Regrown,w'=grow (redrawn w p.d) p.os) n hm hB ⟨⟨w.drawn+1,#[]⟩,by rw [grow_empty];rfl⟩ h
end
end
section
open Go.Sort Go.RowKit
section
variable {P:Program} {l:List Oper} {n:Nat} {R:Nat→Value→World→Prop} {W:World} {a:Act}
theorem ri_anyT (hn:n≤l.length) (B:RelB l n) (hb:backB .any l n=true) (ht:tailT .any l n=true) (hf : ∀ i,i<n→Firm (R i)) (hd : ∀ i d,i<n→dstAt l i=some d→d<a.tmps.size)
 (hop : ∀ i o,i<n→l[i]? = some o → ∀ (ρ:Operand→Value) w,Below W.heap.size W w→(∀ v,ρ (.const v)=v)→(∀ g,ρ (.global g) = .pointer (some ⟨g,0,none⟩))→(∀ f,ρ (.func f) = .func (.func f) #[] #[]) →
  (∀ d,.tmp d∈o.op.operands→Known l n R a d (ρ (.tmp d)) w)→relUpon P w (R i) ((execOp ρ o).run P w))
 {Q:Exit→Act→World→Prop} (hend : ∀ a' w',RI l n R W a (Array.replicate n true) a' w'→wpAny P .any l.toArray Q (l.length - n) (Array.replicate n true++Array.replicate (l.length - n) false) a' w') :
 ∀ (f:Nat) (s:Array Bool) (a':Act) (w':World),s.size=n→Shut .any l s→unl s=f→RI l n R W a s a' w'→wpAny P .any l.toArray Q (f+(l.length - n)) (s++Array.replicate (l.length - n) false) a' w'
 | 0, s, a', w', hs, _, hu, I => by
   have e:s=Array.replicate n true:=by rw [←hs];exact unl_zero hu
   rw [Nat.zero_add,e]
   rw [e] at I
   exact hend a' w' I
 | f + 1, s, a', w', hs, hsh, hu, I => by
   obtain ⟨k,hk,hun⟩:=unl_pos (s:=s) (by omega)
   rw [show f+1+(l.length - n)=(f+(l.length - n))+1 by omega]
   refine ⟨fun h0=>?_,fun i hi=>?_⟩
   · obtain ⟨i,hi⟩:=ready_some (g:=l.length - n) hs hn hb (k+1) k (by omega) (by omega) hun
     rw [h0] at hi;cases hi
   · have hin:=ready_not_tailT hs hsh (by omega:k<n) hun ht hi
     have hiu:s.getD i true=false:=by have:=(mem_ready.1 hi).1;rwa [app_get hs hin] at this
     refine wpOp_mono (fun a'' w'' I'=>?_) (ri_step B hf hd hop hs I hin hi hiu)
     rw [app_set (by omega)]
     refine ri_anyT hn B hb ht hf hd hop hend f _ a'' w'' (by simpa using hs) (shut_set hsh (ready_head hs hin hb hi) hin) ?_ I'
     have:=unl_set (s:=s) (by omega) hiu
     omega
def headRT (l:List Oper) (n:Nat):Bool :=
 decide (n<l.length) && backB .any l n && tailT .any l n && relB l n && Region.seqB .any l.toArray (l.length - n) n (Array.replicate n true++Array.replicate (l.length - n) false)
theorem any_relT {Q:Exit→Act→World→Prop} (n:Nat) (R:Nat→Value→World→Prop) (hB:headRT l n=true) (m:Nat) (hdm:dstB l m=true) (ham:a.tmps.size=m)
 (hf : ∀ i,i<n→Firm (R i))
 (hop : ∀ i o,i<n→l[i]? = some o → ∀ (ρ:Operand→Value) w,Below W.heap.size W w→(∀ v,ρ (.const v)=v)→(∀ g,ρ (.global g) = .pointer (some ⟨g,0,none⟩))→(∀ f,ρ (.func f) = .func (.func f) #[] #[]) →
  (∀ d,.tmp d∈o.op.operands→Known l n R a d (ρ (.tmp d)) w)→relUpon P w (R i) ((execOp ρ o).run P w))
 (h : ∀ (vs:List Value) w',vs.length=n→Below W.heap.size W w'→(∀ i v,vs[i]? = some v→R i v w')→wpList P l.toArray Q (l.drop n) (puts (((l.take n).map (·.dst)).zip vs) a) w'):wpAny P .any l.toArray Q l.toArray.size (Array.replicate l.toArray.size false) a { W with drawn:=W.drawn+1 }:=by
 simp only [headRT,Bool.and_eq_true,decide_eq_true_eq] at hB
 obtain ⟨⟨⟨⟨hn,hb⟩,ht⟩,hrel⟩,hseq⟩:=hB
 have B:=relB_spec hrel
 have hd : ∀ i d,i<n→dstAt l i=some d→d<a.tmps.size:=fun i d _ hd=>by rw [ham];exact dstB_spec hdm hd
 have:=ri_anyT (Q:=Q) (by omega) B hb ht hf hd hop (fun a' w' I=>?_) n (Array.replicate n false) a { W with drawn:=W.drawn+1 } (by simp) (fun m k h=>by
  simp only [Array.getD_eq_getD_getElem?,Array.getElem?_replicate] at h
  split at h <;> simp at h) (by simp [unl])
  ⟨rfl,rfl,fun x _=>rfl,fun i d _ hs=>(by rw [getD_replicate_false] at hs;cases hs),⟨rfl,rfl,rfl,Nat.le_refl _,fun _ _=>rfl⟩⟩
 · have e:Array.replicate n false++Array.replicate (l.length - n) false=Array.replicate l.toArray.size false:=by
    rw [Array.replicate_append_replicate];congr 1;simp;omega
   rw [e,show n+(l.length - n)=l.toArray.size by simp;omega] at this
   exact this
 · have hv : ∀ i,∃ v,i<n→(∃ d,dstAt l i=some d∧a'.tmps[d]? = some v)∧R i v w':=by
    intro i
    by_cases hi:i<n
    · obtain ⟨o,ho⟩ : ∃ o,l[i]? = some o:=⟨_,List.getElem?_eq_getElem (by omega)⟩
      obtain ⟨d,hdd⟩:=B.dst i o hi ho
      have hdl:dstAt l i=some d:=by simp [dstAt,ho,hdd]
      obtain ⟨v,h1,h2⟩:=I.head i d hi (by simp [hi]) hdl
      exact ⟨v,fun _=>⟨⟨d,hdl,h1⟩,h2⟩⟩
    · exact ⟨undef,fun h=>absurd h hi⟩
   obtain ⟨g,hg⟩:=Classical.axiomOfChoice hv
   have hlen:((List.range n).map g).length=n:=by simp
   have hz : ∀ i,i<n→(((l.take n).map (·.dst)).zip ((List.range n).map g))[i]? = some (dstAt l i,g i):=by
    intro i hi
    rw [(List.getElem?_zip_eq_some (z:=(dstAt l i,g i))).2]
    refine ⟨?_,by simp [hi]⟩
    rw [List.getElem?_map,List.getElem?_take,if_pos hi]
    unfold dstAt
    rw [List.getElem?_eq_getElem (show i<l.length by omega)];rfl
   have hlt : ∀ {i p},(((l.take n).map (·.dst)).zip ((List.range n).map g))[i]? = some p→i<n:=by
    intro i p hp
    have:=(List.getElem?_eq_some_iff.1 hp).1
    simp at this;omega
   have heq:a'=puts (((l.take n).map (·.dst)).zip ((List.range n).map g)) a:=by
    refine act_ext ?_ fun x=>?_
    · rw [(puts_size _ _).2];exact I.defers
    · by_cases hx : ∃ i,i<n∧dstAt l i=some x
      · obtain ⟨i,hi,hdx⟩:=hx
        obtain ⟨⟨d,h1,h2⟩,_⟩:=hg i hi
        rw [hdx] at h1
        obtain rfl:=Option.some.inj h1
        rw [h2]
        symm
        refine puts_in _ a x _ (hd i x hi hdx) ?_ (List.mem_iff_getElem?.2 ⟨i,by rw [hz i hi,hdx]⟩)
        rw [List.pairwise_iff_getElem]
        intro p q hp hq hpq d' e1 e2
        have n1:=hz p (hlt (List.getElem?_eq_getElem hp))
        have n2:=hz q (hlt (List.getElem?_eq_getElem hq))
        rw [List.getElem?_eq_getElem hp] at n1
        rw [List.getElem?_eq_getElem hq] at n2
        rw [Option.some.inj n1] at e1
        rw [Option.some.inj n2] at e2
        exact B.dist p q d' (hlt (List.getElem?_eq_getElem hp)) (hlt (List.getElem?_eq_getElem hq)) (by omega) e1 e2
      · rw [puts_out _ _ x (fun p hp e=>by
         obtain ⟨i,hi⟩:=List.mem_iff_getElem?.1 hp
         have hin:=hlt hi
         rw [hz i hin] at hi
         have:=Option.some.inj hi
         subst this
         exact hx ⟨i,hin,e⟩)]
        exact I.old x fun i hi _ e=>hx ⟨i,hi,e⟩
   have hres:=h ((List.range n).map g) w' hlen I.below (fun i v hi=>by
    have hin:i<n:=by have:=(List.getElem?_eq_some_iff.1 hi).1;simpa using this
    have:v=g i:=by simpa [hin] using hi.symm
    rw [this];exact (hg i hin).2)
   rw [←heq] at hres
   have:=wpAny_of_seq (P:=P) (md:=.any) (ops:=l.toArray) (Q':=Q) (l.drop n) n (Array.replicate n true++Array.replicate (l.length - n) false) a' w' (fun j=>by simp [List.getElem?_drop]) (by simpa using hseq) hres
   simpa using this
theorem wp_region_relT {id:Nat} {Q:Exit→Act→World→Prop} (n:Nat) (R:Nat→Value→World→Prop) (hm:P.follows .mixedOrders=true) (hB:headRT l n=true) (m:Nat) (hdm:dstB l m=true) (ham:a.tmps.size=m)
 (hf : ∀ i,i<n→Firm (R i))
 (hop : ∀ i o,i<n→l[i]? = some o → ∀ (ρ:Operand→Value) w,Below W.heap.size W w→(∀ v,ρ (.const v)=v)→(∀ g,ρ (.global g) = .pointer (some ⟨g,0,none⟩))→(∀ f,ρ (.func f) = .func (.func f) #[] #[]) →
  (∀ d,.tmp d∈o.op.operands→Known l n R a d (ρ (.tmp d)) w)→relUpon P w (R i) ((execOp ρ o).run P w))
 (h : ∀ (vs:List Value) w',vs.length=n→Below W.heap.size W w'→(∀ i v,vs[i]? = some v→R i v w')→wpList P l.toArray Q (l.drop n) (puts (((l.take n).map (·.dst)).zip vs) a) w'):(Code.region id l.toArray true).wp P Q a W :=
 wp_region_any hm (any_relT n R hB m hdm ham hf hop h)
end
end
section
open Go.RowKit Go.Maps
open Go.WideMaps (KeyLaw)
theorem zeroI (w:World):(zeroValue 3).run Tryz.prog w = .ok (.int .i64 0) w:=by kernel_rfl
theorem nodeLaid:laidOutB Tryz.prog=true:=by kernel_rfl
theorem nodeLaw:KeyLaw Tryz.prog 145:=deep_law_laid nodeLaid (m:=3) (by omega) (of_decide_eq_true (by kernel_rfl)) (by kernel_rfl) (by kernel_rfl)
theorem nodeKeyed:Keyed Tryz.prog 145:=Keyed.of_law nodeLaw
theorem ownsMap_tight {P:Program} {k:TypeId} {R:Value→Option (DataW Unit × List MemPlace)} {w:World} {b n:Nat} {D:DataW Unit} (h:w.ownsMap P k R b n D):w.ownsMap P k R b (size D) D:=by
 obtain ⟨es,clock,hb,F,hs,rfl⟩:=h
 exact ⟨es,clock,hb,F,by rw [size_eq,length_sorted];simp,rfl⟩
def MapFn (w:World) (b n:Nat) (f:Value→Option Int):Prop :=
 ∃ D : DataW Unit, w.ownsMap Tryz.prog 145 (plainElem Tryz.prog 3) b n D ∧ size D = n ∧
   ∀ key kl,keyOf Tryz.prog 145 key=some kl→(f key=none→has D kl=false) ∧ ∀ i,f key=some i→has D kl=true∧D.atKey kl (.lit (.int .i64 0)) = .lit (.int .i64 i)
theorem MapFn.kept {w w':World} {b n:Nat} {f:Value→Option Int} {row:Option Nat} (h:MapFn w b n f) (hg:w.grownBy w' row) (hne:some b ≠ row):MapFn w' b n f:=by
 obtain ⟨D,h1,hs,h2⟩:=h
 exact ⟨D,h1.kept hg hne,hs,h2⟩
theorem MapFn.lt {w:World} {b n:Nat} {f:Value→Option Int} (h:MapFn w b n f):b<w.heap.size:=by
 obtain ⟨D,h1,_⟩:=h
 exact h1.lt
theorem MapFn.made (w:World):MapFn (w.alloc (.map #[] 0)) w.heap.size 0 (fun _=>none) :=
 ⟨_,World.ownsMap_made w _ _ _,rfl,fun key kl hk=>⟨fun _=>rfl,fun i h=>by cases h⟩⟩
set_option maxRecDepth 100000 in
theorem MapFn.look {w:World} {b n:Nat} {f:Value→Option Int} (h:MapFn w b n f) {key:Value} {kl:Lit} (hkey:keyOf Tryz.prog 145 key=some kl) :
 (∀ i,f key=some i→(Instr.lookup 111 (.map (some b)) key true).run Tryz.prog w = .ok (.tuple #[i,.bool true]) w) ∧
 (f key=none→(Instr.lookup 111 (.map (some b)) key true).run Tryz.prog w = .ok (.tuple #[(0:Int),.bool false]) w):=by
 obtain ⟨D,h1,hs,h2⟩:=h
 obtain ⟨v,ps,hrun,hv⟩:=h1.look_ok nodeKeyed Tryz.underlying111 (zeroI w) (plainElem_int Tryz.underlying3 (by decide)) hkey
 obtain ⟨c,rfl,hc,hwc⟩:=plainElem_int_inv Tryz.underlying3 hv
 have hat:=congrArg Prod.fst hc
 obtain ⟨k1,k2⟩:=h2 key kl hkey
 refine ⟨fun i hi=>?_,fun hn=>?_⟩
 · obtain ⟨e1,e2⟩:=k2 i hi
   rw [e1] at hrun
   simp only at hat
   rw [e2] at hat
   injection hat with hat;injection hat with _ hat
   subst hat;exact hrun
 · have hh:=k1 hn
   rw [hh] at hrun
   simp only at hat
   rw [atKey_of_not_has hh] at hat
   injection hat with hat;injection hat with _ hat
   subst hat;exact hrun
open Classical in
theorem MapFn.put {w:World} {b n:Nat} {f:Value→Option Int} (h:MapFn w b n f) (hn:n<maxLen) {key:Value} {kl:Lit} (hkey:keyOf Tryz.prog 145 key=some kl) (hf:f key=none) (i:Int) (hi:(Lit.int .i64 i).wf=true) :
 ∃ w',(Instr.mapUpdate 111 (.map (some b)) key (.int .i64 i)).run Tryz.prog w = .ok () w'∧MapFn w' b (n+1) (fun v=>if v=key then some i else f v)∧w.grownBy w' (some b):=by
 obtain ⟨D,h1,hs,h2⟩:=h
 have hm:=h1.isMap
 obtain ⟨w',hrun,h3,h4⟩:=h1.store nodeKeyed Tryz.underlying111 hn hkey (plainElem_int Tryz.underlying3 hi)
 have hsz:size (D.put kl (.lit (.int .i64 i)))=n+1:=by
  rw [size_put (h1.tidy nodeKeyed),(h2 key kl hkey).1 hf,hs];rfl
 refine ⟨w',hrun,⟨_,h3,hsz,fun key' kl' hk'=>?_⟩,h4.grown⟩
 by_cases e:key'=key
 · subst e
   obtain rfl:kl'=kl:=Option.some.inj (hk'.symm.trans hkey)
   simp only [if_true]
   refine ⟨fun h=>by simp at h,fun j hj=>?_⟩
   obtain rfl:=Option.some.inj hj
   exact ⟨has_put_same hm (nodeKeyed.key hkey) _,atKey_put_same hm (nodeKeyed.key hkey) _ _⟩
 · have hne:kl' ≠ kl:=fun e'=>e (nodeKeyed.inj hk' (e' ▸ hkey))
   simp only [if_neg e]
   obtain ⟨k1,k2⟩:=h2 key' kl' hk'
   exact ⟨fun h=>by rw [has_put_other hne];exact k1 h,fun j hj=>by rw [has_put_other hne,atKey_put_other hne];exact k2 j hj⟩
open Classical in
theorem MapFn.drop {w:World} {b n:Nat} {f:Value→Option Int} (h:MapFn w b n f) {key:Value} {kl:Lit} (hkey:keyOf Tryz.prog 145 key=some kl) {i:Int} (hf:f key=some i) (ty:TypeId) :
 ∃ w',(Builtin.delete_ #[111,145] ty #[.map (some b),key]).run Tryz.prog w = .ok (.tuple #[]) w'∧MapFn w' b (n - 1) (fun v=>if v=key then none else f v)∧w.grownBy w' (some b):=by
 obtain ⟨D,h1,hs,h2⟩:=h
 obtain ⟨w',hrun,h3,h4⟩:=h1.drop nodeKeyed Tryz.underlying111 hkey ty
 have hsz:size (D.del kl)=n - 1:=by
  have:=size_del (k:=kl) (h1.tidy nodeKeyed)
  rw [((h2 key kl hkey).2 i hf).1,hs] at this
  simp at this;omega
 refine ⟨w',hrun,⟨_,by have:=ownsMap_tight h3;rwa [hsz] at this,hsz,fun key' kl' hk'=>?_⟩,h4.grown⟩
 by_cases e:key'=key
 · subst e
   obtain rfl:kl'=kl:=Option.some.inj (hk'.symm.trans hkey)
   simp only [if_true]
   exact ⟨fun _=>has_del_same,fun j hj=>by cases hj⟩
 · have hne:kl' ≠ kl:=fun e'=>e (nodeKeyed.inj hk' (e' ▸ hkey))
   simp only [if_neg e]
   obtain ⟨k1,k2⟩:=h2 key' kl' hk'
   exact ⟨fun h=>by rw [has_del_other hne];exact k1 h,fun j hj=>by rw [has_del_other hne,atKey_del_other hne];exact k2 j hj⟩
theorem MapFn.congr {w:World} {b n:Nat} {f f':Value→Option Int} (h:MapFn w b n f) (he : ∀ key kl,keyOf Tryz.prog 145 key=some kl→f key=f' key):MapFn w b n f':=by
 obtain ⟨D,h1,hs,h2⟩:=h
 refine ⟨D,h1,hs,fun key kl hk=>?_⟩
 rw [←he key kl hk];exact h2 key kl hk
end
section
open Go.RowKit Go.Maps
def nodeA (k c:Int) (s:ByteArray) (d x0 x1 x2 x3 x4 x5 x6 x7:Int):Value :=
 .agg #[k,c,.string s,d,x0,x1,x2,x3,x4,x5,x6,x7]
theorem nodeCells : Tryz.prog.cellsOf 145=12:=by kernel_rfl
theorem arrCells : Tryz.prog.cellsOf 108=8:=by kernel_rfl
theorem intCells : Tryz.prog.cellsOf 3=1:=by kernel_rfl
theorem strCells : Tryz.prog.cellsOf 9=1:=by kernel_rfl
theorem nodeKeyType : Tryz.prog.keyType 145=true:=by kernel_rfl
theorem typesMany : ∃ m,Tryz.prog.types.size+1=m+3:=⟨Tryz.prog.types.size - 2,by have:2 ≤ Tryz.prog.types.size:=of_decide_eq_true (by kernel_rfl);omega⟩
theorem key_node (k c:Int) (s:ByteArray) (d x0 x1 x2 x3 x4 x5 x6 x7:Int) (hs:s.size≤maxLen)
 (h : ∀ y∈[k,c,d,x0,x1,x2,x3,x4,x5,x6,x7],(Lit.int .i64 y).wf=true) : ∃ kl,keyOf Tryz.prog 145 (nodeA k c s d x0 x1 x2 x3 x4 x5 x6 x7)=some kl:=by
 simp only [List.mem_cons,List.not_mem_nil,or_false,forall_eq_or_imp,forall_eq] at h
 obtain ⟨h1,h2,h3,g0,g1,g2,g3,g4,g5,g6,g7⟩:=h
 obtain ⟨m,hm⟩:=typesMany
 unfold keyOf nodeA
 rw [Tryz.underlying145,hm]
 simp [nodeKeyType,Value.formed,Tryz.underlying145,nodeCells,Program.keyLits,Value.cells,Tryz.underlying108,Tryz.underlying3,Tryz.underlying9,intCells,strCells,arrCells,hs,h1,h2,h3,g0,g1,g2,g3,g4,g5,g6,g7,List.range_succ,List.mapM_cons,List.mapM_nil]
end
end Go.Proofs.YtfcbajmjaifjlaaGreat
