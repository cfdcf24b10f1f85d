/- RlX, RlE, Row, ApE, Pwi: joined by program, for one claim. -/
import Derived.Test.YtajhkncolbgkbaaDoorM8
import Derived.Deep.Quiet
import Derived.Test.YtajhkncolbgkbaaDoorM4
import Derived.Maps.AppendAt
import Derived.Deep.Onto
import Derived.Deep.AppendSrc
import Derived.Deep.Upon
set_option linter.unusedVariables false
set_option linter.unusedSimpArgs false
namespace Go.Proofs.YtajhkncolbgkbaaDoor
section
open Go.Sort Go.RowKit
def textOp (o:Oper):Bool:=match o.op with
 | .move _ | .assign _ | .extract .. => true
 | _=>false
theorem none_in {x:Event} : ¬x∈(#[]:Array Event):=by simp
section
variable {P:Program} {ops:Array Oper} {Q:Exit→Act→World→Prop} {a:Act} {w:World}
theorem text_step {o:Oper} (ht:textOp o=true) {K:Act→World→Prop} (h:o.wp P a w K Q∨(o.asks P a w∧LetsOut Q)):o.quiet P a (fun w'=>w'=w) (fun a'=>K a' w):=by
 unfold textOp at ht
 unfold Oper.quiet Oper.quietAt Oper.wp Oper.asks at *
 obtain ⟨op,dst,g,af⟩:=o
 simp only at ht
 split at ht
 · rcases h with h | ⟨h,-⟩
   · exact ⟨_,fun w' e=>by subst e;exact ⟨rfl,rfl⟩,h⟩
   · exact absurd h.1 none_in
 · rcases h with h | ⟨h,-⟩
   · exact ⟨_,fun w' e=>by subst e;exact ⟨rfl,rfl⟩,h⟩
   · exact absurd h.1 none_in
 · rename_i t ix
   simp only [execOp] at h ⊢
   generalize a.eval t=v at *
   unfold Instr.extract at h
   split at h
   · rename_i vs
     split at h
     · rename_i x hx
       rcases h with h | ⟨h,-⟩
       · refine ⟨x,fun w' e=>?_,h⟩
         subst e
         rw [show Instr.extract (Value.tuple vs) ix=pure x by unfold Instr.extract;simp only [hx]]
         exact ⟨rfl,rfl⟩
       · exact absurd h.1 none_in
     · rcases h with h | ⟨h,-⟩
       · exact h.elim
       · exact absurd h.1 none_in
   · rcases h with h | ⟨h,-⟩
     · exact h.elim
     · exact absurd h.1 none_in
 · cases ht
theorem text_quiet : ∀ (l:List Oper) (a:Act),l.all textOp=true→wpList P ops Q l a w→wpQuiet P ops (fun w'=>w'=w) (fun a'=>Q .normal a' w) l a
 | [],_,_,h=>h
 | o :: l, a, hl, h => by
   simp only [List.all_cons,Bool.and_eq_true] at hl
   unfold wpList at h
   unfold wpQuiet
   split
   · rename_i hw
     rw [if_pos hw] at h
     exact Oper.quiet_mono (fun a' h'=>text_quiet l a' hl.2 h') (text_step hl.1 h)
   · rename_i hw
     rw [if_neg hw] at h
     exact text_quiet l _ hl.2 h
def seqX (md:Region.Mode) (ops:Array Oper):Nat→List Oper→Nat→Array Bool→Bool
 | 0,l,k,listed=>l.all textOp && Region.noSelect ops && Region.lexFrom md ops l.length k listed
 | _+1,[],_,listed=>(Region.ready md ops listed).isEmpty
 | m+1,_::l,k,listed=>decide (Region.ready md ops listed=[k]) && seqX md ops m l (k+1) (listed.setIfInBounds k true)
theorem wpAny_of_seqX {md:Region.Mode} : ∀ (m:Nat) (l:List Oper) (k:Nat) (listed:Array Bool) (a:Act) (w:World),(∀ j,l[j]? = ops[k+j]?) →
 seqX md ops m l k listed=true→wpList P ops Q l a w→wpAny P md ops Q l.length listed a w
 | 0, l, k, listed, a, w, hl, hB, h => by
   simp only [seqX,Bool.and_eq_true] at hB
   exact wpAny_of_quiet (C:=fun w'=>w'=w) (Q:=fun a'=>Q .normal a' w) (fun a' w' e h'=>by subst e;exact h') _ _ _ _ rfl (wpAnyQ_lex hB.1.2 l k listed a hl hB.2 (text_quiet l a hB.1.1 h))
 | _+1,[],_,_,_,_,_,hB,h=>⟨by simpa [seqX] using hB,h⟩
 | m + 1, o :: l, k, listed, a, w, hl, hB, h => by
   have h0:ops[k]? = some o:=by simpa using (hl 0).symm
   simp only [seqX,Bool.and_eq_true,decide_eq_true_eq] at hB
   refine ⟨fun h1=>(by rw [hB.1] at h1;cases h1),fun i hi=>?_⟩
   rw [hB.1] at hi
   have hik:i=k:=by simpa using hi
   subst hik
   have hw:wpOp P ops Q i (wpList P ops Q l) a w:=by unfold wpOp;simp only [h0];exact h
   exact wpOp_mono (fun a' w' h'=>wpAny_of_seqX m l (i+1) _ a' w' (fun j=>by have:=hl (j+1);simpa [Nat.add_assoc,Nat.add_comm 1 j] using this) hB.2 h') hw
end
def tailX (l:List Oper) (n:Nat):Bool :=
 ((List.range n).all fun k=>Region.waitsFor .any l.toArray n k || (List.range n).any fun m=>decide (k<m) && Region.waitsFor .any l.toArray m k) && (List.range l.length).all fun t=>decide (t≤n) || (List.range t).any fun u=>decide (n≤u) && Region.waitsFor .any l.toArray t u
section
variable {l:List Oper} {n:Nat}
theorem not_firstX {s:Array Bool} (hs:s.size=n) {g:Nat} (hsh:Shut .any l s) (ht:tailX l n=true) (h:n∈Region.ready .any l.toArray (s++Array.replicate g false)) : ∀ (d k:Nat),n - k≤d→k<n→s.getD k false=false→False
 | 0,k,h1,h2,_=>by omega
 | d + 1, k, hd, hk, hun => by
   obtain ⟨h1,o,ho,h2⟩:=mem_ready.1 h
   have ht':=ht
   simp only [tailX,Bool.and_eq_true] at ht'
   have h3:=List.all_eq_true.1 ht'.1 k (List.mem_range.2 hk)
   simp only [Bool.or_eq_true] at h3
   rcases h3 with h3 | h3
   · obtain ⟨o',ho',e,he,hbi,hon⟩:=Region.waitsFor_spec h3
     obtain rfl:o'=o:=Option.some.inj (ho'.symm.trans ho)
     have:=h2 e he hbi
     rw [hon,app_get hs hk,hun] at this
     cases this
   · obtain ⟨m,hm,h4⟩:=List.any_eq_true.1 h3
     simp only [Bool.and_eq_true,decide_eq_true_eq] at h4
     have hmn:=List.mem_range.1 hm
     refine not_firstX hs hsh ht h d m (by omega) hmn ?_
     cases hx:s.getD m false with
     | false=>rfl
     | true=>have:=hsh m k hx h4.2;rw [hun] at this;cases this
theorem ready_not_tailX {s:Array Bool} (hs:s.size=n) (hsh:Shut .any l s) {g i k:Nat} (hk:k<n) (hun:s.getD k false=false) (ht:tailX l n=true) (h:i∈Region.ready .any l.toArray (s++Array.replicate g false)):i<n:=by
 obtain ⟨h1,o,ho,h2⟩:=mem_ready.1 h
 rcases Nat.lt_or_ge i n with hlt | hge
 · exact hlt
 · exfalso
   have hil:i<l.length:=by have:=(Array.getElem?_eq_some_iff.1 ho).1;simpa using this
   by_cases hin:i=n
   · subst hin
     exact not_firstX hs hsh ht h (i - k) k (Nat.le_refl _) hk hun
   · have ht':=ht
     simp only [tailX,Bool.and_eq_true] at ht'
     have h3:=List.all_eq_true.1 ht'.2 i (List.mem_range.2 hil)
     simp only [Bool.or_eq_true,decide_eq_true_eq] at h3
     rcases h3 with h3 | h3
     · omega
     · obtain ⟨u,hu,h4⟩:=List.any_eq_true.1 h3
       simp only [Bool.and_eq_true,decide_eq_true_eq] at h4
       obtain ⟨o',ho',e,he,hbi,hon⟩:=Region.waitsFor_spec h4.2
       obtain rfl:o'=o:=Option.some.inj (ho'.symm.trans ho)
       have:=h2 e he hbi
       rw [hon,app_tail hs (by omega)] at this
       cases this
end
section
variable {P:Program} {l:List Oper} {n:Nat} {R:Nat→Value→World→Prop} {W:World} {a:Act}
def headRX (l:List Oper) (n m:Nat):Bool :=
 decide (n<l.length) && backB .any l n && tailX l n && relB l n && seqX .any l.toArray m (l.drop n) n (Array.replicate n true++Array.replicate (l.length - n) false)
end
end
section
open Go.Sort Go.RowKit
section
variable {P:Program} {l:List Oper} {n:Nat} {R:Nat→Value→World→Prop} {W:World} {a:Act} {Le:World→World→Prop}
theorem riG_anyX (LE:LeW Le) (hn:n≤l.length) (B:RelB l n) (hb:backB .any l n=true) (ht:tailX l n=true) (hf : ∀ i,i<n→FirmG Le (R i)) (hd : ∀ i d,i<n→dstAt l i=some d→d<a.tmps.size)
 (hop : ∀ i o,i<n→l[i]? = some o → ∀ (ρ:Operand→Value) w,Le W w→(∀ v,ρ (.const v)=v)→(∀ g,ρ (.global g) = .pointer (some ⟨g,0,none⟩))→(∀ f,ρ (.func f) = .func (.func f) #[] #[]) →
  (∀ d,.tmp d∈o.op.operands→Known l n R a d (ρ (.tmp d)) w)→relUponG Le P w (R i) ((execOp ρ o).run P w))
 {Q:Exit→Act→World→Prop} (hend : ∀ a' w',RIG Le l n R W a (Array.replicate n true) a' w'→wpAny P .any l.toArray Q (l.length - n) (Array.replicate n true++Array.replicate (l.length - n) false) a' w') :
 ∀ (f:Nat) (s:Array Bool) (a':Act) (w':World),s.size=n→Shut .any l s→unl s=f→RIG Le l n R W a s a' w'→wpAny P .any l.toArray Q (f+(l.length - n)) (s++Array.replicate (l.length - n) false) a' w'
 | 0, s, a', w', hs, _, hu, I => by
   have e:s=Array.replicate n true:=by rw [←hs];exact unl_zero hu
   rw [Nat.zero_add,e]
   rw [e] at I
   exact hend a' w' I
 | f + 1, s, a', w', hs, hsh, hu, I => by
   obtain ⟨k,hk,hun⟩:=unl_pos (s:=s) (by omega)
   rw [show f+1+(l.length - n)=(f+(l.length - n))+1 by omega]
   refine ⟨fun h0=>?_,fun i hi=>?_⟩
   · obtain ⟨i,hi⟩:=ready_some (g:=l.length - n) hs hn hb (k+1) k (by omega) (by omega) hun
     rw [h0] at hi;cases hi
   · have hin:=ready_not_tailX hs hsh (by omega:k<n) hun ht hi
     have hiu:s.getD i true=false:=by have:=(mem_ready.1 hi).1;rwa [app_get hs hin] at this
     refine wpOp_mono (fun a'' w'' I'=>?_) (riG_step LE B hf hd hop hs I hin hi hiu)
     rw [app_set (by omega)]
     refine riG_anyX LE hn B hb ht hf hd hop hend f _ a'' w'' (by simpa using hs) (shut_set hsh (ready_head hs hin hb hi) hin) ?_ I'
     have:=unl_set (s:=s) (by omega) hiu
     omega
theorem any_relE (LE:LeW Le) {Q:Exit→Act→World→Prop} (n mm:Nat) (R:Nat→Value→World→Prop) (hB:headRX l n mm=true) (m:Nat) (hdm:dstB l m=true) (ham:a.tmps.size=m)
 (hf : ∀ i,i<n→FirmG Le (R i))
 (hop : ∀ i o,i<n→l[i]? = some o → ∀ (ρ:Operand→Value) w,Le W w→(∀ v,ρ (.const v)=v)→(∀ g,ρ (.global g) = .pointer (some ⟨g,0,none⟩))→(∀ f,ρ (.func f) = .func (.func f) #[] #[]) →
  (∀ d,.tmp d∈o.op.operands→Known l n R a d (ρ (.tmp d)) w)→relUponG Le P w (R i) ((execOp ρ o).run P w))
 (h : ∀ (vs:List Value) w',vs.length=n→Le W w'→(∀ i v,vs[i]? = some v→R i v w')→wpList P l.toArray Q (l.drop n) (puts (((l.take n).map (·.dst)).zip vs) a) w'):wpAny P .any l.toArray Q l.toArray.size (Array.replicate l.toArray.size false) a { W with drawn:=W.drawn+1 }:=by
 simp only [headRX,Bool.and_eq_true,decide_eq_true_eq] at hB
 obtain ⟨⟨⟨⟨hn,hb⟩,ht⟩,hrel⟩,hseq⟩:=hB
 have B:=relB_spec hrel
 have hd : ∀ i d,i<n→dstAt l i=some d→d<a.tmps.size:=fun i d _ hd=>by rw [ham];exact dstB_spec hdm hd
 have:=riG_anyX (Q:=Q) LE (by omega) B hb ht hf hd hop (fun a' w' I=>?_) n (Array.replicate n false) a { W with drawn:=W.drawn+1 } (by simp) (fun m k h=>by
  simp only [Array.getD_eq_getD_getElem?,Array.getElem?_replicate] at h
  split at h <;> simp at h) (by simp [unl])
  ⟨rfl,rfl,fun x _=>rfl,fun i d _ hs=>(by rw [getD_replicate_false] at hs;cases hs),LE.drew _ _⟩
 · have e:Array.replicate n false++Array.replicate (l.length - n) false=Array.replicate l.toArray.size false:=by
    rw [Array.replicate_append_replicate];congr 1;simp;omega
   rw [e,show n+(l.length - n)=l.toArray.size by simp;omega] at this
   exact this
 · have hv : ∀ i,∃ v,i<n→(∃ d,dstAt l i=some d∧a'.tmps[d]? = some v)∧R i v w':=by
    intro i
    by_cases hi:i<n
    · obtain ⟨o,ho⟩ : ∃ o,l[i]? = some o:=⟨_,List.getElem?_eq_getElem (by omega)⟩
      obtain ⟨d,hdd⟩:=B.dst i o hi ho
      have hdl:dstAt l i=some d:=by simp [dstAt,ho,hdd]
      obtain ⟨v,h1,h2⟩:=I.head i d hi (by simp [hi]) hdl
      exact ⟨v,fun _=>⟨⟨d,hdl,h1⟩,h2⟩⟩
    · exact ⟨undef,fun h=>absurd h hi⟩
   obtain ⟨g,hg⟩:=Classical.axiomOfChoice hv
   have hlen:((List.range n).map g).length=n:=by simp
   have hz : ∀ i,i<n→(((l.take n).map (·.dst)).zip ((List.range n).map g))[i]? = some (dstAt l i,g i):=by
    intro i hi
    rw [(List.getElem?_zip_eq_some (z:=(dstAt l i,g i))).2]
    refine ⟨?_,by simp [hi]⟩
    rw [List.getElem?_map,List.getElem?_take,if_pos hi]
    unfold dstAt
    rw [List.getElem?_eq_getElem (show i<l.length by omega)];rfl
   have hlt : ∀ {i p},(((l.take n).map (·.dst)).zip ((List.range n).map g))[i]? = some p→i<n:=by
    intro i p hp
    have:=(List.getElem?_eq_some_iff.1 hp).1
    simp at this;omega
   have heq:a'=puts (((l.take n).map (·.dst)).zip ((List.range n).map g)) a:=by
    refine act_ext ?_ fun x=>?_
    · rw [(puts_size _ _).2];exact I.defers
    · by_cases hx : ∃ i,i<n∧dstAt l i=some x
      · obtain ⟨i,hi,hdx⟩:=hx
        obtain ⟨⟨d,h1,h2⟩,_⟩:=hg i hi
        rw [hdx] at h1
        obtain rfl:=Option.some.inj h1
        rw [h2]
        symm
        refine puts_in _ a x _ (hd i x hi hdx) ?_ (List.mem_iff_getElem?.2 ⟨i,by rw [hz i hi,hdx]⟩)
        rw [List.pairwise_iff_getElem]
        intro p q hp hq hpq d' e1 e2
        have n1:=hz p (hlt (List.getElem?_eq_getElem hp))
        have n2:=hz q (hlt (List.getElem?_eq_getElem hq))
        rw [List.getElem?_eq_getElem hp] at n1
        rw [List.getElem?_eq_getElem hq] at n2
        rw [Option.some.inj n1] at e1
        rw [Option.some.inj n2] at e2
        exact B.dist p q d' (hlt (List.getElem?_eq_getElem hp)) (hlt (List.getElem?_eq_getElem hq)) (by omega) e1 e2
      · rw [puts_out _ _ x (fun p hp e=>by
         obtain ⟨i,hi⟩:=List.mem_iff_getElem?.1 hp
         have hin:=hlt hi
         rw [hz i hin] at hi
         have:=Option.some.inj hi
         subst this
         exact hx ⟨i,hin,e⟩)]
        exact I.old x fun i hi _ e=>hx ⟨i,hi,e⟩
   have hres:=h ((List.range n).map g) w' hlen I.below (fun i v hi=>by
    have hin:i<n:=by have:=(List.getElem?_eq_some_iff.1 hi).1;simpa using this
    have:v=g i:=by simpa [hin] using hi.symm
    rw [this];exact (hg i hin).2)
   rw [←heq] at hres
   have:=wpAny_of_seqX (P:=P) (md:=.any) (ops:=l.toArray) (Q:=Q) mm (l.drop n) n (Array.replicate n true++Array.replicate (l.length - n) false) a' w' (fun j=>by simp [List.getElem?_drop]) (by simpa using hseq) hres
   simpa using this
theorem wp_region_relE (LE:LeW Le) {id:Nat} {Q:Exit→Act→World→Prop} (n mm:Nat) (R:Nat→Value→World→Prop) (hm:P.follows .mixedOrders=true) (hB:headRX l n mm=true) (m:Nat) (hdm:dstB l m=true) (ham:a.tmps.size=m)
 (hf : ∀ i,i<n→FirmG Le (R i))
 (hop : ∀ i o,i<n→l[i]? = some o → ∀ (ρ:Operand→Value) w,Le W w→(∀ v,ρ (.const v)=v)→(∀ g,ρ (.global g) = .pointer (some ⟨g,0,none⟩))→(∀ f,ρ (.func f) = .func (.func f) #[] #[]) →
  (∀ d,.tmp d∈o.op.operands→Known l n R a d (ρ (.tmp d)) w)→relUponG Le P w (R i) ((execOp ρ o).run P w))
 (h : ∀ (vs:List Value) w',vs.length=n→Le W w'→(∀ i v,vs[i]? = some v→R i v w')→wpList P l.toArray Q (l.drop n) (puts (((l.take n).map (·.dst)).zip vs) a) w'):(Code.region id l.toArray true).wp P Q a W :=
 wp_region_any hm (any_relE LE n mm R hB m hdm ham hf hop h)
end
end
section
open Go.RowKit Go.Sort Go.Maps
theorem ownsRow_below {w w':World} {B k n:Nat} {e:TypeId} {v:Value} {xs:List Value} (h:w.ownsRow B e k v n xs) (hb:Below w.heap.size w w'):w'.ownsRow B e k v n xs :=
 World.ownsRow.kept (row:=none) h ⟨hb.os,hb.tape,hb.output,hb.size,fun i hi _=>hb.block i hi⟩ (by cases v.ownBlock <;> simp)
theorem ownsRow_form {w:World} {B k n:Nat} {e:TypeId} {v:Value} {xs:List Value} (h:w.ownsRow B e k v n xs) : ∃ a c,v = .slice a n c∧n≤c∧(n=0 ∨ ∃ g,a=some ⟨g,0,none⟩∧B≤g∧g<w.heap.size) ∧ ∀ (j:Nat) u,xs[j]? = some u → ∃ g,a=some ⟨g,0,none⟩∧w.cell? ⟨g,j,none⟩=some u:=by
 rcases h.2 with ⟨rfl,rfl⟩ | ⟨g,cap,cur,rfl,hb,hg,hnc,hcm,hcs,ht⟩
 · refine ⟨none,0,rfl,Nat.le_refl _,.inl rfl,fun j u hj=>?_⟩
   have:=h.1
   rw [Nat.zero_mul] at this
   rw [List.eq_nil_of_length_eq_zero this] at hj
   simp at hj
 · refine ⟨_,cap,rfl,hnc,.inr ⟨g,rfl,hb,(Array.getElem?_eq_some_iff.1 hg).1⟩,fun j u hj=>⟨g,rfl,?_⟩⟩
   have hi:j<n * k:=by have:=(List.getElem?_eq_some_iff.1 hj).1;rw [h.1] at this;exact this
   have hcell:w.cell? ⟨g,j,none⟩=cur[j]? := by simp [World.cell?,hg]
   rw [hcell]
   rw [←ht,List.getElem?_take,if_pos hi] at hj
   simpa using hj
end
section
open Go.RowKit Go.Sort Go.Maps
structure LeA (g:Option Nat) (O:Obj) (a b:World):Prop where
 os:b.os=a.os
 tape:b.tape=a.tape
 output:b.output=a.output
 size:a.heap.size≤b.heap.size
 block : ∀ k,k<a.heap.size→g ≠ some k→b.heap[k]? = a.heap[k]?
 row : ∀ k,k<a.heap.size→g=some k→b.heap[k]? = a.heap[k]? ∨ b.heap[k]? = some O
theorem LeA.of {g:Option Nat} {O:Obj} {a b:World} (h:Below a.heap.size a b):LeA g O a b:=⟨h.os,h.tape,h.output,h.size,fun k hk _=>h.block k hk,fun k hk _=>.inl (h.block k hk)⟩
theorem LeA.refl (g:Option Nat) (O:Obj) (a:World):LeA g O a a:=.of (Below.refl _ _)
theorem LeA.leW (g:Option Nat) (O:Obj):LeW (LeA g O):=by
 refine ⟨fun {a b c} h h'=>⟨h'.os.trans h.os,h'.tape.trans h.tape,h'.output.trans h.output,Nat.le_trans h.size h'.size,fun k hk hg=>(h'.block k (Nat.lt_of_lt_of_le hk h.size) hg).trans (h.block k hk hg),fun k hk hg=>?_⟩,fun w n=>⟨rfl,rfl,rfl,Nat.le_refl _,fun _ _ _=>rfl,fun _ _ _=>.inl rfl⟩⟩
 rcases h'.row k (Nat.lt_of_lt_of_le hk h.size) hg with h1 | h1
 · rw [h1];exact h.row k hk hg
 · exact .inr h1
theorem LeA.grown {g:Option Nat} {O:Obj} {a b:World} (h:LeA g O a b):a.grownBy b g:=⟨h.os,h.tape,h.output,h.size,fun k hk hg=>h.block k hk fun e=>hg e.symm⟩
structure AppR (W:World) (B:Nat) (e:TypeId) (g:Option Nat) (O:Obj) (xs:List Value) (v:Value) (w:World):Prop where
 own:Ownv w B e v xs
 at_ : ∀ h,v.ownBlock=some h→W.heap.size≤h∨(g=some h∧w.heap[h]? = some O)
theorem AppR.le {W w w':World} {B:Nat} {e:TypeId} {g:Option Nat} {O:Obj} {xs:List Value} {v:Value} (h:AppR W B e g O xs v w) (hg : ∀ k,g=some k→k<W.heap.size) (hl:LeA g O w w'):AppR W B e g O xs v w':=by
 have key : ∀ k,v.ownBlock=some k→w'.heap[k]? = w.heap[k]? := fun k hk=>by
  have hlt:=(h.own.lt k hk).2
  rcases h.at_ k hk with h1 | ⟨h1,h2⟩
  · exact hl.block k hlt fun e=>by have:=hg k e;omega
  · rcases hl.row k hlt h1 with h3 | h3
    · exact h3
    · rw [h3,h2]
 refine ⟨⟨h.own.1,?_⟩,fun k hk=>?_⟩
 · rcases h.own.2 with h1 | ⟨g',cap,cur,rfl,hb,hg',h3⟩
   · exact .inl h1
   · exact .inr ⟨g',cap,cur,rfl,hb,(key g' rfl).trans hg',h3⟩
 · rcases h.at_ k hk with h1 | ⟨h1,h2⟩
   · exact .inl h1
   · exact .inr ⟨h1,(key k hk).trans h2⟩
theorem take_mid {α:Type} (l ys:List α) (n:Nat) (h:n+ys.length≤l.length):(l.take n++ys++l.drop (n+ys.length)).take n=l.take n∧(l.take n++ys++l.drop (n+ys.length)).drop (n+ys.length)=l.drop (n+ys.length)∧(l.take n++ys++l.drop (n+ys.length)).length=l.length:=by
 have h1:(l.take n).length=n:=by rw [List.length_take];omega
 refine ⟨?_,?_,by simp;omega⟩
 · rw [List.append_assoc,List.take_append_of_le_length (by omega),List.take_take,Nat.min_self]
 · rw [List.drop_append,List.drop_eq_nil_of_le (by rw [List.length_append];omega),List.nil_append]
   rw [show n+ys.length - (l.take n++ys).length=0 by rw [List.length_append];omega];rfl
theorem append_leA {P:Program} (W:World) (B:Nat) (t e:TypeId) (z:Value) (bytes:Nat) (hbz:bytes≤24) (ht:P.underlying t=some (.slice e)) (hi:(P.info? e).map (fun i=>(i.zero,i.size,i.bytes))=some (some z,1,bytes)) (hzs:z.cells.size=1)
 (v:Value) (xs:List Value) (hown:Ownv W B e v xs) (ys:List Value) (h1 : ∀ y∈ys,y.oneCell'=true) (h63:xs.length+ys.length≤1000000000) (hB:B≤W.heap.size) :
 ∃ O, ∀ w, LeA v.ownBlock O W w → ∀ (ty : TypeId) (a : Addr) (c : Nat), (∀ j u, ys[j]? = some u → w.cell? (a.add j) = some u) →
   ∃ v' w',(Builtin.append_ #[t,t] ty #[v,.slice (some a) ys.length c]).run P w = .ok v' w'∧LeA v.ownBlock O w w'∧AppR W B e v.ownBlock O (xs++ys) v' w':=by
 obtain ⟨i,hi0,hz0,hz1,hz2⟩:=info_parts hi
 have hm1:xs.length+ys.length≤maxLen:=by simp only [maxLen];omega
 have hm2:(xs.length+ys.length) * bytes≤140737488355328:=by have:(xs.length+ys.length) * bytes≤(xs.length+ys.length) * 24:=Nat.mul_le_mul_left _ hbz;omega
 rcases hown.2 with ⟨rfl,hn⟩ | ⟨g,cap,cur,rfl,hbg,hg,hnc,hcm,hcs,htk⟩
 · -- nil
   refine ⟨.cells #[] 0 (0,0),fun w hL ty a c hc=>?_⟩
   have hx:xs=[]:=List.eq_nil_of_length_eq_zero hn
   subst hx
   obtain ⟨v',w',hr,h2,h3,_,h4⟩:=run_append_own_at (P:=P) w B t ty e i z 1 bytes ht hi0 hz0 hz1 hz2 hzs (by omega) (.slice none 0 0) 0 [] (World.ownsRow_nil w B e 1) a ys.length c ys (by omega) hc h1 (by simpa using hm1) (by simpa using hm2) (Nat.le_trans hB hL.size)
   refine ⟨v',w',hr,⟨h3.os,h3.tape,h3.output,h3.size,fun k hk _=>h3.block k hk (by simp [Value.ownBlock]),fun k _ h=>by cases h⟩,⟨by unfold Ownv;simpa using h2,fun k hk=>.inl ?_⟩⟩
   rcases h4 with h4 | h4
   · rw [h4] at hk;cases hk
   · rw [h4] at hk;injection hk with hk;have:=hL.size;omega
 · rw [Nat.mul_one] at hcs htk
   by_cases hroom:xs.length+ys.length≤cap
   · -- there is room
     refine ⟨.cells (cur.toList.take xs.length++ys++cur.toList.drop (xs.length+ys.length)).toArray e (0,0),fun w hL ty a c hc=>?_⟩
     have hcl:cur.toList.length=cap:=by rw [Array.length_toList];exact hcs
     obtain ⟨m1,m2,m3⟩:=take_mid cur.toList ys xs.length (by omega)
     have hwg : ∃ cw,w.heap[g]? = some (.cells cw e (0,0))∧cw.size=cap∧cw.toList.take xs.length=xs∧cw.toList.take xs.length++ys++cw.toList.drop (xs.length+ys.length)=cur.toList.take xs.length++ys++cur.toList.drop (xs.length+ys.length):=by
      rcases hL.row g (Array.getElem?_eq_some_iff.1 hg).1 rfl with h | h
      · exact ⟨cur,h.trans hg,hcs,htk,rfl⟩
      · refine ⟨_,h,by rw [←Array.length_toList];exact m3.trans hcl,m1.trans htk,?_⟩
        show List.take _ (_++ys++_)++ys++List.drop _ (_++ys++_)=_
        rw [m1,m2]
     obtain ⟨cw,k1,k2,k3,k4⟩:=hwg
     have hr:=run_append_room (P:=P) w t ty e i ht hi0 g xs.length cap cw k1 a ys.length c ys (by rw [hz1,Nat.mul_one]) hc h1 hroom (by rw [hz1,Nat.mul_one,k2];exact hroom)
     rw [hz1,Nat.mul_one,k4] at hr
     have hset:=setRow_heap w g cw (cur.toList.take xs.length++ys++cur.toList.drop (xs.length+ys.length)).toArray e (0,0) k1
     refine ⟨_,_,hr,⟨rfl,rfl,rfl,by simp [World.setRow],fun k hk hne=>setRow_other w g k _ (fun e=>hne (by rw [e];rfl)),fun k hk hk'=>?_⟩,⟨⟨by simp,.inr ⟨g,cap,_,by rw [List.length_append],hbg,hset,?_,hcm,?_,?_⟩⟩,fun k hk=>.inr ⟨by injection hk with hk;rw [←hk];rfl,?_⟩⟩⟩
     · injection hk' with hk'
       change g=k at hk'
       subst hk'
       exact .inr hset
     · rw [List.length_append];exact hroom
     · rw [Nat.mul_one,←Array.length_toList];exact m3.trans hcl
     · rw [Nat.mul_one,List.length_append]
       show List.take _ (_++ys++_)=_
       rw [htk,List.take_append_of_le_length (by simp),List.take_of_length_le (by simp)]
     · injection hk with hk
       change g=k at hk
       subst hk
       exact hset
   · -- it grows
     refine ⟨.cells cur e (0,0),fun w hL ty a c hc=>?_⟩
     have hwg:w.heap[g]? = some (.cells cur e (0,0)):=by
      rcases hL.row g (Array.getElem?_eq_some_iff.1 hg).1 rfl with h | h
      · exact h.trans hg
      · exact h
     have hw:w.ownsRow B e 1 (.slice (some ⟨g,0,none⟩) xs.length cap) xs.length xs:=⟨by omega,.inr ⟨g,cap,cur,rfl,hbg,hwg,hnc,hcm,by rw [Nat.mul_one];exact hcs,by rw [Nat.mul_one];exact htk⟩⟩
     obtain ⟨v',w',hr,h2,h3,_,h4⟩:=run_append_own_at (P:=P) w B t ty e i z 1 bytes ht hi0 hz0 hz1 hz2 hzs (by omega) _ xs.length xs hw a ys.length c ys (by omega) hc h1 hm1 hm2 (Nat.le_trans hB hL.size)
     have hr2:=run_append_grow (P:=P) w t ty e i z ht hi0 hz0 ⟨g,0,none⟩ xs.length cap xs (by rw [hz1,Nat.mul_one]) (hw.cells (g:=g) rfl) a ys.length c ys (by rw [hz1,Nat.mul_one]) hc (by omega) (by omega) (growslice_fits (by omega) (by rw [hz2];exact hm2))
     rw [hr] at hr2
     injection hr2 with e1 e2
     have hgl:g<w.heap.size:=(Array.getElem?_eq_some_iff.1 hwg).1
     have hold : ∀ k,k<w.heap.size→w'.heap[k]? = w.heap[k]? := fun k hk=>by rw [e2];exact heap_alloc_old w.drew _ hk
     refine ⟨v',w',hr,⟨h3.os,h3.tape,h3.output,h3.size,fun k hk _=>hold k hk,fun k hk _=>.inl (hold k hk)⟩,⟨by unfold Ownv;simpa using h2,fun k hk=>.inl ?_⟩⟩
     rw [e1] at hk
     injection hk with hk
     change w.heap.size=k at hk
     have:=hL.size;omega
end
section
open Go.RowKit Go.Sort Go.Maps
def Apt (u v:Value):Prop := ∀ g,u.ownBlock=some g→v.ownBlock ≠ some g
theorem Apt.symm {u v:Value} (h:Apt u v):Apt v u:=fun g h1 h2=>h g h2 h1
theorem Apt.row {u v:Value} (h:Apt u v):u.ownBlock=none∨u.ownBlock ≠ v.ownBlock:=by
 cases e:u.ownBlock with
 | none=>exact .inl rfl
 | some g=>exact .inr fun h'=>h g e h'.symm
theorem Apt.put {u v v':Value} {n:Nat} (h:Apt u v) (h':v'.ownBlock=v.ownBlock∨v'.ownBlock=some n) (hu : ∀ g,u.ownBlock=some g→g<n):Apt u v':=fun g h1 h2=>by
 rcases h' with e | e
 · rw [e] at h2;exact h g h1 h2
 · rw [e] at h2;injection h2 with h2;have:=hu g h1;omega
def Fr (W W':World) (x:Nat):Prop:=W.heap.size≤x∧x<W'.heap.size
structure WrI (w0:World) (dp:Nat) (v7 v8 v9:Value) (o7 o8:List DOp) (ps:List Nat) (W:World):Prop where
 bel:Below w0.heap.size w0 W
 ex : ∃ (A:Nat→Prop) (lv dv:List Value),(∀ x,A x→w0.heap.size≤x∧x<W.heap.size∧v7.ownBlock ≠ some x∧v8.ownBlock ≠ some x∧v9.ownBlock ≠ some x) ∧
  Ownv W w0.heap.size 89 v7 lv∧StepsV A dp W lv o7∧Ownv W w0.heap.size 89 v8 dv∧StepsV A dp W dv o8∧Own W w0.heap.size 3 .i64 v9 (ints64 ps)
 a78:Apt v7 v8
 a79:Apt v7 v9
 a89:Apt v8 v9
theorem WrI.start (w0:World) (dp:Nat):WrI w0 dp (.slice none 0 0) (.slice none 0 0) (.slice none 0 0) [] [] [] w0 :=
 ⟨Below.refl _ _,⟨fun _=>False,[],[],fun _ h=>h.elim,Ownv.nil _ _ _,StepsV.nil _ _ _,Ownv.nil _ _ _,StepsV.nil _ _ _,Own.nil _ _ _ _⟩,(fun g h=>by cases h),(fun g h=>by cases h),(fun g h=>by cases h)⟩
section
variable {w0 W W3:World} {dp:Nat} {v7 v8 v9:Value} {o7 o8:List DOp} {ps:List Nat}
theorem WrI.later (h:WrI w0 dp v7 v8 v9 o7 o8 ps W) (hb:Below W.heap.size W W3):WrI w0 dp v7 v8 v9 o7 o8 ps W3:=by
 obtain ⟨A,lv,dv,hA,h1,h2,h3,h4,h5⟩:=h.ex
 exact ⟨h.bel.trans (hb.mono h.bel.size),⟨A,lv,dv,fun x hx=>by obtain ⟨a,b,c⟩:=hA x hx;exact ⟨a,Nat.lt_of_lt_of_le b hb.size,c⟩,h1.below hb,h2.later hb,h3.below hb,h4.later hb,h5.below hb⟩,h.a78,h.a79,h.a89⟩
theorem WrI.lt (h:WrI w0 dp v7 v8 v9 o7 o8 ps W):(∀ g,v7.ownBlock=some g→g<W.heap.size)∧(∀ g,v8.ownBlock=some g→g<W.heap.size)∧(∀ g,v9.ownBlock=some g→g<W.heap.size):=by
 obtain ⟨A,lv,dv,hA,h1,h2,h3,h4,h5⟩:=h.ex
 exact ⟨fun g hg=>(h1.lt g hg).2,fun g hg=>(h3.lt g hg).2,fun g hg=>(h5.lt g hg).2⟩
theorem WrI.log (h:WrI w0 dp v7 v8 v9 o7 o8 ps W) (hb:Below W.heap.size W W3) {us:List Value} {os:List DOp} (hs:StepsV (Fr W W3) dp W3 us os) :
 ∃ lv, Ownv W3 w0.heap.size 89 v7 lv ∧ lv.length = o7.length ∧ w0.heap.size ≤ W3.heap.size ∧
   ∀ v' W4,Ownv W4 w0.heap.size 89 v' (lv++us)→W3.grownBy W4 v7.ownBlock→(v'.ownBlock=v7.ownBlock∨v'.ownBlock=some W3.heap.size)→WrI w0 dp v' v8 v9 (o7++os) o8 ps W4:=by
 obtain ⟨A,lv,dv,hA,h1,h2,h3,h4,h5⟩:=h.ex
 refine ⟨lv,h1.below hb,h2.len,Nat.le_trans h.bel.size hb.size,fun v' W4 g1 g2 g3=>?_⟩
 have l7 : ∀ g,v7.ownBlock=some g→g<W.heap.size:=fun g hg=>(h1.lt g hg).2
 have l8 : ∀ g,v8.ownBlock=some g→g<W.heap.size:=fun g hg=>(h3.lt g hg).2
 have l9 : ∀ g,v9.ownBlock=some g→g<W.heap.size:=fun g hg=>(h5.lt g hg).2
 have hle:=hb.size
 have hA' : ∀ x,A x∨Fr W W3 x→x<W3.heap.size∧v7.ownBlock ≠ some x:=fun x hx=>by
  rcases hx with hx | hx
  · exact ⟨by have:=(hA x hx).2.1;omega,(hA x hx).2.2.1⟩
  · exact ⟨hx.2,fun e=>by have:=l7 x e;have:=hx.1;omega⟩
 have hk : ∀ x,A x∨Fr W W3 x→x<W3.heap.size→W4.heap[x]? = W3.heap[x]? := fun x hx hl=>g2.block x hl fun e=>(hA' x hx).2 e.symm
 refine ⟨(h.bel.trans (hb.mono h.bel.size)).grown g2 (Nat.le_trans h.bel.size hle) (fun g hg=>(h1.lt g hg).1),⟨fun x=>A x∨Fr W W3 x,lv++us,dv,fun x hx=>?_,g1,?_,?_,?_,?_⟩,?_,?_,h.a89⟩
 · have h8:=g2.size
   have h7:=hA' x hx
   have hn:v'.ownBlock ≠ some x:=by
    rcases g3 with e | e
    · rw [e];exact h7.2
    · rw [e];intro e;injection e with e;omega
   rcases hx with hx | hx
   · obtain ⟨a,b,c,d,e⟩:=hA x hx
     exact ⟨a,by omega,hn,d,e⟩
   · have:=h.bel.size
     exact ⟨by have:=hx.1;omega,by omega,hn,fun e=>by have:=l8 x e;have:=hx.1;omega,fun e=>by have:=l9 x e;have:=hx.1;omega⟩
 · exact ((h2.later hb).mono fun x h=>Or.inl h).app (hs.mono fun x h=>Or.inr h) |>.keep (fun _ h=>h) hk
 · exact (h3.below hb).grown g2 h.a78.symm.row
 · exact ((h4.later hb).mono fun x h=>Or.inl h).keep (fun _ h=>h) hk
 · exact (h5.below hb).grown g2 h.a79.symm.row
 · exact (h.a78.symm.put g3 fun g hg=>by have:=l8 g hg;omega).symm
 · exact (h.a79.symm.put g3 fun g hg=>by have:=l9 g hg;omega).symm
theorem WrI.data (h:WrI w0 dp v7 v8 v9 o7 o8 ps W) (hb:Below W.heap.size W W3) {us:List Value} {os:List DOp} (hs:StepsV (Fr W W3) dp W3 us os) :
 ∃ dv, Ownv W3 w0.heap.size 89 v8 dv ∧ dv.length = o8.length ∧ w0.heap.size ≤ W3.heap.size ∧
   ∀ v' W4,Ownv W4 w0.heap.size 89 v' (dv++us)→W3.grownBy W4 v8.ownBlock→(v'.ownBlock=v8.ownBlock∨v'.ownBlock=some W3.heap.size)→WrI w0 dp v7 v' v9 o7 (o8++os) ps W4:=by
 have h':WrI w0 dp v8 v7 v9 o8 o7 ps W:=by
  obtain ⟨A,lv,dv,hA,h1,h2,h3,h4,h5⟩:=h.ex
  exact ⟨h.bel,⟨A,dv,lv,fun x hx=>by obtain ⟨a,b,c,d,e⟩:=hA x hx;exact ⟨a,b,d,c,e⟩,h3,h4,h1,h2,h5⟩,h.a78.symm,h.a89,h.a79⟩
 obtain ⟨dv,h1,h2,h3,h4⟩:=h'.log hb hs
 refine ⟨dv,h1,h2,h3,fun v' W4 g1 g2 g3=>?_⟩
 have h5:=h4 v' W4 g1 g2 g3
 obtain ⟨A,lv,dv,hA,k1,k2,k3,k4,k5⟩:=h5.ex
 exact ⟨h5.bel,⟨A,dv,lv,fun x hx=>by obtain ⟨a,b,c,d,e⟩:=hA x hx;exact ⟨a,b,d,c,e⟩,k3,k4,k1,k2,k5⟩,h5.a78.symm,h5.a89,h5.a79⟩
theorem WrI.page (h:WrI w0 dp v7 v8 v9 o7 o8 ps W) (hb:Below W.heap.size W W3) (x:Nat) :
 Own W3 w0.heap.size 3 .i64 v9 (ints64 ps)∧w0.heap.size≤W3.heap.size ∧
  ∀ v' W4,Own W4 w0.heap.size 3 .i64 v' (ints64 ps++[(x:Int)])→W3.grownBy W4 v9.ownBlock→(v'.ownBlock=v9.ownBlock∨v'.ownBlock=some W3.heap.size)→WrI w0 dp v7 v8 v' o7 o8 (ps++[x]) W4:=by
 obtain ⟨A,lv,dv,hA,h1,h2,h3,h4,h5⟩:=h.ex
 refine ⟨h5.below hb,Nat.le_trans h.bel.size hb.size,fun v' W4 g1 g2 g3=>?_⟩
 have l7 : ∀ g,v7.ownBlock=some g→g<W.heap.size:=fun g hg=>(h1.lt g hg).2
 have l8 : ∀ g,v8.ownBlock=some g→g<W.heap.size:=fun g hg=>(h3.lt g hg).2
 have hle:=hb.size
 have hk : ∀ x,A x→x<W3.heap.size→W4.heap[x]? = W3.heap[x]? := fun x hx hl=>g2.block x hl fun e=>(hA x hx).2.2.2.2 e.symm
 refine ⟨(h.bel.trans (hb.mono h.bel.size)).grown g2 (Nat.le_trans h.bel.size hle) (fun g hg=>(h5.lt g hg).1),⟨A,lv,dv,fun x hx=>?_,?_,?_,?_,?_,?_⟩,h.a78,?_,?_⟩
 · have h8:=g2.size
   obtain ⟨a,b,c,d,e⟩:=hA x hx
   refine ⟨a,by omega,c,d,?_⟩
   rcases g3 with e' | e'
   · rw [e'];exact e
   · rw [e'];intro e;injection e with e;omega
 · exact (h1.below hb).grown g2 h.a79.row
 · exact (h2.later hb).keep (fun _ h=>h) hk
 · exact (h3.below hb).grown g2 h.a89.row
 · exact (h4.later hb).keep (fun _ h=>h) hk
 · rw [ints64_snoc] at g1;exact g1
 · exact h.a79.put g3 fun g hg=>by have:=l7 g hg;omega
 · exact h.a89.put g3 fun g hg=>by have:=l8 g hg;omega
end
def PutR (W0:World) (dp i:Nat) (s:List Int) (v:Value) (w:World):Prop:=W0.heap.size≤w.heap.size∧StepV (Fr W0 w) dp w v (.w i s)
theorem PutR.later {W0 w w':World} {dp i:Nat} {s:List Int} {v:Value} (h:PutR W0 dp i s v w) (hb:Below w.heap.size w w'):PutR W0 dp i s v w' :=
 ⟨Nat.le_trans h.1 hb.size,h.2.keep (fun x hx=>⟨hx.1,Nat.lt_of_lt_of_le hx.2 hb.size⟩) fun k _ hk=>hb.block k hk⟩
def OneR (W0:World) (dp i:Nat) (s:List Int) (v:Value) (w:World):Prop := ∃ h u,v = .slice (some ⟨h,0,none⟩) 1 1∧w.cell? ⟨h,0,none⟩=some u∧u.oneCell'=true∧PutR W0 dp i s u w
theorem OneR.later {W0 w w':World} {dp i:Nat} {s:List Int} {v:Value} (h:OneR W0 dp i s v w) (hb:Below w.heap.size w w'):OneR W0 dp i s v w':=by
 obtain ⟨k,u,h1,h2,h3,h4⟩:=h
 exact ⟨k,u,h1,cell_later hb h2,h3,h4.later hb⟩
theorem put_R (W0:World) (dp i:Nat) (s:List Int) (hs:s.length=128∧Byts s) (w:World) (hw:W0.heap.size≤w.heap.size) :
 Calls Tryd.prog 42 #[.pointer (some ⟨dp,0,none⟩),.int .i64 (i:Int),.string (strOfNums s)] w fun e w' => ∃ v,e = .returned v∧Below w.heap.size w w'∧PutR W0 dp i s v w' :=
 (put_any _ _ _ dp _ rfl rfl w).mono fun e w' h=>by
  obtain ⟨he,hb,h1,h2,h3⟩:=h
  exact ⟨_,he,hb,Nat.le_trans hw hb.size,hs,_,_,_,⟨⟨hw,Bk.lt h1⟩,⟨by omega,Bk.lt h2⟩,⟨by omega,Bk.lt h3⟩⟩,rfl,h1,h2,h3⟩
theorem wpList_append_vals {P:Program} {w:World} {ops:Array Oper} {rest:List Oper} {o:Oper} {a:Act} {Q:Exit→Act→World→Prop} (hgd:o.guard=none) (s x:Operand) (t:TypeId)
 (ho:o.op = .call { callee:=.builtin .append,args:=#[s,x],argTypes:=#[t,t] })
 (e:TypeId) (z:Value) (bytes:Nat) (hbz:bytes≤24) (ht:P.underlying t=some (.slice e))
 (hi:(P.info? e).map (fun i=>(i.zero,i.size,i.bytes))=some (some z,1,bytes)) (hzs:z.cells.size=1)
 (B:Nat) (v:Value) (vs:List Value) (hs:a.eval s=v) (hown:Ownv w B e v vs) (us:List Value) (hu1 : ∀ u∈us,u.oneCell'=true)
 (ad:Addr) (c:Nat) (hx:a.eval x = .slice (some ad) us.length c) (hcell : ∀ j u,us[j]? = some u→w.cell? (ad.add j)=some u) (hlen:vs.length+us.length≤1000000000) (hbase:B≤w.heap.size)
 (h : ∀ v' w',Ownv w' B e v' (vs++us)→w.grownBy w' v.ownBlock→(v'.ownBlock=v.ownBlock∨v'.ownBlock=some w.heap.size)→wpList P ops Q rest (a.put o.dst v') w') :
 wpList P ops Q (o::rest) a w:=by
 obtain ⟨i0,hi0,hz0,hz1,hz2⟩:=info_parts hi
 refine wpList_plain hgd fun K hK=>?_
 obtain ⟨v',w',hr,h2,h3,_,h4⟩:=run_append_own_at (P:=P) w B t o.type e i0 z 1 bytes ht hi0 hz0 hz1 hz2 hzs (by omega) v vs.length _ hown ad us.length c us (by omega) hcell hu1
  (by simp only [maxLen];omega) (by have:(vs.length+us.length) * bytes≤(vs.length+us.length) * 24:=Nat.mul_le_mul_left _ hbz;omega) hbase
 unfold Oper.wp execOp
 simp only [ho,resolve,invoke,builtin,Sem.run_bind,Sem.run_pure,Result.andThen_ok,List.map_toArray,List.map_cons,List.map_nil,hs,hx,hr]
 exact hK _ _ (h v' w' (by unfold Ownv;simpa using h2) h3 h4)
def TwoR (W0:World) (dp i:Nat) (s:List Int) (v:Value) (w:World):Prop := ∃ h u,v = .slice (some ⟨h,0,none⟩) 2 2∧w.cell? ⟨h,0,none⟩=some u∧w.cell? ⟨h,1,none⟩=some (flushV dp)∧u.oneCell'=true∧PutR W0 dp i s u w
theorem TwoR.later {W0 w w':World} {dp i:Nat} {s:List Int} {v:Value} (h:TwoR W0 dp i s v w) (hb:Below w.heap.size w w'):TwoR W0 dp i s v w':=by
 obtain ⟨k,u,h1,h2,h3,h4,h5⟩:=h
 exact ⟨k,u,h1,cell_later hb h2,cell_later hb h3,h4,h5.later hb⟩
def FlR (W0:World) (dp:Nat) (v:Value) (w:World):Prop := ∃ h,v = .slice (some ⟨h,0,none⟩) 1 1∧W0.heap.size≤h∧w.cell? ⟨h,0,none⟩=some (flushV dp)
theorem FlR.le {W0 w w':World} {dp:Nat} {v:Value} {g:Option Nat} {O:Obj} (hg : ∀ k,g=some k→k<W0.heap.size) (h:FlR W0 dp v w) (hl:LeA g O w w'):FlR W0 dp v w':=by
 obtain ⟨k,h1,h2,h3⟩:=h
 refine ⟨k,h1,h2,?_⟩
 rw [World.cell?_of_block (hl.block _ (World.block_lt_of_cell? w _ h3) fun e=>by have:=hg _ e;simp only at this;omega)]
 exact h3
theorem WrI.gather {w0 W:World} {dp:Nat} {v7 v8 v9:Value} {o7 o8:List DOp} {ps:List Nat} (h:WrI w0 dp v7 v8 v9 o7 o8 ps W) (h8:0<o8.length) (hlen:o7.length+o8.length≤1000) :
 ∃ lv dv g8 c8 O, v8 = .slice (some ⟨g8, 0, none⟩) dv.length c8 ∧ lv.length = o7.length ∧ dv.length = o8.length ∧
   (∀ w,LeA v7.ownBlock O W w → ∀ ty,∃ v' w',(Builtin.append_ #[87,87] ty #[v7,.slice (some ⟨g8,0,none⟩) dv.length c8]).run Tryd.prog w = .ok v' w'∧LeA v7.ownBlock O w w'∧AppR W w0.heap.size 89 v7.ownBlock O (lv++dv) v' w') ∧
   (∀ k,k<w0.heap.size→v7.ownBlock ≠ some k)∧(∀ k,v7.ownBlock=some k→k<W.heap.size) ∧
   (∀ w7,LeA v7.ownBlock O W w7 → ∀ v2,AppR W w0.heap.size 89 v7.ownBlock O (lv++dv) v2 w7→w0.heap.size≤w7.heap.size ∧
    ∀ v' w8, Ownv w8 w0.heap.size 89 v' (lv ++ dv ++ [flushV dp]) → w7.grownBy w8 v2.ownBlock →
      Below w0.heap.size w0 w8 ∧ ∃ (A:Nat→Prop) (gr cr:Nat),v' = .slice (some ⟨gr,0,none⟩) (o7++o8++[DOp.f]).length cr∧w0.heap.size≤gr∧(∀ k,A k→w0.heap.size≤k)∧StepsV A dp w8 (lv++dv++[flushV dp]) (o7++o8++[DOp.f]) ∧
       ∀ (k:Nat) v,(lv++dv++[flushV dp])[k]? = some v→w8.cell? ⟨gr,0+k,none⟩=some v):=by
 obtain ⟨A,lv,dv,hA,h1,h2,h3,h4,h5⟩:=h.ex
 obtain ⟨g8,c8,rfl,hs8,hg8,hl8⟩:=h3.form1 (by rw [h4.len];exact h8)
 have hone : ∀ y∈dv,y.oneCell'=true:=fun y hy=>by
  obtain ⟨k,hk⟩:=List.mem_iff_getElem?.1 hy
  have hko:k<o8.length:=by have:=(List.getElem?_eq_some_iff.1 hk).1;rw [h4.len] at this;exact this
  have hst:=h4.at_ k y _ hk (List.getElem?_eq_getElem hko)
  generalize o8[k]=o at hst
  cases o with
  | f=>obtain rfl:=hst;rfl
  | w i s=>obtain ⟨_,a,b,c,_,rfl,_⟩:=hst;rfl
 have hl7:=h2.len
 have hl8':=h4.len
 obtain ⟨O,hO⟩:=append_leA (P:=Tryd.prog) W w0.heap.size 87 89 .nilFunc 8 (by omega) Tryd.underlying87 (by kernel_rfl) rfl v7 lv h1 dv hone (by omega) h.bel.size
 have l7 : ∀ g,v7.ownBlock=some g→g<W.heap.size:=fun g hg=>(h1.lt g hg).2
 have hne8:v7.ownBlock ≠ some g8:=fun e=>h.a78 g8 e rfl
 refine ⟨lv,dv,g8,c8,O,rfl,hl7,hl8',fun w hw ty=>hO w hw ty ⟨g8,0,none⟩ c8 fun j u hu=>?_,fun k hk e=>by have:=(h1.lt k e).1;omega,l7,fun w7 hw7 v2 hv2=>⟨Nat.le_trans h.bel.size hw7.size,fun v' w8 g1 g2=>?_⟩⟩
 · obtain ⟨b,off,e,hc⟩:=hs8 j u hu
   simp only [Option.some.injEq,Addr.mk.injEq,and_true] at e
   obtain ⟨rfl,rfl⟩:=e
   rw [show (⟨g8,0,none⟩:Addr).add j=⟨g8,0+j,none⟩ by cases j <;> simp [Addr.add]]
   rw [World.cell?_of_block (hw.block _ hl8 hne8)]
   exact hc
 · have hk : ∀ x,A x→x<W.heap.size→w8.heap[x]? = W.heap[x]? := fun x hx hl=>by
    have h9:=hw7.block x hl (hA x hx).2.2.1
    rw [←h9]
    refine g2.block x (Nat.lt_of_lt_of_le hl hw7.size) fun e=>?_
    rcases hv2.at_ x e.symm with h10 | ⟨h10,_⟩
    · omega
    · exact (hA x hx).2.2.1 h10
   obtain ⟨gr,cr,rfl,hsr,hgr,_⟩:=g1.form1 (by simp;omega)
   refine ⟨(h.bel.grown hw7.grown h.bel.size fun g hg=>(h1.lt g hg).1).grown g2 (Nat.le_trans h.bel.size hw7.size) fun g hg=>(hv2.own.lt g hg).1,A,gr,cr,?_,hgr,fun k hk=>(hA k hk).1,?_,fun k v hv=>?_⟩
   · simp only [List.length_append,hl7,hl8',List.length_cons,List.length_nil]
   · exact ((h2.keep (fun _ h=>h) hk).app (h4.keep (fun _ h=>h) hk)).snoc (show flushV dp=flushV dp from rfl)
   · obtain ⟨b,off,e,hc⟩:=hsr k v hv
     simp only [Option.some.injEq,Addr.mk.injEq,and_true] at e
     obtain ⟨rfl,rfl⟩:=e
     exact hc
end
end Go.Proofs.YtajhkncolbgkbaaDoor
