/- RegT, RlT, Crp, Slp, Str, Dk: joined by program, for one claim. -/
import Derived.Test.YtajhkncolbgkbaaM1
import Derived.Laws.IdiomStrings
set_option linter.unusedVariables false
set_option linter.unusedSimpArgs false
namespace Go.Proofs.Ytajhkncolbgkbaa
section
open Go.Sort Go.RowKit
def tailT (md:Region.Mode) (l:List Oper) (n:Nat):Bool :=
 ((List.range n).all fun k=>Region.waitsFor md l.toArray n k || (List.range n).any fun m=>decide (k<m) && Region.waitsFor md l.toArray m k) && (List.range l.length).all fun t=>decide (t≤n) || Region.waitsFor md l.toArray t (t - 1)
def headT (l:List Oper) (n:Nat):Bool :=
 decide (n<l.length) && backB .any l n && tailT .any l n && Region.lexB .any (l.take n).toArray && Region.seqB .any l.toArray (l.length - n) n (Array.replicate n true++Array.replicate (l.length - n) false)
section
variable {P:Program} {md:Region.Mode} {l:List Oper} {n:Nat} {C:World→Prop}
def Shut (md:Region.Mode) (l:List Oper) (s:Array Bool):Prop := ∀ m k,s.getD m false=true→Region.waitsFor md l.toArray m k=true→s.getD k false=true
theorem not_first {s:Array Bool} (hs:s.size=n) {g:Nat} (hsh:Shut md l s) (ht:tailT md l n=true) (h:n∈Region.ready md l.toArray (s++Array.replicate g false)) : ∀ (d k:Nat),n - k≤d→k<n→s.getD k false=false→False
 | 0,k,h1,h2,_=>by omega
 | d + 1, k, hd, hk, hun => by
   obtain ⟨h1,o,ho,h2⟩:=mem_ready.1 h
   have ht':=ht
   simp only [tailT,Bool.and_eq_true] at ht'
   have h3:=List.all_eq_true.1 ht'.1 k (List.mem_range.2 hk)
   simp only [Bool.or_eq_true] at h3
   rcases h3 with h3 | h3
   · obtain ⟨o',ho',e,he,hbi,hon⟩:=Region.waitsFor_spec h3
     obtain rfl:o'=o:=Option.some.inj (ho'.symm.trans ho)
     have:=h2 e he hbi
     rw [hon,app_get hs hk,hun] at this
     cases this
   · obtain ⟨m,hm,h4⟩:=List.any_eq_true.1 h3
     simp only [Bool.and_eq_true,decide_eq_true_eq] at h4
     have hmn:=List.mem_range.1 hm
     refine not_first hs hsh ht h d m (by omega) hmn ?_
     cases hx:s.getD m false with
     | false=>rfl
     | true=>have:=hsh m k hx h4.2;rw [hun] at this;cases this
theorem ready_not_tailT {s:Array Bool} (hs:s.size=n) (hsh:Shut md l s) {g i k:Nat} (hk:k<n) (hun:s.getD k false=false) (ht:tailT md l n=true) (h:i∈Region.ready md l.toArray (s++Array.replicate g false)):i<n:=by
 obtain ⟨h1,o,ho,h2⟩:=mem_ready.1 h
 rcases Nat.lt_or_ge i n with hlt | hge
 · exact hlt
 · exfalso
   have hil:i<l.length:=by have:=(Array.getElem?_eq_some_iff.1 ho).1;simpa using this
   by_cases hin:i=n
   · subst hin
     exact not_first hs hsh ht h (i - k) k (Nat.le_refl _) hk hun
   · have ht':=ht
     simp only [tailT,Bool.and_eq_true] at ht'
     have h3:=List.all_eq_true.1 ht'.2 i (List.mem_range.2 hil)
     simp only [Bool.or_eq_true,decide_eq_true_eq] at h3
     rcases h3 with h3 | h3
     · omega
     · obtain ⟨o',ho',e,he,hbi,hon⟩:=Region.waitsFor_spec h3
       obtain rfl:o'=o:=Option.some.inj (ho'.symm.trans ho)
       have:=h2 e he hbi
       rw [hon,app_tail hs (by omega)] at this
       cases this
theorem shut_set {s:Array Bool} {i:Nat} (hsh:Shut md l s) (hi:i∈Region.ready md (l.take n).toArray s) (hin:i<n):Shut md l (s.setIfInBounds i true):=by
 intro m k hm hw
 have keep : ∀ j,s.getD j false=true→(s.setIfInBounds i true).getD j false=true:=by
  intro j hj
  simp only [Array.getD_eq_getD_getElem?,Array.getElem?_setIfInBounds] at hj ⊢
  split
  · split
    · rfl
    · rename_i h;rw [Array.getElem?_eq_none (by omega)] at hj;exact hj
  · exact hj
 by_cases e:i=m
 · subst e
   obtain ⟨_,o,ho,h2⟩:=mem_ready.1 hi
   obtain ⟨o',ho',e,he,hbi,hon⟩:=Region.waitsFor_spec hw
   rw [take_get hin] at ho
   obtain rfl:o'=o:=Option.some.inj (ho'.symm.trans ho)
   exact keep k (hon ▸ h2 e he hbi)
 · refine keep k (hsh m k ?_ hw)
   simpa [Array.getD_eq_getD_getElem?,Array.getElem?_setIfInBounds,e] using hm
theorem wpAny_of_headT {Qa:Act→Prop} {Q:Exit→Act→World→Prop} {g:Nat} (hn:n≤l.length) (hb:backB md l n=true) (ht:tailT md l n=true)
 (hend : ∀ a w,C w→Qa a→wpAny P md l.toArray Q g (Array.replicate n true++Array.replicate g false) a w) :
 ∀ (f : Nat) (s : Array Bool) (a : Act) (w : World), s.size = n → Shut md l s → unl s = f → C w → wpAnyQ P md (l.take n).toArray C Qa f s a →
   wpAny P md l.toArray Q (f+g) (s++Array.replicate g false) a w
 | 0, s, a, w, hs, _, hu, hw, h => by
   rw [Nat.zero_add,unl_zero hu,hs]
   exact hend a w hw h.2
 | f + 1, s, a, w, hs, hsh, hu, hw, h => by
   obtain ⟨k,hk,hun⟩:=unl_pos (s:=s) (by omega)
   rw [show f+1+g=(f+g)+1 by omega]
   refine ⟨fun h0=>?_,fun i hi=>?_⟩
   · obtain ⟨i,hi⟩:=ready_some (g:=g) hs hn hb (k+1) k (by omega) (by omega) hun
     rw [h0] at hi;cases hi
   · have hin:=ready_not_tailT hs hsh (by omega:k<n) hun ht hi
     have hr:=ready_head hs hin hb hi
     have hq:=h.2 i hr
     obtain ⟨hiu,o,ho,_⟩:=mem_ready.1 hr
     have ho':l.toArray[i]? = some o:=by rw [←take_get hin];exact ho
     have step : ∀ a' w',C w'→wpAnyQ P md (l.take n).toArray C Qa f (s.setIfInBounds i true) a'→wpAny P md l.toArray Q (f+g) ((s++Array.replicate g false).setIfInBounds i true) a' w':=by
      intro a' w' hw' h'
      rw [app_set (by omega)]
      refine wpAny_of_headT hn hb ht hend f _ a' w' (by simpa using hs) (shut_set hsh hr hin) ?_ hw' h'
      have:=unl_set (s:=s) (by omega) hiu
      omega
     have hq':qOp P l.toArray C i (wpAnyQ P md (l.take n).toArray C Qa f (s.setIfInBounds i true)) a:=by
      unfold qOp at hq ⊢
      simp only [ho] at hq
      simp only [ho']
      rwa [wanted_head hb hin ho'] at hq
     exact wpOp_of_qOp hw step hq'
theorem wp_region_headT {id:Nat} {Q:Exit→Act→World→Prop} {a:Act} {w:World} (n:Nat) (hm:P.follows .mixedOrders=true) (hB:headT l n=true) (hC:C { w with drawn:=w.drawn+1 })
 (h:wpQuiet P (l.take n).toArray C (fun a' => ∀ w',C w'→wpList P l.toArray Q (l.drop n) a' w') (l.take n) a):(Code.region id l.toArray true).wp P Q a w:=by
 simp only [headT,Bool.and_eq_true,decide_eq_true_eq] at hB
 obtain ⟨⟨⟨⟨hn,hb⟩,ht⟩,hlex⟩,hseq⟩:=hB
 simp only [Region.lexB,Bool.and_eq_true] at hlex
 refine wp_region_any hm ?_
 have hsz:(l.take n).toArray.size=n:=by simp;omega
 have hq:=wpAnyQ_lex (P:=P) (C:=C) (md:=.any) hlex.1 (l.take n) 0 (Array.replicate n false) a (by simp) (by have:=hlex.2;rw [hsz] at this;simpa [show (l.take n).length=n by simp;omega] using this) h
 rw [show (l.take n).length=n by simp;omega] at hq
 have:=wpAny_of_headT (g:=l.length - n) (Q:=Q) (md:=.any) (by omega) hb ht (fun a w hw hQa=>by
  have:=wpAny_of_seq (P:=P) (md:=.any) (ops:=l.toArray) (Q':=Q) (l.drop n) n (Array.replicate n true++Array.replicate (l.length - n) false) a w (fun j=>by simp [List.getElem?_drop]) (by simpa using hseq) (hQa w hw)
  simpa using this) n (Array.replicate n false) a _ (by simp) (fun m k h=>by
   simp only [Array.getD_eq_getD_getElem?,Array.getElem?_replicate] at h
   split at h <;> simp at h) (by simp [unl]) hC hq
 have e:Array.replicate n false++Array.replicate (l.length - n) false=Array.replicate l.toArray.size false:=by
  rw [Array.replicate_append_replicate];congr 1;simp;omega
 rw [e,show n+(l.length - n)=l.toArray.size by simp;omega] at this
 exact this
theorem wp_region_headT_below {id:Nat} {Q:Exit→Act→World→Prop} {a:Act} {w:World} (n:Nat) (hm:P.follows .mixedOrders=true) (hB:headT l n=true)
 (h:wpQuiet P (l.take n).toArray (fun w' => ∃ p:Regrown,w'=grow (redrawn w p.d) p.os) (fun a' => ∀ w',(∃ p:Regrown,w'=grow (redrawn w p.d) p.os)→wpList P l.toArray Q (l.drop n) a' w') (l.take n) a) :
 (Code.region id l.toArray true).wp P Q a w :=
 wp_region_headT (C:=fun w' => ∃ p:Regrown,w'=grow (redrawn w p.d) p.os) n hm hB ⟨⟨w.drawn+1,#[]⟩,by rw [grow_empty];rfl⟩ h
end
end
section
open Go.Sort Go.RowKit
section
variable {P:Program} {l:List Oper} {n:Nat} {R:Nat→Value→World→Prop} {W:World} {a:Act}
theorem ri_anyT (hn:n≤l.length) (B:RelB l n) (hb:backB .any l n=true) (ht:tailT .any l n=true) (hf : ∀ i,i<n→Firm (R i)) (hd : ∀ i d,i<n→dstAt l i=some d→d<a.tmps.size)
 (hop : ∀ i o,i<n→l[i]? = some o → ∀ (ρ:Operand→Value) w,Below W.heap.size W w→(∀ v,ρ (.const v)=v)→(∀ g,ρ (.global g) = .pointer (some ⟨g,0,none⟩))→(∀ f,ρ (.func f) = .func (.func f) #[] #[]) →
  (∀ d,.tmp d∈o.op.operands→Known l n R a d (ρ (.tmp d)) w)→relUpon P w (R i) ((execOp ρ o).run P w))
 {Q:Exit→Act→World→Prop} (hend : ∀ a' w',RI l n R W a (Array.replicate n true) a' w'→wpAny P .any l.toArray Q (l.length - n) (Array.replicate n true++Array.replicate (l.length - n) false) a' w') :
 ∀ (f:Nat) (s:Array Bool) (a':Act) (w':World),s.size=n→Shut .any l s→unl s=f→RI l n R W a s a' w'→wpAny P .any l.toArray Q (f+(l.length - n)) (s++Array.replicate (l.length - n) false) a' w'
 | 0, s, a', w', hs, _, hu, I => by
   have e:s=Array.replicate n true:=by rw [←hs];exact unl_zero hu
   rw [Nat.zero_add,e]
   rw [e] at I
   exact hend a' w' I
 | f + 1, s, a', w', hs, hsh, hu, I => by
   obtain ⟨k,hk,hun⟩:=unl_pos (s:=s) (by omega)
   rw [show f+1+(l.length - n)=(f+(l.length - n))+1 by omega]
   refine ⟨fun h0=>?_,fun i hi=>?_⟩
   · obtain ⟨i,hi⟩:=ready_some (g:=l.length - n) hs hn hb (k+1) k (by omega) (by omega) hun
     rw [h0] at hi;cases hi
   · have hin:=ready_not_tailT hs hsh (by omega:k<n) hun ht hi
     have hiu:s.getD i true=false:=by have:=(mem_ready.1 hi).1;rwa [app_get hs hin] at this
     refine wpOp_mono (fun a'' w'' I'=>?_) (ri_step B hf hd hop hs I hin hi hiu)
     rw [app_set (by omega)]
     refine ri_anyT hn B hb ht hf hd hop hend f _ a'' w'' (by simpa using hs) (shut_set hsh (ready_head hs hin hb hi) hin) ?_ I'
     have:=unl_set (s:=s) (by omega) hiu
     omega
def headRT (l:List Oper) (n:Nat):Bool :=
 decide (n<l.length) && backB .any l n && tailT .any l n && relB l n && Region.seqB .any l.toArray (l.length - n) n (Array.replicate n true++Array.replicate (l.length - n) false)
theorem any_relT {Q:Exit→Act→World→Prop} (n:Nat) (R:Nat→Value→World→Prop) (hB:headRT l n=true) (m:Nat) (hdm:dstB l m=true) (ham:a.tmps.size=m)
 (hf : ∀ i,i<n→Firm (R i))
 (hop : ∀ i o,i<n→l[i]? = some o → ∀ (ρ:Operand→Value) w,Below W.heap.size W w→(∀ v,ρ (.const v)=v)→(∀ g,ρ (.global g) = .pointer (some ⟨g,0,none⟩))→(∀ f,ρ (.func f) = .func (.func f) #[] #[]) →
  (∀ d,.tmp d∈o.op.operands→Known l n R a d (ρ (.tmp d)) w)→relUpon P w (R i) ((execOp ρ o).run P w))
 (h : ∀ (vs:List Value) w',vs.length=n→Below W.heap.size W w'→(∀ i v,vs[i]? = some v→R i v w')→wpList P l.toArray Q (l.drop n) (puts (((l.take n).map (·.dst)).zip vs) a) w'):wpAny P .any l.toArray Q l.toArray.size (Array.replicate l.toArray.size false) a { W with drawn:=W.drawn+1 }:=by
 simp only [headRT,Bool.and_eq_true,decide_eq_true_eq] at hB
 obtain ⟨⟨⟨⟨hn,hb⟩,ht⟩,hrel⟩,hseq⟩:=hB
 have B:=relB_spec hrel
 have hd : ∀ i d,i<n→dstAt l i=some d→d<a.tmps.size:=fun i d _ hd=>by rw [ham];exact dstB_spec hdm hd
 have:=ri_anyT (Q:=Q) (by omega) B hb ht hf hd hop (fun a' w' I=>?_) n (Array.replicate n false) a { W with drawn:=W.drawn+1 } (by simp) (fun m k h=>by
  simp only [Array.getD_eq_getD_getElem?,Array.getElem?_replicate] at h
  split at h <;> simp at h) (by simp [unl])
  ⟨rfl,rfl,fun x _=>rfl,fun i d _ hs=>(by rw [getD_replicate_false] at hs;cases hs),⟨rfl,rfl,rfl,Nat.le_refl _,fun _ _=>rfl⟩⟩
 · have e:Array.replicate n false++Array.replicate (l.length - n) false=Array.replicate l.toArray.size false:=by
    rw [Array.replicate_append_replicate];congr 1;simp;omega
   rw [e,show n+(l.length - n)=l.toArray.size by simp;omega] at this
   exact this
 · have hv : ∀ i,∃ v,i<n→(∃ d,dstAt l i=some d∧a'.tmps[d]? = some v)∧R i v w':=by
    intro i
    by_cases hi:i<n
    · obtain ⟨o,ho⟩ : ∃ o,l[i]? = some o:=⟨_,List.getElem?_eq_getElem (by omega)⟩
      obtain ⟨d,hdd⟩:=B.dst i o hi ho
      have hdl:dstAt l i=some d:=by simp [dstAt,ho,hdd]
      obtain ⟨v,h1,h2⟩:=I.head i d hi (by simp [hi]) hdl
      exact ⟨v,fun _=>⟨⟨d,hdl,h1⟩,h2⟩⟩
    · exact ⟨undef,fun h=>absurd h hi⟩
   obtain ⟨g,hg⟩:=Classical.axiomOfChoice hv
   have hlen:((List.range n).map g).length=n:=by simp
   have hz : ∀ i,i<n→(((l.take n).map (·.dst)).zip ((List.range n).map g))[i]? = some (dstAt l i,g i):=by
    intro i hi
    rw [(List.getElem?_zip_eq_some (z:=(dstAt l i,g i))).2]
    refine ⟨?_,by simp [hi]⟩
    rw [List.getElem?_map,List.getElem?_take,if_pos hi]
    unfold dstAt
    rw [List.getElem?_eq_getElem (show i<l.length by omega)];rfl
   have hlt : ∀ {i p},(((l.take n).map (·.dst)).zip ((List.range n).map g))[i]? = some p→i<n:=by
    intro i p hp
    have:=(List.getElem?_eq_some_iff.1 hp).1
    simp at this;omega
   have heq:a'=puts (((l.take n).map (·.dst)).zip ((List.range n).map g)) a:=by
    refine act_ext ?_ fun x=>?_
    · rw [(puts_size _ _).2];exact I.defers
    · by_cases hx : ∃ i,i<n∧dstAt l i=some x
      · obtain ⟨i,hi,hdx⟩:=hx
        obtain ⟨⟨d,h1,h2⟩,_⟩:=hg i hi
        rw [hdx] at h1
        obtain rfl:=Option.some.inj h1
        rw [h2]
        symm
        refine puts_in _ a x _ (hd i x hi hdx) ?_ (List.mem_iff_getElem?.2 ⟨i,by rw [hz i hi,hdx]⟩)
        rw [List.pairwise_iff_getElem]
        intro p q hp hq hpq d' e1 e2
        have n1:=hz p (hlt (List.getElem?_eq_getElem hp))
        have n2:=hz q (hlt (List.getElem?_eq_getElem hq))
        rw [List.getElem?_eq_getElem hp] at n1
        rw [List.getElem?_eq_getElem hq] at n2
        rw [Option.some.inj n1] at e1
        rw [Option.some.inj n2] at e2
        exact B.dist p q d' (hlt (List.getElem?_eq_getElem hp)) (hlt (List.getElem?_eq_getElem hq)) (by omega) e1 e2
      · rw [puts_out _ _ x (fun p hp e=>by
         obtain ⟨i,hi⟩:=List.mem_iff_getElem?.1 hp
         have hin:=hlt hi
         rw [hz i hin] at hi
         have:=Option.some.inj hi
         subst this
         exact hx ⟨i,hin,e⟩)]
        exact I.old x fun i hi _ e=>hx ⟨i,hi,e⟩
   have hres:=h ((List.range n).map g) w' hlen I.below (fun i v hi=>by
    have hin:i<n:=by have:=(List.getElem?_eq_some_iff.1 hi).1;simpa using this
    have:v=g i:=by simpa [hin] using hi.symm
    rw [this];exact (hg i hin).2)
   rw [←heq] at hres
   have:=wpAny_of_seq (P:=P) (md:=.any) (ops:=l.toArray) (Q':=Q) (l.drop n) n (Array.replicate n true++Array.replicate (l.length - n) false) a' w' (fun j=>by simp [List.getElem?_drop]) (by simpa using hseq) hres
   simpa using this
theorem wp_region_relT {id:Nat} {Q:Exit→Act→World→Prop} (n:Nat) (R:Nat→Value→World→Prop) (hm:P.follows .mixedOrders=true) (hB:headRT l n=true) (m:Nat) (hdm:dstB l m=true) (ham:a.tmps.size=m)
 (hf : ∀ i,i<n→Firm (R i))
 (hop : ∀ i o,i<n→l[i]? = some o → ∀ (ρ:Operand→Value) w,Below W.heap.size W w→(∀ v,ρ (.const v)=v)→(∀ g,ρ (.global g) = .pointer (some ⟨g,0,none⟩))→(∀ f,ρ (.func f) = .func (.func f) #[] #[]) →
  (∀ d,.tmp d∈o.op.operands→Known l n R a d (ρ (.tmp d)) w)→relUpon P w (R i) ((execOp ρ o).run P w))
 (h : ∀ (vs:List Value) w',vs.length=n→Below W.heap.size W w'→(∀ i v,vs[i]? = some v→R i v w')→wpList P l.toArray Q (l.drop n) (puts (((l.take n).map (·.dst)).zip vs) a) w'):(Code.region id l.toArray true).wp P Q a W :=
 wp_region_any hm (any_relT n R hB m hdm ham hf hop h)
end
end
section
def crcP:Nat:=3988292384
def crcS (c:Nat):Nat:=if c % 2=1 then (c / 2) ^^^ crcP else c / 2
def crcR:Nat→Nat→Nat
 | 0,c=>c
 | k+1,c=>crcR k (crcS c)
def crcB (c:Nat) (x:Int):Nat:=crcR 8 (c ^^^ x.toNat)
def crcT (l:List Int) (c:Nat):Nat:=l.foldl crcB c
def crcV (l:List Int):Nat:=crcT l 4294967295 ^^^ 4294967295
theorem crcS_lt {c:Nat} (h:c<2 ^ 32):crcS c<2 ^ 32:=by
 unfold crcS
 split
 · exact Nat.xor_lt_two_pow (by omega) (by decide)
 · omega
theorem xor_cancel {a b p:Nat} (h:a ^^^ p=b ^^^ p):a=b:=by
 have:=congrArg (· ^^^ p) h
 simpa [Nat.xor_assoc] using this
theorem crcS_inj {c d:Nat} (hc:c<2 ^ 32) (hd:d<2 ^ 32) (h:crcS c=crcS d):c=d:=by
 have far : ∀ a b:Nat,a<2 ^ 31→b<2 ^ 31→a ^^^ crcP ≠ b:=by
  intro a b ha hb e
  have h1:a ^^^ b=crcP:=by rw [←e,←Nat.xor_assoc,Nat.xor_self,Nat.zero_xor]
  have h2:=Nat.xor_lt_two_pow ha hb
  rw [h1] at h2
  exact absurd h2 (by decide)
 unfold crcS at h
 split at h <;> split at h
 · have:=xor_cancel h;omega
 · exact absurd h (far _ _ (by omega) (by omega))
 · exact absurd h.symm (far _ _ (by omega) (by omega))
 · omega
theorem crcR_lt : ∀ (k:Nat) {c:Nat},c<2 ^ 32→crcR k c<2 ^ 32
 | 0,_,h=>h
 | k+1,_,h=>crcR_lt k (crcS_lt h)
theorem crcR_inj : ∀ (k:Nat) {c d:Nat},c<2 ^ 32→d<2 ^ 32→crcR k c=crcR k d→c=d
 | 0,_,_,_,_,h=>h
 | k+1,_,_,hc,hd,h=>crcS_inj hc hd (crcR_inj k (crcS_lt hc) (crcS_lt hd) h)
def Byts (l:List Int):Prop := ∀ x∈l,0≤x∧x≤255
theorem crcB_lt {c:Nat} (h:c<2 ^ 32) {x:Int} (hx:0≤x∧x≤255):crcB c x<2 ^ 32:=crcR_lt 8 (Nat.xor_lt_two_pow h (by omega))
theorem crcT_lt : ∀ {l:List Int},Byts l → ∀ {c:Nat},c<2 ^ 32→crcT l c<2 ^ 32
 | [],_,_,h=>h
 | x :: l, hl, _, h => by
   unfold crcT
   rw [List.foldl_cons]
   exact crcT_lt (l:=l) (fun y hy=>hl y (by simp [hy])) (crcB_lt h (hl x (by simp)))
theorem crcT_inj : ∀ {l:List Int},Byts l → ∀ {c d:Nat},c<2 ^ 32→d<2 ^ 32→crcT l c=crcT l d→c=d
 | [],_,_,_,_,_,h=>h
 | x :: l, hl, c, d, hc, hd, h => by
   unfold crcT at h
   rw [List.foldl_cons,List.foldl_cons] at h
   have hx:=hl x (by simp)
   have h1:=crcT_inj (l:=l) (fun y hy=>hl y (by simp [hy])) (crcB_lt hc hx) (crcB_lt hd hx) h
   have h2:=crcR_inj 8 (Nat.xor_lt_two_pow hc (by omega)) (Nat.xor_lt_two_pow hd (by omega)) h1
   exact xor_cancel h2
theorem crcT_app (l m:List Int) (c:Nat):crcT (l++m) c=crcT m (crcT l c):=List.foldl_append ..
theorem crc_one {p s:List Int} {x y:Int} (hp:Byts p) (hs:Byts s) (hx:0≤x∧x≤255) (hy:0≤y∧y≤255) (h:crcV (p++x::s)=crcV (p++y::s)):x=y:=by
 have h0:(4294967295:Nat)<2 ^ 32:=by decide
 have h1:=xor_cancel h
 rw [crcT_app,crcT_app] at h1
 have hc:=crcT_lt hp h0
 have h2:=crcT_inj (l:=s) hs (crcB_lt hc hx) (crcB_lt hc hy) h1
 have h3:=crcR_inj 8 (Nat.xor_lt_two_pow hc (by omega)) (Nat.xor_lt_two_pow hc (by omega)) h2
 rw [Nat.xor_comm,Nat.xor_comm _ y.toNat] at h3
 have:=xor_cancel h3
 omega
theorem crcV_lt {l:List Int} (h:Byts l):crcV l<2 ^ 32:=Nat.xor_lt_two_pow (crcT_lt h (by decide)) (by decide)
end
section
def fourP (n:Nat):List Int:=[((n % 256:Nat):Int),((n / 256 % 256:Nat):Int),((n / 65536 % 256:Nat):Int),((n / 16777216 % 256:Nat):Int)]
theorem four_len (n:Nat):(fourP n).length=4:=rfl
theorem byts_four (n:Nat):Byts (fourP n):=by
 intro x hx
 simp only [fourP,List.mem_cons,List.not_mem_nil,or_false] at hx
 rcases hx with rfl | rfl | rfl | rfl <;> omega
theorem four_inj {a b:Nat} (ha:a<2 ^ 32) (hb:b<2 ^ 32) (h:fourP a=fourP b):a=b:=by
 simp only [fourP,List.cons.injEq,and_true,Int.natCast_inj] at h
 omega
def numP (l:List Int):Nat:=(l.getD 0 0).toNat+256 * (l.getD 1 0).toNat+65536 * (l.getD 2 0).toNat+16777216 * (l.getD 3 0).toNat
theorem num_four {n:Nat} (h:n<2 ^ 32) (r:List Int):numP (fourP n++r)=n:=by
 simp only [numP,fourP,List.cons_append,List.nil_append,List.getD_cons_zero,List.getD_cons_succ]
 omega
theorem num_lt {l:List Int} (hb:Byts l):numP l<2 ^ 32:=by
 have key : ∀ i,0≤l.getD i 0∧l.getD i 0≤255:=fun i=>by
  rw [List.getD_eq_getElem?_getD]
  cases h:l[i]? with
  | none=>simp
  | some x=>exact hb x (List.mem_of_getElem? h)
 have h0:=key 0
 have h1:=key 1
 have h2:=key 2
 have h3:=key 3
 unfold numP
 omega
def sealP (n:Nat) (data:List Int):List Int:=fourP n++data++fourP (crcV (fourP n++data))++fourP n
def zerosP (n:Nat):List Int:=List.replicate n 0
def goodP (l:List Int):Prop:=l.length=128∧(l=zerosP 128∨(1≤numP l∧numP l≤2 ^ 30∧l=sealP (numP l) ((l.drop 4).take 116)))
theorem seal_len {n:Nat} {data:List Int} (h:data.length=116):(sealP n data).length=128:=by simp [sealP,four_len,h]
theorem seal_head (n:Nat) (data:List Int):(sealP n data).take 4=fourP n:=by simp [sealP,fourP]
theorem seal_tail {n:Nat} {data:List Int} (h:data.length=116):(sealP n data).drop 124=fourP n:=by
 have:(fourP n++data++fourP (crcV (fourP n++data))).length=124:=by simp [four_len,h]
 unfold sealP
 rw [List.drop_append_of_le_length (by omega),List.drop_of_length_le (by omega),List.nil_append]
theorem seal_num {n:Nat} (hn:n<2 ^ 32) (data:List Int):numP (sealP n data)=n:=by
 unfold sealP
 rw [List.append_assoc,List.append_assoc]
 exact num_four hn _
theorem seal_data {n:Nat} {data:List Int} (h:data.length=116):((sealP n data).drop 4).take 116=data:=by
 unfold sealP
 rw [List.append_assoc,List.append_assoc,List.drop_append_of_le_length (by simp [four_len]),List.drop_of_length_le (by simp [four_len]),List.nil_append,List.take_append_of_le_length (by omega),List.take_of_length_le (by omega)]
theorem seal_good {n:Nat} (h1:1≤n) (h2:n≤2 ^ 30) {data:List Int} (h:data.length=116):goodP (sealP n data):=by
 refine ⟨seal_len h,.inr ?_⟩
 rw [seal_num (by omega),seal_data h]
 exact ⟨h1,h2,rfl⟩
theorem byts_seal {n:Nat} {data:List Int} (h:Byts data):Byts (sealP n data):=by
 intro x hx
 simp only [sealP,List.mem_append] at hx
 rcases hx with ((hx | hx) | hx) | hx
 · exact byts_four _ x hx
 · exact h x hx
 · exact byts_four _ x hx
 · exact byts_four _ x hx
theorem good_ends {l:List Int} (h:goodP l):l.take 4=l.drop 124:=by
 obtain ⟨hl,rfl | ⟨_,_,h⟩⟩:=h
 · decide
 · have hd:((l.drop 4).take 116).length=116:=by simp [hl]
   rw [h,seal_head,seal_tail hd]
theorem torn_good {l m:List Int} (hl:l.length=128) (hm:m.length=128) (hle:l.take 4=l.drop 124) (hme:m.take 4=m.drop 124) (hne:l.take 4 ≠ m.take 4) (k:Nat) (hk:k≤128) (h:goodP (l.take k++m.drop k)):l.take k++m.drop k=l∨l.take k++m.drop k=m:=by
 have he:=good_ends h
 have hlk:(l.take k).length=k:=by simp;omega
 rcases Nat.lt_or_ge k 124 with h1 | h1
 · have ht:(l.take k++m.drop k).drop 124=m.drop 124:=by
    rw [List.drop_append,hlk,List.drop_of_length_le (by omega),List.nil_append,List.drop_drop]
    congr 1;omega
   rw [ht,←hme] at he
   rcases Nat.lt_or_ge 4 k with h2 | h2
   · exfalso
     rw [List.take_append_of_le_length (by omega),List.take_take,Nat.min_eq_left (by omega)] at he
     exact hne he
   · refine .inr ?_
     have h3:(l.take k++m.drop k)=(l.take k++m.drop k).take 4++(l.take k++m.drop k).drop 4:=(List.take_append_drop 4 _).symm
     have h4:(l.take k++m.drop k).drop 4=m.drop 4:=by
      rw [List.drop_append,hlk,List.drop_of_length_le (by omega),List.nil_append,List.drop_drop]
      congr 1;omega
     rw [h3,he,h4,List.take_append_drop]
 · refine .inl ?_
   have ht:(l.take k++m.drop k).take 4=l.take 4:=by rw [List.take_append_of_le_length (by omega),List.take_take,Nat.min_eq_left (by omega)]
   rw [ht,hle] at he
   have h3:(l.take k++m.drop k)=(l.take k++m.drop k).take 124++(l.take k++m.drop k).drop 124:=(List.take_append_drop 124 _).symm
   have h4:(l.take k++m.drop k).take 124=l.take 124:=by rw [List.take_append_of_le_length (by omega),List.take_take,Nat.min_eq_left (by omega)]
   rw [h3,←he,h4,List.take_append_drop]
theorem rot_sealed {n:Nat} (hn1:1≤n) (hn:n<2 ^ 32) {data:List Int} (hd:data.length=116) (hb:Byts data) (i:Nat) (hi:i<128) (y:Int) (hy:0≤y∧y≤255) (hne:(sealP n data)[i]? ≠ some y) : ¬goodP ((sealP n data).set i y):=by
 intro h
 have hL:=seal_len (n:=n) hd
 have he:=good_ends h
 have hh:=seal_head n data
 have ht:=seal_tail (n:=n) hd
 have hset:((sealP n data).set i y)[i]? = some y:=by rw [List.getElem?_set_self (by omega)]
 rcases Nat.lt_or_ge i 4 with h1 | h1
 · rw [List.drop_set_of_lt (by omega),ht,←hh] at he
   have h2:=congrArg (fun l=>l[i]?) he
   simp only [List.getElem?_take,if_pos h1] at h2
   rw [hset] at h2
   exact hne h2.symm
 rw [List.take_set_of_le (by omega),hh] at he
 rcases Nat.lt_or_ge i 124 with h2 | h2
 rotate_left
 · rw [←ht] at he
   have h3:=congrArg (fun l=>l[i - 124]?) he
   simp only [List.getElem?_drop] at h3
   rw [show 124+(i - 124)=i by omega,hset] at h3
   exact hne h3
 obtain ⟨_,hz | ⟨_,_,hs⟩⟩:=h
 · have h3:=congrArg (fun l=>l.take 4) hz
   simp only [List.take_set_of_le (show 4≤i by omega)] at h3
   rw [hh] at h3
   have h4:fourP n=fourP 0:=h3
   have:=four_inj hn (by decide) h4
   omega
 have hnum:numP ((sealP n data).set i y)=n:=by
  have : ∀ l:List Int,numP l=numP (l.take 4):=fun l=>by
   unfold numP
   simp only [List.getD_eq_getElem?_getD,List.getElem?_take]
   simp
  rw [this,List.take_set_of_le (by omega),hh,←List.append_nil (fourP n),num_four hn]
 rw [hnum] at hs
 generalize hD:(((sealP n data).set i y).drop 4).take 116=D at hs
 have hDl:D.length=116:=by rw [←hD];simp [hL]
 rcases Nat.lt_or_ge i 120 with h3 | h3
 · -- in the data: the checksum differs
   have hD2:D=data.set (i - 4) y:=by
    rw [←hD,List.drop_set,if_neg (by omega),List.take_set,seal_data hd]
   have hc:(((sealP n data).set i y).drop 120).take 4=((sealP n D).drop 120).take 4:=congrArg (fun l=>(l.drop 120).take 4) hs
   rw [List.drop_set_of_lt (by omega)] at hc
   have key : ∀ d:List Int,d.length=116→((sealP n d).drop 120).take 4=fourP (crcV (fourP n++d)):=fun d hd=>by
    unfold sealP
    rw [List.append_assoc,List.drop_append_of_le_length (by simp [four_len,hd]),List.drop_of_length_le (by simp [four_len,hd]),List.nil_append,List.take_append_of_le_length (by simp [four_len]),List.take_of_length_le (by simp [four_len])]
   have hby:Byts D:=by
    rw [hD2];intro x hx
    rcases List.mem_or_eq_of_mem_set hx with hx | rfl
    · exact hb x hx
    · exact hy
   have happ : ∀ d:List Int,Byts d→Byts (fourP n++d):=fun d h x hx=>by
    rcases List.mem_append.1 hx with hx | hx
    · exact byts_four _ x hx
    · exact h x hx
   rw [key data hd,key D hDl] at hc
   have hcr:=four_inj (crcV_lt (happ _ hb)) (crcV_lt (happ _ hby)) hc
   have hj:i - 4<data.length:=by omega
   have e1:data=data.take (i - 4)++data[i - 4]::data.drop (i - 4+1):=by rw [←List.drop_eq_getElem_cons hj,List.take_append_drop]
   have e2:data.set (i - 4) y=data.take (i - 4)++y::data.drop (i - 4+1):=by rw [List.set_eq_take_append_cons_drop,if_pos hj]
   rw [hD2,e2] at hcr
   have hcr2:crcV ((fourP n++data.take (i - 4))++data[i - 4]::data.drop (i - 4+1))=crcV ((fourP n++data.take (i - 4))++y::data.drop (i - 4+1)):=by
    rw [List.append_assoc,←e1,List.append_assoc];exact hcr
   have hxy:=crc_one (happ _ fun x hx=>hb x (List.mem_of_mem_take hx)) (fun x hx=>hb x (List.mem_of_mem_drop hx)) (hb _ (List.getElem_mem hj)) hy hcr2
   apply hne
   have:(sealP n data)[i]? = data[i - 4]? := by
    have h5:=congrArg (fun l=>l[i - 4]?) (seal_data (n:=n) hd)
    simp only [List.getElem?_take,List.getElem?_drop] at h5
    rw [if_pos (by omega),show 4+(i - 4)=i by omega] at h5
    exact h5
   rw [this,List.getElem?_eq_getElem hj,hxy]
 · -- in the checksum
   have hD2:D=data:=by
    rw [←hD,List.drop_set,if_neg (by omega),List.take_set_of_le (by omega),seal_data hd]
   rw [hD2] at hs
   have h3:((sealP n data).set i y)[i]? = (sealP n data)[i]? := congrArg (fun l=>l[i]?) hs
   rw [hset] at h3
   exact hne h3.symm
end
section
open Go.RowKit
def Byt (t:List Int):Prop := ∀ x∈t,0≤x∧x≤255
def bs (s:ByteArray):List Int:=s.data.toList.map fun b=>(b.toNat:Int)
theorem bs_str {t:List Int} (h:Byt t):bs (strOfNums t)=t:=by
 unfold bs
 rw [strOfNums_data,List.map_map]
 conv=>rhs;rw [←List.map_id t]
 apply List.map_congr_left
 intro x hx
 have:=h x hx
 simp [UInt8.toNat_ofNat']
 omega
theorem Byt.drop {t:List Int} (h:Byt t) (k:Nat):Byt (t.drop k):=fun x hx=>h x (List.mem_of_mem_drop hx)
theorem Byt.take {t:List Int} (h:Byt t) (k:Nat):Byt (t.take k):=fun x hx=>h x (List.mem_of_mem_take hx)
theorem Byt.append {t u:List Int} (h:Byt t) (h':Byt u):Byt (t++u):=fun x hx=>by
 rcases List.mem_append.1 hx with h1 | h1
 · exact h x h1
 · exact h' x h1
theorem Byt.get {t:List Int} (h:Byt t) {k:Nat} {x:Int} (hx:t[k]? = some x):0≤x∧x≤255:=h x (List.mem_of_getElem? hx)
theorem str_append (t u:List Int):strOfNums t++strOfNums u=strOfNums (t++u):=by
 apply ByteArray.ext
 simp [strOfNums]
theorem str_extract (t:List Int) (a b:Nat):(strOfNums t).extract a b=strOfNums ((t.drop a).take (b - a)):=by
 unfold strOfNums
 rw [ByteArray.extract_mk,←List.map_drop,←List.map_take]
theorem str_get {t:List Int} (h:Byt t) {k:Nat} {x:Int} (hx:t[k]? = some x) : ∃ hk:k<(strOfNums t).size,(((strOfNums t)[k]'hk).toNat:Int)=x:=by
 obtain ⟨hk,rfl⟩:=List.getElem?_eq_some_iff.1 hx
 refine ⟨by rw [strOfNums_size];exact hk,?_⟩
 have h1:=h _ (List.getElem_mem hk)
 show (((strOfNums t).data[k]'_).toNat:Int)=t[k]
 simp [strOfNums,UInt8.toNat_ofNat']
 omega
theorem idx_str {P:Program} (T:TypeId) (hu:P.underlying T=some .string) {t:List Int} (hb:Byt t) {k:Nat} {x:Int} (h:t[k]? = some x) (w:World) :
 (Instr.index T (.string (strOfNums t)) (.int .i64 (k:Int))).run P w = .ok (.int .u8 x) w:=by
 obtain ⟨hk,hx⟩:=str_get hb h
 rw [run_index_string w T _ _ _ hu,dif_pos ⟨by omega,by omega⟩]
 simp only [Int.toNat_natCast]
 rw [hx]
theorem bytes_of_str {P:Program} (src dst e:TypeId) (hs:P.underlying src=some .string) (hd:P.underlying dst=some (.slice e)) (he:P.underlying e=some (.int .u8)) {t:List Int} (hb:Byt t) (w:World) :
 ∃ c W,(convert src dst (.string (strOfNums t))).run P w = .ok (.slice (some ⟨w.heap.size,0,none⟩) t.length c) W∧Sl W .u8 (some ⟨w.heap.size,0,none⟩) t∧Below w.heap.size w W:=by
 have h:=run_bytes_of_string (P:=P) w src dst e (strOfNums t) hs hd he
 rw [strOfNums_size] at h
 refine ⟨_,_,h,fun i x hx=>⟨_,0,rfl,?_⟩,(Below.refl _ _).drew.alloc (Nat.le_refl _) _⟩
 obtain ⟨hk,hv⟩:=str_get hb hx
 have:=World.cell?_alloc_mark w.drew (bytesRow (strOfNums t) (grownCap w t.length 0 e)) e ((bytesRow (strOfNums t) (grownCap w t.length 0 e)).size,(bytesRow (strOfNums t) (grownCap w t.length 0 e)).size+1) i
 rw [Nat.zero_add]
 refine Eq.trans this ?_
 have h2:=bytesRow_at (strOfNums t) (grownCap w t.length 0 e) i hk
 rw [←hv];exact h2
end
section
abbrev Pg:=List Int × Option (List Int)
structure Dk where
 p:List Pg
 off:Bool
 trip:Int
def zer:List Int:=List.replicate 128 0
def PgOk (x:Pg):Prop:=x.1.length=128∧Byt x.1 ∧ ∀ n,x.2=some n→n.length=128∧Byt n
structure DkOk (d:Dk):Prop where
 pages : ∀ x∈d.p,PgOk x
 lo : -1≤d.trip
 hi:d.trip≤9223372036854775807
 few:d.p.length≤120
theorem byt_zer:Byt zer:=fun x hx=>by unfold zer at hx;rw [List.mem_replicate] at hx;omega
theorem zer_len:zer.length=128:=List.length_replicate ..
def Pg.now (x:Pg):List Int:=x.2.getD x.1
theorem PgOk.now {x:Pg} (h:PgOk x):x.now.length=128∧Byt x.now:=by
 obtain ⟨a,b⟩:=x
 cases b with
 | none=>exact ⟨h.1,h.2.1⟩
 | some n=>exact h.2.2 n rfl
def Pg.settle (c:Nat) (x:Pg):Pg:=match x.2 with
 | none=>x
 | some n=>(n.take c++x.1.drop c,none)
theorem PgOk.settle {x:Pg} (h:PgOk x) (c:Nat):PgOk (x.settle c):=by
 obtain ⟨a,b⟩:=x
 cases b with
 | none=>exact h
 | some n =>
   obtain ⟨h1,h2,h3⟩:=h
   obtain ⟨h4,h5⟩:=h3 n rfl
   refine ⟨?_,?_,fun n hn=>by cases hn⟩
   · simp only [Pg.settle,List.length_append,List.length_take,List.length_drop]
     simp only at h1
     omega
   · exact (h5.take c).append (h2.drop c)
theorem settle_none (x:Pg) (c:Nat):(x.settle c).2=none:=by
 obtain ⟨a,b⟩:=x
 cases b <;> rfl
def pendOf (p:List Pg):List Nat:=(List.range p.length).filter fun i=>(p[i]?.bind (·.2)).isSome
def rank (p:List Pg) (i:Nat):Nat:=((List.range i).filter fun i=>(p[i]?.bind (·.2)).isSome).length
def isPend (p:List Pg) (i:Nat):Bool:=(p[i]?.bind (·.2)).isSome
theorem isPend_lt {p:List Pg} {i:Nat} (h:isPend p i=true):i<p.length:=by
 unfold isPend at h
 cases h1:p[i]? with
 | none=>rw [h1] at h;cases h
 | some x=>exact (List.getElem?_eq_some_iff.1 h1).1
theorem mem_pend {p:List Pg} {i:Nat}:i∈pendOf p ↔ isPend p i=true:=by
 unfold pendOf
 rw [List.mem_filter,List.mem_range]
 exact ⟨fun h=>h.2,fun h=>⟨isPend_lt h,h⟩⟩
theorem rank_succ (p:List Pg) (i:Nat):rank p (i+1)=rank p i+if isPend p i=true then 1 else 0:=by
 unfold rank
 rw [List.range_succ,List.filter_append,List.length_append]
 unfold isPend
 cases h:(p[i]?.bind (·.2)).isSome <;> simp [h]
theorem rank_mono (p:List Pg) {i j:Nat} (h:i≤j):rank p i≤rank p j:=by
 induction j with
 | zero => have : i = 0 := by omega
           subst this;exact Nat.le_refl _
 | succ j ih =>
   by_cases e:i=j+1
   · subst e;exact Nat.le_refl _
   · have:=ih (by omega)
     rw [rank_succ];omega
theorem rank_lt (p:List Pg) {i j:Nat} (hi:isPend p i=true) (h:i<j):rank p i<rank p j:=by
 have h1:=rank_succ p i
 rw [if_pos hi] at h1
 have:=rank_mono p (show i+1≤j by omega)
 omega
theorem rank_inj (p:List Pg) {i j:Nat} (hi:isPend p i=true) (hj:isPend p j=true) (h:rank p i=rank p j):i=j:=by
 rcases Nat.lt_trichotomy i j with h1 | h1 | h1
 · have:=rank_lt p hi h1;omega
 · exact h1
 · have:=rank_lt p hj h1;omega
theorem rank_at {p:List Pg} {k i:Nat} (h:(pendOf p)[k]? = some i):isPend p i=true∧rank p i=k:=by
 have hm:=mem_pend.1 (List.mem_of_getElem? h)
 refine ⟨hm,?_⟩
 have key : ∀ n i k,((List.range n).filter fun i=>(p[i]?.bind (·.2)).isSome)[k]? = some i→rank p i=k:=by
  intro n
  induction n with
  | zero=>intro i k h;simp at h
  | succ n ih =>
    intro i k h
    rw [List.range_succ,List.filter_append] at h
    by_cases hk:k<((List.range n).filter fun i=>(p[i]?.bind (·.2)).isSome).length
    · rw [List.getElem?_append_left hk] at h
      exact ih i k h
    · rw [List.getElem?_append_right (by omega)] at h
      have hk2:k=rank p n:=by
       unfold rank
       have:=(List.getElem?_eq_some_iff.1 h).1
       have h3:([n].filter fun i=>(p[i]?.bind (·.2)).isSome).length≤1:=List.length_filter_le _ _
       omega
      have:=List.mem_of_getElem? h
      rw [List.mem_filter,List.mem_singleton] at this
      rw [this.1,hk2]
 exact key _ _ _ h
theorem at_rank {p:List Pg} {i:Nat} (h:isPend p i=true):(pendOf p)[rank p i]? = some i:=by
 obtain ⟨k,hk⟩:=List.getElem?_of_mem (mem_pend.2 h)
 rw [(rank_at hk).2];exact hk
theorem pend_len_le (p:List Pg):(pendOf p).length≤p.length:=by
 have:=List.length_filter_le (fun i=>(p[i]?.bind (·.2)).isSome) (List.range p.length)
 rw [List.length_range] at this
 exact this
theorem pend_sorted (p:List Pg):(pendOf p).Pairwise (· < ·):=List.Pairwise.filter _ List.pairwise_lt_range
def pick (picks:List Int) (k:Nat):Nat:=match picks[k]? with
 | none=>128
 | some x=>(min (max x 0) 128).toNat
theorem pick_le (picks:List Int) (k:Nat):pick picks k≤128:=by
 unfold pick
 split <;> omega
def Dk.is (d:Dk) (i:Int):Bool:=decide (0≤i) && decide (i<d.p.length)
def Dk.step (d:Dk):Dk × Bool :=
 if d.trip=0 then ({ d with off:=true },false) else if 0<d.trip then ({ d with trip:=d.trip - 1 },true) else (d,true)
def mkDk (pages:Nat):Dk:=⟨List.replicate pages (zer,none),false,-1⟩
def eDown:Int:=20
def eArg:Int:=1
def Dk.read (d:Dk) (i:Int):List Int × Int :=
 if d.off=true then ([],eDown) else if d.is i=false then ([],eArg) else ((d.p[i.toNat]?.map Pg.now).getD [],0)
def put (old:List Int) (at_:Nat) (s:List Int):List Int:=old.take at_++s++old.drop (at_+s.length)
def Dk.write (d:Dk) (i at_:Int) (s:List Int):Dk × Int :=
 if d.off=true then (d,eDown) else if (d.is i && decide (0≤at_) && decide (at_≤128) && decide ((s.length:Int)≤128 - at_))=false then (d,eArg)
 else if d.step.2=false then (d.step.1,eDown)
 else ({ d.step.1 with p:=d.p.modify i.toNat fun x=>(x.1,some (put x.now at_.toNat s)) },0)
def Dk.flush (d:Dk):Dk × Int :=
 if d.off=true then (d,eDown) else if d.step.2=false then (d.step.1,eDown) else ({ d.step.1 with p:=d.p.map fun x=>(x.now,none) },0)
def Dk.setTrip (d:Dk) (n:Int):Dk:={ d with trip:=max n (-1) }
def settled (p:List Pg) (picks:List Int) (k:Nat):List Pg:=p.mapIdx fun i x=>if rank p i<k then x.settle (pick picks (rank p i)) else x
def Dk.mount (d:Dk) (picks:List Int):Dk:=⟨settled d.p picks (pendOf d.p).length,false,-1⟩
def flip (l:List Int) (n:Nat) (b:Nat):List Int:=l.modify n fun x=>bits .xor .u8 x (2 ^ b)
def Dk.rot (d:Dk) (i bit:Int):Dk × Int :=
 if (d.is i && decide (0≤bit) && decide (bit<1024))=false then (d,eArg)
 else ({ d with p:=d.p.modify i.toNat fun x=>(flip x.1 (bit.toNat / 8) (bit.toNat % 8),x.2) },0)
def Dk.image (d:Dk):List (List Int):=d.p.map (·.1)
theorem settled_zero (p:List Pg) (picks:List Int):settled p picks 0=p:=by
 unfold settled
 apply List.ext_getElem?
 intro i
 rw [List.getElem?_mapIdx]
 cases p[i]? <;> simp
theorem settled_len (p:List Pg) (picks:List Int) (k:Nat):(settled p picks k).length=p.length:=by unfold settled;rw [List.length_mapIdx]
theorem settled_at {p:List Pg} {i:Nat} {x:Pg} (h:p[i]? = some x) (picks:List Int) (k:Nat):(settled p picks k)[i]? = some (if rank p i<k then x.settle (pick picks (rank p i)) else x):=by
 unfold settled
 rw [List.getElem?_mapIdx,h];rfl
theorem settle_not {p:List Pg} {i:Nat} {x:Pg} (h:p[i]? = some x) (hn:isPend p i=false) (c:Nat):x.settle c=x:=by
 unfold isPend at hn
 rw [h] at hn
 obtain ⟨a,b⟩:=x
 cases b with
 | none=>rfl
 | some n=>cases hn
theorem settled_succ {p:List Pg} {k i:Nat} (h:(pendOf p)[k]? = some i) (picks:List Int):settled p picks (k+1)=(settled p picks k).modify i (Pg.settle (pick picks k)):=by
 obtain ⟨hp,hr⟩:=rank_at h
 apply List.ext_getElem?
 intro j
 rw [List.getElem?_modify]
 cases hj:p[j]? with
 | none =>
   have hl:=List.getElem?_eq_none_iff.1 hj
   rw [List.getElem?_eq_none_iff.2 (by rw [settled_len];exact hl),List.getElem?_eq_none_iff.2 (by rw [settled_len];exact hl)];rfl
 | some x =>
   rw [settled_at hj,settled_at hj]
   by_cases e:i=j
   · subst e
     simp only [hr,if_true,Nat.lt_irrefl,if_false,show k<k+1 by omega]
     rfl
   · simp only [if_neg e]
     show some _=some _
     congr 1
     by_cases hjp:isPend p j=true
     · have hne:rank p j ≠ k:=fun e2=>e (rank_inj p hp hjp (hr.trans e2.symm))
       by_cases h1:rank p j<k
       · rw [if_pos h1,if_pos (by omega)]
       · rw [if_neg h1,if_neg (by omega)]
     · have hjp:isPend p j=false:=by simpa using hjp
       rw [settle_not hj hjp,ite_self,ite_self]
theorem settled_end_none {p:List Pg} (picks:List Int) {x:Pg} (hx:x∈settled p picks (pendOf p).length):x.2=none:=by
 obtain ⟨i,hi⟩:=List.getElem?_of_mem hx
 cases hj:p[i]? with
 | none =>
   have hl:=List.getElem?_eq_none_iff.1 hj
   rw [List.getElem?_eq_none_iff.2 (by rw [settled_len];exact hl)] at hi;cases hi
 | some y =>
   rw [settled_at hj] at hi
   by_cases hp:isPend p i=true
   · have hr:=(List.getElem?_eq_some_iff.1 (at_rank hp)).1
     rw [if_pos hr] at hi
     injection hi with hi
     rw [←hi];exact settle_none _ _
   · have hp:isPend p i=false:=by simpa using hp
     rw [settle_not hj hp,ite_self] at hi
     injection hi with hi
     subst hi
     unfold isPend at hp
     rw [hj] at hp
     cases h2:y.2 with
     | none=>rfl
     | some n=>rw [Option.bind_some,h2] at hp;cases hp
end
end Go.Proofs.Ytajhkncolbgkbaa
