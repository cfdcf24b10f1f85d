/- Reg, Base, Dec, Rel, RelG, RegT: joined by program, for one claim. -/
import Derived.Test.YtajhkncolbgkbaaDoorProg
import Derived.WalkKit
import Derived.Lib.QuietBelow
import Derived.StillTail
import Derived.BigQuiet
import Derived.WalkSpells
import Derived.WalkLawsBesides
import Derived.Lib.Hide
import Derived.Maps.AppendAt
import Derived.Deep.OwnRows
import Derived.Laws.BytesArg
import Derived.Laws.Rows
set_option linter.unusedVariables false
set_option linter.unusedSimpArgs false
namespace Go.Proofs.YtajhkncolbgkbaaDoor
section
open Go.Sort Go.RowKit
def backB (md:Region.Mode) (l:List Oper) (n:Nat):Bool :=
 (List.range n).all fun j=>match l[j]? with
  | some o=>(o.after.all fun e => !Region.binds md e || decide (e.on<j)) && (match o.guard with | some g=>decide (g.1<j) | none=>true)
  | none=>false
def tailB (md:Region.Mode) (l:List Oper) (n:Nat):Bool :=
 ((List.range n).all fun i=>Region.waitsFor md l.toArray n i) && (List.range l.length).all fun t=>decide (t≤n) || Region.waitsFor md l.toArray t (t - 1)
def headB (l:List Oper) (n:Nat):Bool :=
 decide (n<l.length) && backB .any l n && tailB .any l n && Region.lexB .any (l.take n).toArray && Region.seqB .any l.toArray (l.length - n) n (Array.replicate n true++Array.replicate (l.length - n) false)
section
variable {P:Program} {md:Region.Mode} {l:List Oper} {n:Nat} {C:World→Prop}
theorem take_get {j:Nat} (hj:j<n):(l.take n).toArray[j]? = l.toArray[j]? := by simp [hj]
theorem app_get {s:Array Bool} (hs:s.size=n) {g j:Nat} (hj:j<n) (d:Bool):(s++Array.replicate g false).getD j d=s.getD j d:=by
 have h1:j<s.size:=by omega
 simp [Array.getD_eq_getD_getElem?,Array.getElem?_append,h1]
theorem app_tail {s:Array Bool} (hs:s.size=n) {g j:Nat} (hj:n≤j):(s++Array.replicate g false).getD j false=false:=by
 have h1 : ¬j<s.size:=by omega
 simp only [Array.getD_eq_getD_getElem?,Array.getElem?_append,h1,if_false,Array.getElem?_replicate]
 split <;> rfl
theorem back_of {j:Nat} {o:Oper} (hb:backB md l n=true) (hj:j<n) (ho:l.toArray[j]? = some o) :
 (∀ e∈o.after,Region.binds md e=true→e.on<j) ∧ ∀ g,o.guard=some g→g.1<j:=by
 have h:=List.all_eq_true.1 hb j (List.mem_range.2 hj)
 have ho':l[j]? = some o:=by simpa using ho
 simp only [ho',Bool.and_eq_true,Array.all_eq_true'] at h
 refine ⟨fun e he hbi=>?_,fun g hg=>?_⟩
 · have:=h.1 e he
   simpa [hbi] using this
 · have:=h.2
   rw [hg] at this
   simpa using this
theorem ready_head {s:Array Bool} (hs:s.size=n) {g i:Nat} (hi:i<n) (hb:backB md l n=true) (h:i∈Region.ready md l.toArray (s++Array.replicate g false)):i∈Region.ready md (l.take n).toArray s:=by
 obtain ⟨h1,o,ho,h2⟩:=mem_ready.1 h
 rw [app_get hs hi] at h1
 refine mem_ready.2 ⟨h1,o,by rw [take_get hi];exact ho,fun e he hbi=>?_⟩
 have h3:=(back_of hb hi ho).1 e he hbi
 have:=h2 e he hbi
 rwa [app_get hs (by omega)] at this
theorem ready_not_tail {s:Array Bool} (hs:s.size=n) {g i k:Nat} (hk:k<n) (hun:s.getD k false=false) (ht:tailB md l n=true) (h:i∈Region.ready md l.toArray (s++Array.replicate g false)):i<n:=by
 obtain ⟨h1,o,ho,h2⟩:=mem_ready.1 h
 rcases Nat.lt_or_ge i n with hlt | hge
 · exact hlt
 · exfalso
   have hil:i<l.length:=by have:=(Array.getElem?_eq_some_iff.1 ho).1;simpa using this
   simp only [tailB,Bool.and_eq_true] at ht
   by_cases hin:i=n
   · subst hin
     have h3:=List.all_eq_true.1 ht.1 k (List.mem_range.2 hk)
     obtain ⟨o',ho',e,he,hbi,hon⟩:=Region.waitsFor_spec h3
     obtain rfl:o'=o:=Option.some.inj (ho'.symm.trans ho)
     have:=h2 e he hbi
     rw [hon,app_get hs hk,hun] at this
     cases this
   · have h3:=List.all_eq_true.1 ht.2 i (List.mem_range.2 hil)
     simp only [Bool.or_eq_true,decide_eq_true_eq] at h3
     rcases h3 with h3 | h3
     · omega
     · obtain ⟨o',ho',e,he,hbi,hon⟩:=Region.waitsFor_spec h3
       obtain rfl:o'=o:=Option.some.inj (ho'.symm.trans ho)
       have:=h2 e he hbi
       rw [hon,app_tail hs (by omega)] at this
       cases this
theorem ready_some {s:Array Bool} (hs:s.size=n) (hn:n≤l.length) {g:Nat} (hb:backB md l n=true) : ∀ (d k:Nat),k<d→k<n→s.getD k false=false → ∃ i,i∈Region.ready md l.toArray (s++Array.replicate g false)
 | 0,_,h,_,_=>by omega
 | d + 1, k, hd, hk, hun => by
   obtain ⟨o,ho⟩ : ∃ o,l.toArray[k]? = some o:=⟨_,Array.getElem?_eq_getElem (by simp;omega)⟩
   by_cases hall : ∀ e∈o.after,Region.binds md e=true→s.getD e.on false=true
   · refine ⟨k,mem_ready.2 ⟨?_,o,ho,fun e he hbi=>?_⟩⟩
     · rw [app_get hs hk];exact getD_in (by omega) hun
     · have:=(back_of hb hk ho).1 e he hbi
       rw [app_get hs (by omega)];exact hall e he hbi
   · have ⟨e,he,hbi,hne⟩ : ∃ e,e∈o.after∧Region.binds md e=true∧s.getD e.on false=false:=by
      refine Classical.byContradiction fun hno=>hall fun e he hbi=>?_
      cases hx:s.getD e.on false with
      | true=>rfl
      | false=>exact absurd ⟨e,he,hbi,hx⟩ hno
     have:=(back_of hb hk ho).1 e he hbi
     exact ready_some hs hn hb d e.on (by omega) (by omega) hne
theorem wanted_head {j:Nat} {o:Oper} {tmps:Array Value} (hb:backB md l n=true) (hj:j<n) (ho:l.toArray[j]? = some o) :
 Region.wanted o (yielded (l.take n).toArray tmps)=Region.wanted o (yielded l.toArray tmps):=by
 have hg:=(back_of hb hj ho).2
 unfold Region.wanted
 cases hgd:o.guard with
 | none=>rfl
 | some g =>
   have:=hg g hgd
   have hy:yielded (l.take n).toArray tmps g.1=yielded l.toArray tmps g.1:=by unfold yielded;rw [take_get (by omega)]
   obtain ⟨g1,g2⟩:=g
   simp only at hy ⊢
   rw [hy]
def unl (s:Array Bool):Nat:=s.toList.count false
theorem unl_set {s:Array Bool} {i:Nat} (hi:i<s.size) (h:s.getD i true=false):unl (s.setIfInBounds i true)+1=unl s:=by
 unfold unl
 have hx:s[i]=false:=by simpa [hi] using h
 have hmem:false∈s.toList:=by rw [←hx];exact Array.getElem_mem_toList hi
 have hpos:=List.count_pos_iff.2 hmem
 rw [Array.toList_setIfInBounds,List.count_set (by simpa using hi),Array.getElem_toList,hx]
 simp only [beq_self_eq_true,if_true]
 rw [if_neg (by decide)]
 omega
theorem unl_zero {s:Array Bool} (h:unl s=0):s=Array.replicate s.size true:=by
 apply Array.ext
 · simp
 · intro i h1 h2
   simp only [Array.getElem_replicate]
   cases hx:s[i] with
   | true=>rfl
   | false =>
     have:false∈s.toList:=by rw [←hx];exact Array.getElem_mem_toList h1
     have:=List.count_pos_iff.2 this
     unfold unl at h;omega
theorem unl_pos {s:Array Bool} (h:0<unl s) : ∃ k,k<s.size∧s.getD k false=false:=by
 have:=List.count_pos_iff.1 h
 obtain ⟨k,hk,hx⟩:=List.getElem_of_mem this
 refine ⟨k,by simpa using hk,?_⟩
 have hk':k<s.size:=by simpa using hk
 have:s[k]=false:=by simpa using hx
 simp [hk',this]
theorem app_set {s:Array Bool} {g i:Nat} (hi:i<s.size):(s++Array.replicate g false).setIfInBounds i true=s.setIfInBounds i true++Array.replicate g false:=by
 apply Array.ext_getElem?
 intro j
 simp only [Array.getElem?_setIfInBounds,Array.getElem?_append,Array.size_setIfInBounds,Array.size_append,Array.size_replicate]
 by_cases e:i=j
 · subst e;simp [hi];omega
 · simp [e]
theorem wpAny_of_headQ {Qa:Act→Prop} {Q:Exit→Act→World→Prop} {g:Nat} (hn:n≤l.length) (hb:backB md l n=true) (ht:tailB md l n=true)
 (hend : ∀ a w,C w→Qa a→wpAny P md l.toArray Q g (Array.replicate n true++Array.replicate g false) a w) :
 ∀ (f : Nat) (s : Array Bool) (a : Act) (w : World), s.size = n → unl s = f → C w → wpAnyQ P md (l.take n).toArray C Qa f s a →
   wpAny P md l.toArray Q (f+g) (s++Array.replicate g false) a w
 | 0, s, a, w, hs, hu, hw, h => by
   rw [Nat.zero_add,unl_zero hu,hs]
   exact hend a w hw h.2
 | f + 1, s, a, w, hs, hu, hw, h => by
   obtain ⟨k,hk,hun⟩:=unl_pos (s:=s) (by omega)
   rw [show f+1+g=(f+g)+1 by omega]
   refine ⟨fun h0=>?_,fun i hi=>?_⟩
   · obtain ⟨i,hi⟩:=ready_some (g:=g) hs hn hb (k+1) k (by omega) (by omega) hun
     rw [h0] at hi;cases hi
   · have hin:=ready_not_tail hs (by omega:k<n) hun ht hi
     have hr:=ready_head hs hin hb hi
     have hq:=h.2 i hr
     obtain ⟨hiu,o,ho,_⟩:=mem_ready.1 hr
     have ho':l.toArray[i]? = some o:=by rw [←take_get hin];exact ho
     have step : ∀ a' w',C w'→wpAnyQ P md (l.take n).toArray C Qa f (s.setIfInBounds i true) a'→wpAny P md l.toArray Q (f+g) ((s++Array.replicate g false).setIfInBounds i true) a' w':=by
      intro a' w' hw' h'
      rw [app_set (by omega)]
      refine wpAny_of_headQ hn hb ht hend f _ a' w' (by simpa using hs) ?_ hw' h'
      have:=unl_set (s:=s) (by omega) hiu
      omega
     have hq':qOp P l.toArray C i (wpAnyQ P md (l.take n).toArray C Qa f (s.setIfInBounds i true)) a:=by
      unfold qOp at hq ⊢
      simp only [ho] at hq
      simp only [ho']
      rwa [wanted_head hb hin ho'] at hq
     exact wpOp_of_qOp hw step hq'
theorem wp_region_head {id:Nat} {Q:Exit→Act→World→Prop} {a:Act} {w:World} (n:Nat) (hm:P.follows .mixedOrders=true) (hB:headB l n=true) (hC:C { w with drawn:=w.drawn+1 })
 (h:wpQuiet P (l.take n).toArray C (fun a' => ∀ w',C w'→wpList P l.toArray Q (l.drop n) a' w') (l.take n) a):(Code.region id l.toArray true).wp P Q a w:=by
 simp only [headB,Bool.and_eq_true,decide_eq_true_eq] at hB
 obtain ⟨⟨⟨⟨hn,hb⟩,ht⟩,hlex⟩,hseq⟩:=hB
 simp only [Region.lexB,Bool.and_eq_true] at hlex
 refine wp_region_any hm ?_
 have hsz:(l.take n).toArray.size=n:=by simp;omega
 have hq:=wpAnyQ_lex (P:=P) (C:=C) (md:=.any) hlex.1 (l.take n) 0 (Array.replicate n false) a (by simp) (by have:=hlex.2;rw [hsz] at this;simpa [show (l.take n).length=n by simp;omega] using this) h
 rw [show (l.take n).length=n by simp;omega] at hq
 have:=wpAny_of_headQ (g:=l.length - n) (Q:=Q) (md:=.any) (by omega) hb ht (fun a w hw hQa=>by
  have:=wpAny_of_seq (P:=P) (md:=.any) (ops:=l.toArray) (Q':=Q) (l.drop n) n (Array.replicate n true++Array.replicate (l.length - n) false) a w (fun j=>by simp [List.getElem?_drop]) (by simpa using hseq) (hQa w hw)
  simpa using this) n (Array.replicate n false) a _ (by simp) (by simp [unl]) hC hq
 have e:Array.replicate n false++Array.replicate (l.length - n) false=Array.replicate l.toArray.size false:=by
  rw [Array.replicate_append_replicate];congr 1;simp;omega
 rw [e,show n+(l.length - n)=l.toArray.size by simp;omega] at this
 exact this
theorem wp_region_head_below {id:Nat} {Q:Exit→Act→World→Prop} {a:Act} {w:World} (n:Nat) (hm:P.follows .mixedOrders=true) (hB:headB l n=true)
 (h:wpQuiet P (l.take n).toArray (fun w' => ∃ p:Regrown,w'=grow (redrawn w p.d) p.os) (fun a' => ∀ w',(∃ p:Regrown,w'=grow (redrawn w p.d) p.os)→wpList P l.toArray Q (l.drop n) a' w') (l.take n) a) :
 (Code.region id l.toArray true).wp P Q a w :=
 wp_region_head (C:=fun w' => ∃ p:Regrown,w'=grow (redrawn w p.d) p.os) n hm hB ⟨⟨w.drawn+1,#[]⟩,by rw [grow_empty];rfl⟩ h
end
end
section
open Go.RowKit
structure Bx (p:Prop):Prop where
 out:p
theorem ret_bool {a b:Bool} (h:a=b):Ending.returned (.bool a)=Ending.returned (.bool b):=by rw [h]
theorem cell_new (w:World) (v:Value) (t:TypeId):(w.alloc (.cells #[v] t)).cell? ⟨w.heap.size,0,none⟩=some v:=by
 simp
theorem size_setCell (w:World) (a:Addr) (u:Value):(w.setCell a u).heap.size=w.heap.size:=by simp [World.setCell]
theorem cells_new (w:World) (C:Array Value) (t:TypeId) (i:Nat) (v:Value) (h:C[i]? = some v):(w.alloc (.cells C t)).cell? ⟨w.heap.size,i,none⟩=some v:=by
 unfold World.cell?; rw [heap_alloc_new];simpa using h
theorem frozen_new (w:World) (C:Array Value) (t:TypeId) (i:Nat):(w.alloc (.cells C t)).frozen? ⟨w.heap.size,i,none⟩=false:=by
 unfold World.frozen?; rw [heap_alloc_new];simp
theorem le_alloc {B:Nat} {w:World} (h:B≤w.heap.size) (o:Obj):B≤(w.alloc o).heap.size:=by
 simp;omega
def Sl (w:World) (k:IntKind) (a:Option Addr) (xs:List Int):Prop :=
 ∀ i x,xs[i]? = some x → ∃ b off,a=some ⟨b,off,none⟩∧w.cell? ⟨b,off+i,none⟩=some (.int k x)
theorem Sl.nil (w:World) (k:IntKind) (a:Option Addr):Sl w k a []:=fun i x h=>by simp at h
theorem Sl.below {w w':World} {k:IntKind} {a:Option Addr} {xs:List Int} (h:Sl w k a xs) (hb:Below w.heap.size w w'):Sl w' k a xs:=by
 intro i x hx
 obtain ⟨b,off,rfl,hc⟩:=h i x hx
 exact ⟨b,off,rfl,cell_later hb hc⟩
theorem Sl.drewN {w:World} {k:IntKind} {a:Option Addr} {xs:List Int} (h:Sl w k a xs) (n:Nat):Sl (w.drewN n) k a xs:=h
theorem Sl.drew {w:World} {k:IntKind} {a:Option Addr} {xs:List Int} (h:Sl w k a xs):Sl w.drew k a xs:=h
@[simp,go_sem] theorem Sl.drewN_iff {w:World} {k:IntKind} {a:Option Addr} {xs:List Int} (n:Nat):Sl (w.drewN n) k a xs ↔ Sl w k a xs:=Iff.rfl
@[simp,go_sem] theorem Sl.drew_iff {w:World} {k:IntKind} {a:Option Addr} {xs:List Int}:Sl w.drew k a xs ↔ Sl w k a xs:=Iff.rfl
def Own (w:World) (B:Nat) (e:TypeId) (k:IntKind) (v:Value) (xs:List Int):Prop:=w.ownsRow B e 1 v xs.length (xs.map (Value.int k))
theorem Own.nil (w:World) (B:Nat) (e:TypeId) (k:IntKind):Own w B e k (.slice none 0 0) []:=World.ownsRow_nil w B e 1
theorem Own.form {w:World} {B:Nat} {e:TypeId} {k:IntKind} {v:Value} {xs:List Int} (h:Own w B e k v xs) :
 ∃ a cap,v = .slice a xs.length cap∧Sl w k a xs:=by
 rcases h.2 with ⟨rfl,hn⟩ | ⟨g,cap,cur,rfl,hb,hg,hnc,hcm,hcs,ht⟩
 · have hx:xs=[]:=List.eq_nil_of_length_eq_zero hn
   subst hx
   exact ⟨none,0,rfl,Sl.nil _ _ _⟩
 · refine ⟨_,cap,rfl,fun i x hx=>⟨g,0,rfl,?_⟩⟩
   have hi:i<xs.length:=(List.getElem?_eq_some_iff.1 hx).1
   have hcell:w.cell? ⟨g,i,none⟩=cur[i]? := by simp [World.cell?,hg]
   rw [Nat.zero_add,hcell]
   have h1:(xs.map (Value.int k))[i]? = some (.int k x):=by rw [List.getElem?_map,hx];rfl
   rw [←ht,List.getElem?_take,if_pos (by omega)] at h1
   simpa using h1
theorem Own.sl {w:World} {B:Nat} {e:TypeId} {k:IntKind} {a:Option Addr} {n c:Nat} {xs:List Int} (h:Own w B e k (.slice a n c) xs):Sl w k a xs:=by
 obtain ⟨a',c',he,hs⟩:=h.form
 injection he with h1 h2 h3
 subst h1;exact hs
theorem Own.lt {w:World} {B:Nat} {e:TypeId} {k:IntKind} {v:Value} {xs:List Int} (h:Own w B e k v xs) : ∀ g,v.ownBlock=some g→B≤g∧g<w.heap.size:=World.ownsRow.lt h
theorem Own.below {w w':World} {B:Nat} {e:TypeId} {k:IntKind} {v:Value} {xs:List Int} (h:Own w B e k v xs) (hb:Below w.heap.size w w'):Own w' B e k v xs :=
 World.ownsRow.kept (row:=none) h ⟨hb.os,hb.tape,hb.output,hb.size,fun i hi _=>hb.block i hi⟩ (by cases v.ownBlock <;> simp)
theorem Own.alloc {w:World} {B:Nat} {e:TypeId} {k:IntKind} {v:Value} {xs:List Int} (h:Own w B e k v xs) (o:Obj):Own (w.alloc o) B e k v xs:=World.ownsRow.alloc h o
theorem Own.base {w:World} {B B':Nat} {e:TypeId} {k:IntKind} {v:Value} {xs:List Int} (h:Own w B e k v xs) (hB:B'≤B):Own w B' e k v xs:=by
 refine ⟨h.1,h.2.imp id ?_⟩
 rintro ⟨g,cap,cur,h1,h2,h3⟩
 exact ⟨g,cap,cur,h1,Nat.le_trans hB h2,h3⟩
theorem Own.drew {w:World} {B:Nat} {e:TypeId} {k:IntKind} {v:Value} {xs:List Int} (h:Own w B e k v xs):Own w.drew B e k v xs:=h
theorem Own.drewN {w:World} {B:Nat} {e:TypeId} {k:IntKind} {v:Value} {xs:List Int} (h:Own w B e k v xs) (n:Nat):Own (w.drewN n) B e k v xs:=h
theorem Own.grown {w w':World} {B:Nat} {e:TypeId} {k:IntKind} {v:Value} {xs:List Int} (h:Own w B e k v xs) {row:Option Nat} (hg:w.grownBy w' row) (hne:v.ownBlock=none∨v.ownBlock ≠ row):Own w' B e k v xs :=
 World.ownsRow.kept h hg hne
theorem wpList_append_int {P:Program} {w:World} {ops:Array Oper} {rest:List Oper} {o:Oper} {a:Act} {Q:Exit→Act→World→Prop} (hgd:o.guard=none) (s x:Operand) (t:TypeId)
 (ho:o.op = .call { callee:=.builtin .append,args:=#[s,x],argTypes:=#[t,t] })
 (e:TypeId) (k:IntKind) (z:Value) (bytes:Nat) (hbz:bytes≤8) (ht:P.underlying t=some (.slice e))
 (hi:(P.info? e).map (fun i=>(i.zero,i.size,i.bytes))=some (some z,1,bytes)) (hzs:z.cells.size=1)
 (B:Nat) (v:Value) (xs:List Int) (hs:a.eval s=v) (hown:Own w B e k v xs) (n:Int)
 (ad:Addr) (c:Nat) (hx:a.eval x = .slice (some ad) 1 c) (hcell:w.cell? ad=some (.int k n)) (hlen:xs.length≤1000000000) (hbase:B≤w.heap.size)
 (h : ∀ v' w',Own w' B e k v' (xs++[n])→w.grownBy w' v.ownBlock→(v'.ownBlock=v.ownBlock∨v'.ownBlock=some w.heap.size)→wpList P ops Q rest (a.put o.dst v') w') :
 wpList P ops Q (o::rest) a w:=by
 obtain ⟨i0,hi0,hz0,hz1,hz2⟩:=info_parts hi
 refine wpList_plain hgd fun K hK=>?_
 have hnews : ∀ j u,[Value.int k n][j]? = some u→w.cell? (ad.add j)=some u:=by
  intro j u hu
  match j with
  | 0=>simp at hu;subst hu;simpa [Addr.add] using hcell
  | j+1=>simp at hu
 obtain ⟨v',w',hr,h2,h3,_,h4⟩:=run_append_own_at (P:=P) w B t o.type e i0 z 1 bytes ht hi0 hz0 hz1 hz2 hzs (by omega) v xs.length _ hown ad 1 c [Value.int k n] rfl hnews (by simp [Value.oneCell'])
  (by simp only [maxLen];omega) (by have:(xs.length+1) * bytes≤(xs.length+1) * 8:=Nat.mul_le_mul_left _ hbz;omega) hbase
 unfold Oper.wp execOp
 simp only [ho,resolve,invoke,builtin,Sem.run_bind,Sem.run_pure,Result.andThen_ok,List.map_toArray,List.map_cons,List.map_nil,hs,hx,hr]
 exact hK _ _ (h v' w' (by unfold Own;simpa using h2) h3 h4)
theorem Own.ofRow {w:World} {B b:Nat} {e:TypeId} {k:IntKind} {n:Nat} {F:Nat→Int} {xs:List Int} (h:w.rowIs b e n (fun j=>.int k (F j))) (hb:B≤b) (hn:n≤maxLen) (hx:xs=(List.range n).map F) :
 Own w B e k (.slice (some ⟨b,0,none⟩) n n) xs:=by
 subst hx
 obtain ⟨c,hc,hcs,hg⟩:=h
 refine ⟨by simp,.inr ⟨b,n,c,by simp,hb,hc,by simp,hn,by simp [hcs],?_⟩⟩
 apply List.ext_getElem?
 intro i
 simp only [List.length_map,List.length_range,Nat.mul_one,List.getElem?_take,List.getElem?_map,List.map_map]
 by_cases hi:i<n
 · have:=hg i hi
   simp [hi]
   exact this
 · simp [hi]
theorem Own.at {w:World} {B:Nat} {e:TypeId} {k:IntKind} {v:Value} {xs:List Int} (h:Own w B e k v xs) (hne:0<xs.length) :
 ∃ g cap, v = .slice (some ⟨g, 0, none⟩) xs.length cap ∧ B ≤ g ∧ g < w.heap.size ∧ (∀ i x, xs[i]? = some x → w.cell? ⟨g, i, none⟩ = some (.int k x)) ∧ (∀ i, w.frozen? ⟨g, i, none⟩ = false) ∧
   ∀ i x,Own (w.setCell ⟨g,i,none⟩ (.int k x)) B e k (.slice (some ⟨g,0,none⟩) xs.length cap) (xs.set i x):=by
 obtain ⟨a,cap,rfl,hsl⟩:=h.form
 rcases h.2 with ⟨hv,hn⟩ | ⟨g,cap',cur,hv,hb,hg,hrest⟩
 · omega
 · injection hv with h1 h2 h3
   subst h1 h3
   refine ⟨g,cap,rfl,hb,(Array.getElem?_eq_some_iff.1 hg).1,fun i x hx=>?_,fun i=>World.ownsRow.frozenAt h i,fun i x=>?_⟩
   · obtain ⟨b,off,hbo,hc⟩:=hsl i x hx
     simp only [Option.some.injEq,Addr.mk.injEq] at hbo
     obtain ⟨rfl,rfl,_⟩:=hbo
     simpa using hc
   · have:=World.ownsRow.stored h i (.int k x)
     unfold Own
     rw [List.length_set,List.map_set];exact this.1
theorem Own.lit (w:World) (B:Nat) (e:TypeId) (k:IntKind) (cs:Array Value) (xs:List Int) (n:Nat) (hb:B≤w.heap.size) (hn:n≤maxLen) (hx:xs.length=n) (h:cs=(xs.map (Value.int k)).toArray) :
 Own (w.alloc (.cells cs e)) B e k (.slice (some ⟨w.heap.size,0,none⟩) n n) xs:=by
 subst h hx
 have:=World.ownsRow_lit (e:=e) (size:=1) w (xs.map (Value.int k)).toArray xs.length hb hn (by simp)
 simpa [Own] using this
theorem conv_str {P:Program} {w:World} (src e dst:TypeId) (hs:P.underlying src=some (.slice e)) (he:P.underlying e=some (.int .u8)) (hd:P.underlying dst=some .string) {a:Option Addr} {xs:List Int} (h:Sl w .u8 a xs) (n cap:Nat) (hn:n=xs.length) :
 (convert src dst (.slice a n cap)).run P w = .ok (.string (strOfNums xs)) w:=by
 subst hn
 cases xs with
 | nil =>
   cases a with
   | none=>exact run_convert_bytes_nil w src e hs he _ _ dst hd
   | some a =>
     have:=run_convert_bytes_string (P:=P) w src dst e (some a) 0 cap hs he hd
     simp only [List.length_nil]
     rw [this,run_bytesToString w a 0 cap [] (by simp [loadCells,loadCellsFrom])]
     rfl
 | cons x l =>
   obtain ⟨b,off,rfl,h0⟩:=h 0 x rfl
   refine run_convert_bytes_arg w src e hs he b off _ cap (x::l) rfl (fun i hi=>?_) dst hd
   obtain ⟨b',off',e',hc⟩:=h i _ (List.getElem?_eq_getElem hi)
   simp only [Option.some.injEq,Addr.mk.injEq] at e'
   obtain ⟨rfl,rfl,_⟩:=e'
   rw [hc];simp [List.getD,List.getElem?_eq_getElem hi]
def Bk (w:World) (g:Nat) (cs:Array Value) (t:TypeId):Prop:=w.heap[g]? = some (.cells cs t (0,0))
theorem blk_new (w:World) (o:Obj) (n:Nat) (h:n=w.heap.size):(w.alloc o).heap[n]? = some o:=by subst h;exact heap_alloc_new w o
theorem blk_old {w:World} {o x:Obj} {n:Nat} (h:w.heap[n]? = some x):(w.alloc o).heap[n]? = some x:=by
 rw [Below.heap_alloc w o n (Array.getElem?_eq_some_iff.1 h).1];exact h
theorem Bk.lt {w:World} {g:Nat} {cs:Array Value} {t:TypeId} (h:Bk w g cs t):g<w.heap.size:=(Array.getElem?_eq_some_iff.1 h).1
theorem Bk.cell {w:World} {g:Nat} {cs:Array Value} {t:TypeId} (h:Bk w g cs t) (j:Nat) {v:Value} (hv:cs[j]? = some v):w.cell? ⟨g,j,none⟩=some v:=by
 rw [cell_of_row w g j cs t (0,0) h];exact hv
theorem Bk.frozen {w:World} {g:Nat} {cs:Array Value} {t:TypeId} (h:Bk w g cs t) (j:Nat):w.frozen? ⟨g,j,none⟩=false:=frozen_of_row w g j cs t h
theorem Bk.later {w w':World} {g:Nat} {cs:Array Value} {t:TypeId} (h:Bk w g cs t) (hb:Below w.heap.size w w'):Bk w' g cs t:=by
 unfold Bk;rw [hb.block g h.lt];exact h
theorem Bk.new (w:World) (cs:Array Value) (t:TypeId):Bk (w.alloc (.cells cs t)) w.heap.size cs t:=heap_alloc_new w _
theorem Bk.alloc {w:World} {g:Nat} {cs:Array Value} {t:TypeId} (h:Bk w g cs t) (o:Obj):Bk (w.alloc o) g cs t:=blk_old h
theorem Bk.drew {w:World} {g:Nat} {cs:Array Value} {t:TypeId} (h:Bk w g cs t):Bk w.drew g cs t:=h
theorem Bk.set {w:World} {g:Nat} {cs:Array Value} {t:TypeId} (h:Bk w g cs t) (j:Nat) (v:Value):Bk (w.setCell ⟨g,j,none⟩ v) g (cs.setIfInBounds j v) t:=heap_setCell_same w g j cs t v h
theorem Bk.other {w:World} {g:Nat} {cs:Array Value} {t:TypeId} (h:Bk w g cs t) (a:Addr) (v:Value) (hne:g ≠ a.block):Bk (w.setCell a v) g cs t:=by
 unfold Bk;rw [heap_setCell_other w a g v hne];exact h
end
section
open Go.Sort Go.RowKit
@[go_sem] def Oper.calmUpon (P : Program) (w : World) (v : Value) : Result Next → Prop
  | .ok (.value u) w'=>w'=w∧u=v
  | .ok .skip w'=>w'=w∧v=undef
  | .ok (.enter f args) w'=>w'=w∧Calls P f args w (fun e w''=>e = .returned v∧Below w.heap.size w w'')
  | _=>False
def puts (L:List (Option Tmp × Value)) (a:Act):Act:=L.foldl (fun a p=>a.put p.1 p.2) a
theorem put_size (a:Act) (d:Option Tmp) (v:Value):(a.put d v).tmps.size=a.tmps.size:=by cases d <;> simp [Act.put]
theorem put_defers (a:Act) (d:Option Tmp) (v:Value):(a.put d v).defers=a.defers:=by cases d <;> simp [Act.put]
theorem put_same {a:Act} {d:Tmp} (v:Value) (h:d<a.tmps.size):(a.put (some d) v).tmps[d]? = some v:=by simp [Act.put,h]
theorem put_other {a:Act} {d:Option Tmp} {x:Tmp} (v:Value) (h:d ≠ some x):(a.put d v).tmps[x]? = a.tmps[x]? := by
 cases d with
 | none=>rfl
 | some d=>simp only [Act.put];rw [Array.getElem?_setIfInBounds_ne (fun e=>h (by rw [e]))]
theorem puts_size : ∀ (L:List (Option Tmp × Value)) (a:Act),(puts L a).tmps.size=a.tmps.size∧(puts L a).defers=a.defers
 | [],_=>⟨rfl,rfl⟩
 | p :: L, a => by
   obtain ⟨h1,h2⟩:=puts_size L (a.put p.1 p.2)
   rw [put_size] at h1;rw [put_defers] at h2
   exact ⟨h1,h2⟩
theorem puts_out : ∀ (L:List (Option Tmp × Value)) (a:Act) (x:Tmp),(∀ p∈L,p.1 ≠ some x)→(puts L a).tmps[x]? = a.tmps[x]?
 | [],_,_,_=>rfl
 | p :: L, a, x, h => by
   show (puts L (a.put p.1 p.2)).tmps[x]? = _
   rw [puts_out L _ x (fun q hq=>h q (List.mem_cons_of_mem _ hq)),put_other _ (h p (by simp))]
theorem puts_in : ∀ (L:List (Option Tmp × Value)) (a:Act) (x:Tmp) (v:Value),x<a.tmps.size→L.Pairwise (fun p q => ∀ d,p.1=some d→q.1 ≠ some d)→(some x,v)∈L→(puts L a).tmps[x]? = some v
 | [],_,_,_,_,_,h=>by simp at h
 | p :: L, a, x, v, hx, hp, h => by
   show (puts L (a.put p.1 p.2)).tmps[x]? = _
   rw [List.pairwise_cons] at hp
   rcases List.mem_cons.1 h with rfl | h
   · rw [puts_out L _ x (fun q hq=>hp.1 q hq x rfl),put_same _ hx]
   · exact puts_in L _ x v (by rw [put_size];exact hx) hp.2 h
theorem act_ext {a b:Act} (h1:a.defers=b.defers) (h2 : ∀ x:Nat,a.tmps[x]? = b.tmps[x]?):a=b:=by
 obtain ⟨at',ad⟩:=a
 obtain ⟨bt,bd⟩:=b
 simp only at h1 h2
 rw [h1,Array.ext_getElem? h2]
def dstAt (l:List Oper) (i:Nat):Option Tmp:=(l[i]?).bind (·.dst)
section
variable {P:Program} {l:List Oper} {n k:Nat} {sl u:Nat→Tmp} {T:Nat→TypeId} {z vs:Nat→Array Value} {W:World} {a:Act} {hv:List Value}
theorem getD_set_self {s:Array Bool} {i:Nat} (h:i<s.size):(s.setIfInBounds i true).getD i false=true:=by simp [Array.getD_eq_getD_getElem?,h]
theorem waits_listed {s:Array Bool} {i j:Nat} (h:Region.waitsFor .any l.toArray i j=true) (hr:i∈Region.ready .any l.toArray s):s.getD j false=true:=by
 obtain ⟨o,ho,e,he,hb,hon⟩:=Region.waitsFor_spec h
 obtain ⟨_,o',ho',hall⟩:=mem_ready.1 hr
 obtain rfl:o=o':=Option.some.inj (ho.symm.trans ho')
 have:=hall e he hb
 rwa [hon] at this
theorem eval_tmp {a b:Act} {d:Tmp} (h:a.tmps[d]? = b.tmps[d]?):a.eval (.tmp d)=b.eval (.tmp d):=by
 simp only [Act.eval,Array.getD_eq_getD_getElem?,h]
def dstB (l:List Oper) (m:Nat):Bool:=l.all fun o=>match o.dst with | some d=>decide (d<m) | none=>true
theorem dstB_spec {m:Nat} (h:dstB l m=true) {i d:Nat} (hd:dstAt l i=some d):d<m:=by
 unfold dstAt at hd
 cases ho:l[i]? with
 | none=>simp [ho] at hd
 | some o =>
   simp only [ho,Option.bind_some] at hd
   have:=List.all_eq_true.1 h o (List.mem_of_getElem? ho)
   simpa [hd] using this
end
end
section
open Go.Sort Go.RowKit
@[go_sem] def relUpon (P : Program) (w : World) (R : Value → World → Prop) : Result Next → Prop
  | .ok (.value u) w'=>Below w.heap.size w w'∧R u w'
  | .ok (.enter f args) w'=>w'=w∧Calls P f args w (fun e w'' => ∃ v,e = .returned v∧Below w.heap.size w w''∧R v w'')
  | _=>False
def maker (l:List Oper) (n:Nat) (d:Tmp):Option Nat:=(List.range n).find? fun j=>decide (dstAt l j=some d)
def Known (l:List Oper) (n:Nat) (R:Nat→Value→World→Prop) (a:Act) (d:Tmp) (v:Value) (w:World):Prop :=
 match maker l n d with
 | some j=>R j v w
 | none=>v=a.eval (.tmp d)
def relB (l:List Oper) (n:Nat):Bool :=
 Region.noSelect l.toArray &&
 ((List.range n).all fun i => match l[i]? with
   | some o => o.guard.isNone && o.dst.isSome && o.op.operands.toList.all fun x => match x with
     | .tmp d=>(List.range n).all fun j => !decide (dstAt l j=some d) || (decide (j<i) && Region.waitsFor .any l.toArray i j)
     | _=>true
   | none=>false) &&
 ((List.range n).all fun i=>(List.range n).all fun j=>decide (i=j) || !decide (dstAt l i=dstAt l j))
structure RelB (l:List Oper) (n:Nat):Prop where
 nosel:Region.noSelect l.toArray=true
 guard : ∀ i o,i<n→l[i]? = some o→o.guard=none
 dst : ∀ i o,i<n→l[i]? = some o → ∃ d,o.dst=some d
 data : ∀ i o d j,i<n→l[i]? = some o → .tmp d∈o.op.operands→j<n→dstAt l j=some d→j<i∧Region.waitsFor .any l.toArray i j=true
 dist : ∀ i j d,i<n→j<n→i ≠ j→dstAt l i=some d→dstAt l j ≠ some d
theorem relB_spec {l:List Oper} {n:Nat} (h:relB l n=true):RelB l n:=by
 simp only [relB,Bool.and_eq_true] at h
 obtain ⟨⟨h3,h4⟩,h5⟩:=h
 refine ⟨h3,fun i o hi ho=>?_,fun i o hi ho=>?_,fun i o d j hi ho hd hj hdj=>?_,fun i j d hi hj hne hdi hdj=>?_⟩
 · have:=List.all_eq_true.1 h4 i (List.mem_range.2 hi)
   simp only [ho,Bool.and_eq_true,Option.isNone_iff_eq_none] at this
   exact this.1.1
 · have:=List.all_eq_true.1 h4 i (List.mem_range.2 hi)
   simp only [ho,Bool.and_eq_true] at this
   exact Option.isSome_iff_exists.1 this.1.2
 · have:=List.all_eq_true.1 h4 i (List.mem_range.2 hi)
   simp only [ho,Bool.and_eq_true] at this
   have:=List.all_eq_true.1 this.2 (.tmp d) (by simpa using hd)
   have:=List.all_eq_true.1 this j (List.mem_range.2 hj)
   simpa [hdj] using this
 · have:=List.all_eq_true.1 (List.all_eq_true.1 h5 i (List.mem_range.2 hi)) j (List.mem_range.2 hj)
   simp [hne,hdi,hdj] at this
def Firm (R:Value→World→Prop):Prop := ∀ v w w',Below w.heap.size w w'→R v w→R v w'
structure RI (l:List Oper) (n:Nat) (R:Nat→Value→World→Prop) (W:World) (a:Act) (s:Array Bool) (a':Act) (w':World):Prop where
 tsize:a'.tmps.size=a.tmps.size
 defers:a'.defers=a.defers
 old : ∀ x:Nat,(∀ i,i<n→s.getD i false=true→dstAt l i ≠ some x)→a'.tmps[x]? = a.tmps[x]?
 head : ∀ i d,i<n→s.getD i false=true→dstAt l i=some d → ∃ v,a'.tmps[d]? = some v∧R i v w'
 below:Below W.heap.size W w'
section
variable {P:Program} {l:List Oper} {n:Nat} {R:Nat→Value→World→Prop} {W:World} {a:Act}
theorem maker_spec {d:Tmp} {j:Nat} (h:maker l n d=some j):j<n∧dstAt l j=some d:=by
 unfold maker at h
 exact ⟨List.mem_range.1 (List.mem_of_find?_eq_some h),by simpa using List.find?_some h⟩
theorem maker_none {d:Tmp} (h:maker l n d=none) : ∀ j,j<n→dstAt l j ≠ some d:=by
 unfold maker at h
 intro j hj e
 have:=List.find?_eq_none.1 h j (List.mem_range.2 hj)
 simp [e] at this
theorem ri_step (B:RelB l n) (hf : ∀ i,i<n→Firm (R i)) (hd : ∀ i d,i<n→dstAt l i=some d→d<a.tmps.size)
 (hop : ∀ i o,i<n→l[i]? = some o → ∀ (ρ:Operand→Value) w,Below W.heap.size W w→(∀ v,ρ (.const v)=v)→(∀ g,ρ (.global g) = .pointer (some ⟨g,0,none⟩))→(∀ f,ρ (.func f) = .func (.func f) #[] #[]) →
  (∀ d,.tmp d∈o.op.operands→Known l n R a d (ρ (.tmp d)) w)→relUpon P w (R i) ((execOp ρ o).run P w))
 {Q:Exit→Act→World→Prop} {s:Array Bool} (hs:s.size=n) {a':Act} {w':World} (I:RI l n R W a s a' w') {i:Nat} (hin:i<n) (hr:i∈Region.ready .any l.toArray (s++Array.replicate (l.length - n) false)) (hun:s.getD i true=false) :
 wpOp P l.toArray Q i (fun a'' w''=>RI l n R W a (s.setIfInBounds i true) a'' w'') a' w':=by
 obtain ⟨_,o,ho,hall⟩:=mem_ready.1 hr
 have hol:l[i]? = some o:=by simpa using ho
 have hdo:dstAt l i=o.dst:=by simp [dstAt,hol]
 obtain ⟨di,hdi⟩:=B.dst i o hin hol
 have hself:=getD_set_self (s:=s) (i:=i) (by omega)
 have hnew : ∀ j,j ≠ i→(s.setIfInBounds i true).getD j false=s.getD j false:=fun j hj=>getD_set_ne false (Ne.symm hj)
 unfold wpOp
 simp only [ho]
 have hw:Region.wanted o (yielded l.toArray a'.tmps)=true:=by simp [Region.wanted,B.guard i o hin hol]
 rw [if_pos hw]
 left
 have hk : ∀ d,.tmp d∈o.op.operands→Known l n R a d (a'.eval (.tmp d)) w':=by
  intro d hd'
  unfold Known
  cases hm:maker l n d with
  | some j =>
    obtain ⟨hj,hdj⟩:=maker_spec hm
    obtain ⟨hji,hwt⟩:=B.data i o d j hin hol hd' hj hdj
    have hlj:=waits_listed hwt hr
    rw [app_get hs hj] at hlj
    obtain ⟨v,h1,h2⟩:=I.head j d hj hlj hdj
    have:a'.eval (.tmp d)=v:=by simp [Act.eval,Array.getD_eq_getD_getElem?,h1]
    rw [this];exact h2
  | none=>exact eval_tmp (I.old d fun j hj _ e=>maker_none hm j hj e)
 have hrun:=hop i o hin hol a'.eval w' I.below (fun _=>rfl) (fun _=>rfl) (fun _=>rfl) hk
 have post : ∀ v w'',Below w'.heap.size w' w''→R i v w''→RI l n R W a (s.setIfInBounds i true) (a'.put o.dst v) w'':=by
  intro v w'' hb hR
  refine ⟨by rw [put_size,I.tsize],by rw [put_defers,I.defers],fun x hx=>?_,fun j d hj hs' hdj=>?_,I.below.trans (hb.mono I.below.size)⟩
  · rw [put_other v (fun e=>hx i hin hself (by rw [hdo];exact e))]
    refine I.old x fun j hj hs'=>hx j hj ?_
    by_cases e:j=i
    · subst e;exact hself
    · rw [hnew j e];exact hs'
  · by_cases e:j=i
    · subst e
      rw [hdo] at hdj
      rw [hdj,put_same v (by rw [I.tsize];exact hd j d hin (by rw [hdo];exact hdj))]
      exact ⟨v,rfl,hR⟩
    · rw [hnew j e] at hs'
      obtain ⟨u,h1,h2⟩:=I.head j d hj hs' hdj
      rw [put_other v (fun e'=>B.dist j i d hj hin e hdj (by rw [hdo];exact e'))]
      exact ⟨u,h1,hf j hj u w' w'' hb h2⟩
 unfold Oper.wp
 generalize (execOp a'.eval o).run P w'=r at hrun
 cases r with
 | ok nx w'' =>
   cases nx <;> simp only [relUpon] at hrun <;> simp only [Oper.upon]
   case value u=>exact post _ _ hrun.1 hrun.2
   case enter f args =>
    obtain ⟨rfl,hc⟩:=hrun
    refine hc.mono fun e w3 ⟨v,he,hb,hR⟩=>?_
    subst he
    exact post _ _ hb hR
 | halt x w''=>simp only [relUpon] at hrun
end
end
section
open Go.Sort Go.RowKit
@[go_sem] def relUponG (Le : World → World → Prop) (P : Program) (w : World) (R : Value → World → Prop) : Result Next → Prop
  | .ok (.value u) w'=>Le w w'∧R u w'
  | .ok (.enter f args) w'=>w'=w∧Calls P f args w (fun e w'' => ∃ v,e = .returned v∧Le w w''∧R v w'')
  | _=>False
structure LeW (Le:World→World→Prop):Prop where
 trans : ∀ {a b c:World},Le a b→Le b c→Le a c
 drew : ∀ (w:World) (n:Nat),Le w { w with drawn:=n }
def FirmG (Le:World→World→Prop) (R:Value→World→Prop):Prop := ∀ v w w',Le w w'→R v w→R v w'
structure RIG (Le:World→World→Prop) (l:List Oper) (n:Nat) (R:Nat→Value→World→Prop) (W:World) (a:Act) (s:Array Bool) (a':Act) (w':World):Prop where
 tsize:a'.tmps.size=a.tmps.size
 defers:a'.defers=a.defers
 old : ∀ x:Nat,(∀ i,i<n→s.getD i false=true→dstAt l i ≠ some x)→a'.tmps[x]? = a.tmps[x]?
 head : ∀ i d,i<n→s.getD i false=true→dstAt l i=some d → ∃ v,a'.tmps[d]? = some v∧R i v w'
 below:Le W w'
section
variable {P:Program} {l:List Oper} {n:Nat} {R:Nat→Value→World→Prop} {W:World} {a:Act} {Le:World→World→Prop}
theorem riG_step (LE:LeW Le) (B:RelB l n) (hf : ∀ i,i<n→FirmG Le (R i)) (hd : ∀ i d,i<n→dstAt l i=some d→d<a.tmps.size)
 (hop : ∀ i o,i<n→l[i]? = some o → ∀ (ρ:Operand→Value) w,Le W w→(∀ v,ρ (.const v)=v)→(∀ g,ρ (.global g) = .pointer (some ⟨g,0,none⟩))→(∀ f,ρ (.func f) = .func (.func f) #[] #[]) →
  (∀ d,.tmp d∈o.op.operands→Known l n R a d (ρ (.tmp d)) w)→relUponG Le P w (R i) ((execOp ρ o).run P w))
 {Q:Exit→Act→World→Prop} {s:Array Bool} (hs:s.size=n) {a':Act} {w':World} (I:RIG Le l n R W a s a' w') {i:Nat} (hin:i<n) (hr:i∈Region.ready .any l.toArray (s++Array.replicate (l.length - n) false)) (hun:s.getD i true=false) :
 wpOp P l.toArray Q i (fun a'' w''=>RIG Le l n R W a (s.setIfInBounds i true) a'' w'') a' w':=by
 obtain ⟨_,o,ho,hall⟩:=mem_ready.1 hr
 have hol:l[i]? = some o:=by simpa using ho
 have hdo:dstAt l i=o.dst:=by simp [dstAt,hol]
 obtain ⟨di,hdi⟩:=B.dst i o hin hol
 have hself:=getD_set_self (s:=s) (i:=i) (by omega)
 have hnew : ∀ j,j ≠ i→(s.setIfInBounds i true).getD j false=s.getD j false:=fun j hj=>getD_set_ne false (Ne.symm hj)
 unfold wpOp
 simp only [ho]
 have hw:Region.wanted o (yielded l.toArray a'.tmps)=true:=by simp [Region.wanted,B.guard i o hin hol]
 rw [if_pos hw]
 left
 have hk : ∀ d,.tmp d∈o.op.operands→Known l n R a d (a'.eval (.tmp d)) w':=by
  intro d hd'
  unfold Known
  cases hm:maker l n d with
  | some j =>
    obtain ⟨hj,hdj⟩:=maker_spec hm
    obtain ⟨hji,hwt⟩:=B.data i o d j hin hol hd' hj hdj
    have hlj:=waits_listed hwt hr
    rw [app_get hs hj] at hlj
    obtain ⟨v,h1,h2⟩:=I.head j d hj hlj hdj
    have:a'.eval (.tmp d)=v:=by simp [Act.eval,Array.getD_eq_getD_getElem?,h1]
    rw [this];exact h2
  | none=>exact eval_tmp (I.old d fun j hj _ e=>maker_none hm j hj e)
 have hrun:=hop i o hin hol a'.eval w' I.below (fun _=>rfl) (fun _=>rfl) (fun _=>rfl) hk
 have post : ∀ v w'',Le w' w''→R i v w''→RIG Le l n R W a (s.setIfInBounds i true) (a'.put o.dst v) w'':=by
  intro v w'' hb hR
  refine ⟨by rw [put_size,I.tsize],by rw [put_defers,I.defers],fun x hx=>?_,fun j d hj hs' hdj=>?_,LE.trans I.below hb⟩
  · rw [put_other v (fun e=>hx i hin hself (by rw [hdo];exact e))]
    refine I.old x fun j hj hs'=>hx j hj ?_
    by_cases e:j=i
    · subst e;exact hself
    · rw [hnew j e];exact hs'
  · by_cases e:j=i
    · subst e
      rw [hdo] at hdj
      rw [hdj,put_same v (by rw [I.tsize];exact hd j d hin (by rw [hdo];exact hdj))]
      exact ⟨v,rfl,hR⟩
    · rw [hnew j e] at hs'
      obtain ⟨u,h1,h2⟩:=I.head j d hj hs' hdj
      rw [put_other v (fun e'=>B.dist j i d hj hin e hdj (by rw [hdo];exact e'))]
      exact ⟨u,h1,hf j hj u w' w'' hb h2⟩
 unfold Oper.wp
 generalize (execOp a'.eval o).run P w'=r at hrun
 cases r with
 | ok nx w'' =>
   cases nx <;> simp only [relUponG] at hrun <;> simp only [Oper.upon]
   case value u=>exact post _ _ hrun.1 hrun.2
   case enter f args =>
    obtain ⟨rfl,hc⟩:=hrun
    refine hc.mono fun e w3 ⟨v,he,hb,hR⟩=>?_
    subst he
    exact post _ _ hb hR
 | halt x w''=>simp only [relUponG] at hrun
end
end
section
open Go.Sort Go.RowKit
def tailT (md:Region.Mode) (l:List Oper) (n:Nat):Bool :=
 ((List.range n).all fun k=>Region.waitsFor md l.toArray n k || (List.range n).any fun m=>decide (k<m) && Region.waitsFor md l.toArray m k) && (List.range l.length).all fun t=>decide (t≤n) || Region.waitsFor md l.toArray t (t - 1)
section
variable {P:Program} {md:Region.Mode} {l:List Oper} {n:Nat} {C:World→Prop}
def Shut (md:Region.Mode) (l:List Oper) (s:Array Bool):Prop := ∀ m k,s.getD m false=true→Region.waitsFor md l.toArray m k=true→s.getD k false=true
theorem not_first {s:Array Bool} (hs:s.size=n) {g:Nat} (hsh:Shut md l s) (ht:tailT md l n=true) (h:n∈Region.ready md l.toArray (s++Array.replicate g false)) : ∀ (d k:Nat),n - k≤d→k<n→s.getD k false=false→False
 | 0,k,h1,h2,_=>by omega
 | d + 1, k, hd, hk, hun => by
   obtain ⟨h1,o,ho,h2⟩:=mem_ready.1 h
   have ht':=ht
   simp only [tailT,Bool.and_eq_true] at ht'
   have h3:=List.all_eq_true.1 ht'.1 k (List.mem_range.2 hk)
   simp only [Bool.or_eq_true] at h3
   rcases h3 with h3 | h3
   · obtain ⟨o',ho',e,he,hbi,hon⟩:=Region.waitsFor_spec h3
     obtain rfl:o'=o:=Option.some.inj (ho'.symm.trans ho)
     have:=h2 e he hbi
     rw [hon,app_get hs hk,hun] at this
     cases this
   · obtain ⟨m,hm,h4⟩:=List.any_eq_true.1 h3
     simp only [Bool.and_eq_true,decide_eq_true_eq] at h4
     have hmn:=List.mem_range.1 hm
     refine not_first hs hsh ht h d m (by omega) hmn ?_
     cases hx:s.getD m false with
     | false=>rfl
     | true=>have:=hsh m k hx h4.2;rw [hun] at this;cases this
theorem ready_not_tailT {s:Array Bool} (hs:s.size=n) (hsh:Shut md l s) {g i k:Nat} (hk:k<n) (hun:s.getD k false=false) (ht:tailT md l n=true) (h:i∈Region.ready md l.toArray (s++Array.replicate g false)):i<n:=by
 obtain ⟨h1,o,ho,h2⟩:=mem_ready.1 h
 rcases Nat.lt_or_ge i n with hlt | hge
 · exact hlt
 · exfalso
   have hil:i<l.length:=by have:=(Array.getElem?_eq_some_iff.1 ho).1;simpa using this
   by_cases hin:i=n
   · subst hin
     exact not_first hs hsh ht h (i - k) k (Nat.le_refl _) hk hun
   · have ht':=ht
     simp only [tailT,Bool.and_eq_true] at ht'
     have h3:=List.all_eq_true.1 ht'.2 i (List.mem_range.2 hil)
     simp only [Bool.or_eq_true,decide_eq_true_eq] at h3
     rcases h3 with h3 | h3
     · omega
     · obtain ⟨o',ho',e,he,hbi,hon⟩:=Region.waitsFor_spec h3
       obtain rfl:o'=o:=Option.some.inj (ho'.symm.trans ho)
       have:=h2 e he hbi
       rw [hon,app_tail hs (by omega)] at this
       cases this
theorem shut_set {s:Array Bool} {i:Nat} (hsh:Shut md l s) (hi:i∈Region.ready md (l.take n).toArray s) (hin:i<n):Shut md l (s.setIfInBounds i true):=by
 intro m k hm hw
 have keep : ∀ j,s.getD j false=true→(s.setIfInBounds i true).getD j false=true:=by
  intro j hj
  simp only [Array.getD_eq_getD_getElem?,Array.getElem?_setIfInBounds] at hj ⊢
  split
  · split
    · rfl
    · rename_i h;rw [Array.getElem?_eq_none (by omega)] at hj;exact hj
  · exact hj
 by_cases e:i=m
 · subst e
   obtain ⟨_,o,ho,h2⟩:=mem_ready.1 hi
   obtain ⟨o',ho',e,he,hbi,hon⟩:=Region.waitsFor_spec hw
   rw [take_get hin] at ho
   obtain rfl:o'=o:=Option.some.inj (ho'.symm.trans ho)
   exact keep k (hon ▸ h2 e he hbi)
 · refine keep k (hsh m k ?_ hw)
   simpa [Array.getD_eq_getD_getElem?,Array.getElem?_setIfInBounds,e] using hm
end
end
section
open Go.RowKit
theorem Bk.c2 {w:World} {g:Nat} {x0 x1:Value} {r:List Value} {t:TypeId} (h:Bk w g (x0::x1::r).toArray t):w.cell? ⟨g,0,none⟩=some x0∧w.cell? ⟨g,1,none⟩=some x1 :=
 ⟨h.cell 0 rfl,h.cell 1 rfl⟩
theorem Bk.f2 {w:World} {g:Nat} {cs:Array Value} {t:TypeId} (h:Bk w g cs t):w.frozen? ⟨g,0,none⟩=false∧w.frozen? ⟨g,1,none⟩=false :=
 ⟨h.frozen 0,h.frozen 1⟩
theorem Bk.c3 {w:World} {g:Nat} {x0 x1 x2:Value} {r:List Value} {t:TypeId} (h:Bk w g (x0::x1::x2::r).toArray t):w.cell? ⟨g,0,none⟩=some x0∧w.cell? ⟨g,1,none⟩=some x1∧w.cell? ⟨g,2,none⟩=some x2 :=
 ⟨h.cell 0 rfl,h.cell 1 rfl,h.cell 2 rfl⟩
theorem Bk.f3 {w:World} {g:Nat} {cs:Array Value} {t:TypeId} (h:Bk w g cs t):w.frozen? ⟨g,0,none⟩=false∧w.frozen? ⟨g,1,none⟩=false∧w.frozen? ⟨g,2,none⟩=false :=
 ⟨h.frozen 0,h.frozen 1,h.frozen 2⟩
theorem Bk.c4 {w:World} {g:Nat} {x0 x1 x2 x3:Value} {r:List Value} {t:TypeId} (h:Bk w g (x0::x1::x2::x3::r).toArray t):w.cell? ⟨g,0,none⟩=some x0∧w.cell? ⟨g,1,none⟩=some x1∧w.cell? ⟨g,2,none⟩=some x2∧w.cell? ⟨g,3,none⟩=some x3 :=
 ⟨h.cell 0 rfl,h.cell 1 rfl,h.cell 2 rfl,h.cell 3 rfl⟩
theorem Bk.f4 {w:World} {g:Nat} {cs:Array Value} {t:TypeId} (h:Bk w g cs t):w.frozen? ⟨g,0,none⟩=false∧w.frozen? ⟨g,1,none⟩=false∧w.frozen? ⟨g,2,none⟩=false∧w.frozen? ⟨g,3,none⟩=false :=
 ⟨h.frozen 0,h.frozen 1,h.frozen 2,h.frozen 3⟩
theorem Bk.c5 {w:World} {g:Nat} {x0 x1 x2 x3 x4:Value} {r:List Value} {t:TypeId} (h:Bk w g (x0::x1::x2::x3::x4::r).toArray t):w.cell? ⟨g,0,none⟩=some x0∧w.cell? ⟨g,1,none⟩=some x1∧w.cell? ⟨g,2,none⟩=some x2∧w.cell? ⟨g,3,none⟩=some x3∧w.cell? ⟨g,4,none⟩=some x4 :=
 ⟨h.cell 0 rfl,h.cell 1 rfl,h.cell 2 rfl,h.cell 3 rfl,h.cell 4 rfl⟩
theorem Bk.f5 {w:World} {g:Nat} {cs:Array Value} {t:TypeId} (h:Bk w g cs t):w.frozen? ⟨g,0,none⟩=false∧w.frozen? ⟨g,1,none⟩=false∧w.frozen? ⟨g,2,none⟩=false∧w.frozen? ⟨g,3,none⟩=false∧w.frozen? ⟨g,4,none⟩=false :=
 ⟨h.frozen 0,h.frozen 1,h.frozen 2,h.frozen 3,h.frozen 4⟩
theorem Bk.c6 {w:World} {g:Nat} {x0 x1 x2 x3 x4 x5:Value} {r:List Value} {t:TypeId} (h:Bk w g (x0::x1::x2::x3::x4::x5::r).toArray t):w.cell? ⟨g,0,none⟩=some x0∧w.cell? ⟨g,1,none⟩=some x1∧w.cell? ⟨g,2,none⟩=some x2∧w.cell? ⟨g,3,none⟩=some x3∧w.cell? ⟨g,4,none⟩=some x4∧w.cell? ⟨g,5,none⟩=some x5 :=
 ⟨h.cell 0 rfl,h.cell 1 rfl,h.cell 2 rfl,h.cell 3 rfl,h.cell 4 rfl,h.cell 5 rfl⟩
theorem Bk.f6 {w:World} {g:Nat} {cs:Array Value} {t:TypeId} (h:Bk w g cs t):w.frozen? ⟨g,0,none⟩=false∧w.frozen? ⟨g,1,none⟩=false∧w.frozen? ⟨g,2,none⟩=false∧w.frozen? ⟨g,3,none⟩=false∧w.frozen? ⟨g,4,none⟩=false∧w.frozen? ⟨g,5,none⟩=false :=
 ⟨h.frozen 0,h.frozen 1,h.frozen 2,h.frozen 3,h.frozen 4,h.frozen 5⟩
theorem Bk.c7 {w:World} {g:Nat} {x0 x1 x2 x3 x4 x5 x6:Value} {r:List Value} {t:TypeId} (h:Bk w g (x0::x1::x2::x3::x4::x5::x6::r).toArray t):w.cell? ⟨g,0,none⟩=some x0∧w.cell? ⟨g,1,none⟩=some x1∧w.cell? ⟨g,2,none⟩=some x2∧w.cell? ⟨g,3,none⟩=some x3∧w.cell? ⟨g,4,none⟩=some x4∧w.cell? ⟨g,5,none⟩=some x5∧w.cell? ⟨g,6,none⟩=some x6 :=
 ⟨h.cell 0 rfl,h.cell 1 rfl,h.cell 2 rfl,h.cell 3 rfl,h.cell 4 rfl,h.cell 5 rfl,h.cell 6 rfl⟩
theorem Bk.f7 {w:World} {g:Nat} {cs:Array Value} {t:TypeId} (h:Bk w g cs t):w.frozen? ⟨g,0,none⟩=false∧w.frozen? ⟨g,1,none⟩=false∧w.frozen? ⟨g,2,none⟩=false∧w.frozen? ⟨g,3,none⟩=false∧w.frozen? ⟨g,4,none⟩=false∧w.frozen? ⟨g,5,none⟩=false∧w.frozen? ⟨g,6,none⟩=false :=
 ⟨h.frozen 0,h.frozen 1,h.frozen 2,h.frozen 3,h.frozen 4,h.frozen 5,h.frozen 6⟩
theorem Bk.c8 {w:World} {g:Nat} {x0 x1 x2 x3 x4 x5 x6 x7:Value} {r:List Value} {t:TypeId} (h:Bk w g (x0::x1::x2::x3::x4::x5::x6::x7::r).toArray t):w.cell? ⟨g,0,none⟩=some x0∧w.cell? ⟨g,1,none⟩=some x1∧w.cell? ⟨g,2,none⟩=some x2∧w.cell? ⟨g,3,none⟩=some x3∧w.cell? ⟨g,4,none⟩=some x4∧w.cell? ⟨g,5,none⟩=some x5∧w.cell? ⟨g,6,none⟩=some x6∧w.cell? ⟨g,7,none⟩=some x7 :=
 ⟨h.cell 0 rfl,h.cell 1 rfl,h.cell 2 rfl,h.cell 3 rfl,h.cell 4 rfl,h.cell 5 rfl,h.cell 6 rfl,h.cell 7 rfl⟩
theorem Bk.f8 {w:World} {g:Nat} {cs:Array Value} {t:TypeId} (h:Bk w g cs t):w.frozen? ⟨g,0,none⟩=false∧w.frozen? ⟨g,1,none⟩=false∧w.frozen? ⟨g,2,none⟩=false∧w.frozen? ⟨g,3,none⟩=false∧w.frozen? ⟨g,4,none⟩=false∧w.frozen? ⟨g,5,none⟩=false∧w.frozen? ⟨g,6,none⟩=false∧w.frozen? ⟨g,7,none⟩=false :=
 ⟨h.frozen 0,h.frozen 1,h.frozen 2,h.frozen 3,h.frozen 4,h.frozen 5,h.frozen 6,h.frozen 7⟩
theorem Bk.c12 {w:World} {g:Nat} {x0 x1 x2 x3 x4 x5 x6 x7 x8 x9 x10 x11:Value} {r:List Value} {t:TypeId} (h:Bk w g (x0::x1::x2::x3::x4::x5::x6::x7::x8::x9::x10::x11::r).toArray t):w.cell? ⟨g,0,none⟩=some x0∧w.cell? ⟨g,1,none⟩=some x1∧w.cell? ⟨g,2,none⟩=some x2∧w.cell? ⟨g,3,none⟩=some x3∧w.cell? ⟨g,4,none⟩=some x4∧w.cell? ⟨g,5,none⟩=some x5∧w.cell? ⟨g,6,none⟩=some x6∧w.cell? ⟨g,7,none⟩=some x7∧w.cell? ⟨g,8,none⟩=some x8∧w.cell? ⟨g,9,none⟩=some x9∧w.cell? ⟨g,10,none⟩=some x10∧w.cell? ⟨g,11,none⟩=some x11 :=
 ⟨h.cell 0 rfl,h.cell 1 rfl,h.cell 2 rfl,h.cell 3 rfl,h.cell 4 rfl,h.cell 5 rfl,h.cell 6 rfl,h.cell 7 rfl,h.cell 8 rfl,h.cell 9 rfl,h.cell 10 rfl,h.cell 11 rfl⟩
theorem Bk.f12 {w:World} {g:Nat} {cs:Array Value} {t:TypeId} (h:Bk w g cs t):w.frozen? ⟨g,0,none⟩=false∧w.frozen? ⟨g,1,none⟩=false∧w.frozen? ⟨g,2,none⟩=false∧w.frozen? ⟨g,3,none⟩=false∧w.frozen? ⟨g,4,none⟩=false∧w.frozen? ⟨g,5,none⟩=false∧w.frozen? ⟨g,6,none⟩=false∧w.frozen? ⟨g,7,none⟩=false∧w.frozen? ⟨g,8,none⟩=false∧w.frozen? ⟨g,9,none⟩=false∧w.frozen? ⟨g,10,none⟩=false∧w.frozen? ⟨g,11,none⟩=false :=
 ⟨h.frozen 0,h.frozen 1,h.frozen 2,h.frozen 3,h.frozen 4,h.frozen 5,h.frozen 6,h.frozen 7,h.frozen 8,h.frozen 9,h.frozen 10,h.frozen 11⟩
end
end Go.Proofs.YtajhkncolbgkbaaDoor
section
namespace Go.Proofs.YtajhkncolbgkbaaDoor
open Go.RowKit
instance : Coe Int Value := ⟨Value.int .i64⟩
theorem bl1 {w W : World} {o : Obj} (hW : World.alloc w o = W) : Below w.heap.size w W := by rw [← hW]; exact (Below.refl _ _).alloc (Nat.le_refl _) _
theorem bl2 {w W : World} {o p : Obj} (hW : World.alloc (World.alloc w o) p = W) : Below w.heap.size w W := by rw [← hW]; exact ((Below.refl _ _).alloc (Nat.le_refl _) _).alloc (by simp) _
theorem bl3 {w W : World} {o p q : Obj} (hW : World.alloc (World.alloc (World.alloc w o) p) q = W) : Below w.heap.size w W := by rw [← hW]; exact (((Below.refl _ _).alloc (Nat.le_refl _) _).alloc (by simp) _).alloc (by simp; omega) _
theorem sz1 {w W : World} {o : Obj} (hW : World.alloc w o = W) : w.heap.size + 1 ≤ W.heap.size := by rw [← hW]; simp
theorem sz2 {w W : World} {o p : Obj} (hW : World.alloc (World.alloc w o) p = W) : w.heap.size + 1 + 1 ≤ W.heap.size := by rw [← hW]; simp
theorem sz3 {w W : World} {o p q : Obj} (hW : World.alloc (World.alloc (World.alloc w o) p) q = W) : w.heap.size + 1 + 1 + 1 ≤ W.heap.size := by rw [← hW]; simp
theorem bk0 {w W : World} {o : Obj} {n : Nat} (hW : World.alloc w o = W) (h : n = w.heap.size := by simp) : W.heap[n]? = some o := by rw [← hW]; exact blk_new _ _ _ h
theorem bk1 {w W : World} {o p : Obj} {n : Nat} (hW : World.alloc (World.alloc w o) p = W) (h : n = w.heap.size := by simp) : W.heap[n]? = some o := by rw [← hW]; exact blk_old (blk_new _ _ _ h)
theorem bk2 {w W : World} {o p q : Obj} {n : Nat} (hW : World.alloc (World.alloc (World.alloc w o) p) q = W) (h : n = w.heap.size := by simp) : W.heap[n]? = some o := by rw [← hW]; exact blk_old (blk_old (blk_new _ _ _ h))
end Go.Proofs.YtajhkncolbgkbaaDoor
end
