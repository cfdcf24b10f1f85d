/- Reg, Store, Store2, Dec, Rel, MakeN, Bit, Out, Inn, RegT, Sl, Brk, Pla, Paste, Lines, Geo, Crop, Bld, Bld2, Prt, Pcb: joined by program, for one claim. -/
import Derived.Test.YtajhkncolbgkbaaDoorProg
import Derived.WalkKit
import Derived.Lib.QuietBelow
import Derived.StillTail
import Derived.BigQuiet
import Derived.Test.YtajhkncolbgkbaaDoorM1
import Derived.Deep.Cut
import Derived.Maps.AppendAt
import Derived.Deep.RegionLaw
import Derived.Deep.RegionHeld3
import Derived.Deep.DrawnRows
import Derived.Deep.AppendLies
import Derived.Laws.BitsLemmas
import Derived.IntWalk
import Derived.WalkLawsBesides
import Derived.WalkSpells
import Derived.Laws.StructEq
import Derived.ChangeKeysEq
import Derived.Deep.QuietTactic
import Derived.Deep.LoopGhost
import Derived.Laws.IdiomStrings
import Derived.Laws.CopyOwn
import Derived.Laws.BitsAllLaws
import Derived.Lib.SliceRun
import Derived.Laws.EntriesVeiled
set_option linter.unusedVariables false
set_option linter.unusedSimpArgs false
section
namespace Go.Proofs.YtajhkncolbgkbaaDoor
open Go.Sort Go.RowKit
def backB (md:Region.Mode) (l:List Oper) (n:Nat):Bool :=
 (List.range n).all fun j=>match l[j]? with
  | some o=>(o.after.all fun e => !Region.binds md e || decide (e.on<j)) && (match o.guard with | some g=>decide (g.1<j) | none=>true)
  | none=>false
def tailB (md:Region.Mode) (l:List Oper) (n:Nat):Bool :=
 ((List.range n).all fun i=>Region.waitsFor md l.toArray n i) && (List.range l.length).all fun t=>decide (t≤n) || Region.waitsFor md l.toArray t (t - 1)
def headB (l:List Oper) (n:Nat):Bool :=
 decide (n<l.length) && backB .any l n && tailB .any l n && Region.lexB .any (l.take n).toArray && Region.seqB .any l.toArray (l.length - n) n (Array.replicate n true++Array.replicate (l.length - n) false)
section
variable {P:Program} {md:Region.Mode} {l:List Oper} {n:Nat} {C:World→Prop}
theorem take_get {j:Nat} (hj:j<n):(l.take n).toArray[j]? = l.toArray[j]? := by simp [hj]
theorem app_get {s:Array Bool} (hs:s.size=n) {g j:Nat} (hj:j<n) (d:Bool):(s++Array.replicate g false).getD j d=s.getD j d:=by
 have h1:j<s.size:=by omega
 simp [Array.getD_eq_getD_getElem?,Array.getElem?_append,h1]
theorem app_tail {s:Array Bool} (hs:s.size=n) {g j:Nat} (hj:n≤j):(s++Array.replicate g false).getD j false=false:=by
 have h1 : ¬j<s.size:=by omega
 simp only [Array.getD_eq_getD_getElem?,Array.getElem?_append,h1,if_false,Array.getElem?_replicate]
 split <;> rfl
theorem back_of {j:Nat} {o:Oper} (hb:backB md l n=true) (hj:j<n) (ho:l.toArray[j]? = some o) :
 (∀ e∈o.after,Region.binds md e=true→e.on<j) ∧ ∀ g,o.guard=some g→g.1<j:=by
 have h:=List.all_eq_true.1 hb j (List.mem_range.2 hj)
 have ho':l[j]? = some o:=by simpa using ho
 simp only [ho',Bool.and_eq_true,Array.all_eq_true'] at h
 refine ⟨fun e he hbi=>?_,fun g hg=>?_⟩
 · have:=h.1 e he
   simpa [hbi] using this
 · have:=h.2
   rw [hg] at this
   simpa using this
theorem ready_head {s:Array Bool} (hs:s.size=n) {g i:Nat} (hi:i<n) (hb:backB md l n=true) (h:i∈Region.ready md l.toArray (s++Array.replicate g false)):i∈Region.ready md (l.take n).toArray s:=by
 obtain ⟨h1,o,ho,h2⟩:=mem_ready.1 h
 rw [app_get hs hi] at h1
 refine mem_ready.2 ⟨h1,o,by rw [take_get hi];exact ho,fun e he hbi=>?_⟩
 have h3:=(back_of hb hi ho).1 e he hbi
 have:=h2 e he hbi
 rwa [app_get hs (by omega)] at this
theorem ready_not_tail {s:Array Bool} (hs:s.size=n) {g i k:Nat} (hk:k<n) (hun:s.getD k false=false) (ht:tailB md l n=true) (h:i∈Region.ready md l.toArray (s++Array.replicate g false)):i<n:=by
 obtain ⟨h1,o,ho,h2⟩:=mem_ready.1 h
 rcases Nat.lt_or_ge i n with hlt | hge
 · exact hlt
 · exfalso
   have hil:i<l.length:=by have:=(Array.getElem?_eq_some_iff.1 ho).1;simpa using this
   simp only [tailB,Bool.and_eq_true] at ht
   by_cases hin:i=n
   · subst hin
     have h3:=List.all_eq_true.1 ht.1 k (List.mem_range.2 hk)
     obtain ⟨o',ho',e,he,hbi,hon⟩:=Region.waitsFor_spec h3
     obtain rfl:o'=o:=Option.some.inj (ho'.symm.trans ho)
     have:=h2 e he hbi
     rw [hon,app_get hs hk,hun] at this
     cases this
   · have h3:=List.all_eq_true.1 ht.2 i (List.mem_range.2 hil)
     simp only [Bool.or_eq_true,decide_eq_true_eq] at h3
     rcases h3 with h3 | h3
     · omega
     · obtain ⟨o',ho',e,he,hbi,hon⟩:=Region.waitsFor_spec h3
       obtain rfl:o'=o:=Option.some.inj (ho'.symm.trans ho)
       have:=h2 e he hbi
       rw [hon,app_tail hs (by omega)] at this
       cases this
theorem ready_some {s:Array Bool} (hs:s.size=n) (hn:n≤l.length) {g:Nat} (hb:backB md l n=true) : ∀ (d k:Nat),k<d→k<n→s.getD k false=false → ∃ i,i∈Region.ready md l.toArray (s++Array.replicate g false)
 | 0,_,h,_,_=>by omega
 | d + 1, k, hd, hk, hun => by
   obtain ⟨o,ho⟩ : ∃ o,l.toArray[k]? = some o:=⟨_,Array.getElem?_eq_getElem (by simp;omega)⟩
   by_cases hall : ∀ e∈o.after,Region.binds md e=true→s.getD e.on false=true
   · refine ⟨k,mem_ready.2 ⟨?_,o,ho,fun e he hbi=>?_⟩⟩
     · rw [app_get hs hk];exact getD_in (by omega) hun
     · have:=(back_of hb hk ho).1 e he hbi
       rw [app_get hs (by omega)];exact hall e he hbi
   · have ⟨e,he,hbi,hne⟩ : ∃ e,e∈o.after∧Region.binds md e=true∧s.getD e.on false=false:=by
      refine Classical.byContradiction fun hno=>hall fun e he hbi=>?_
      cases hx:s.getD e.on false with
      | true=>rfl
      | false=>exact absurd ⟨e,he,hbi,hx⟩ hno
     have:=(back_of hb hk ho).1 e he hbi
     exact ready_some hs hn hb d e.on (by omega) (by omega) hne
theorem wanted_head {j:Nat} {o:Oper} {tmps:Array Value} (hb:backB md l n=true) (hj:j<n) (ho:l.toArray[j]? = some o) :
 Region.wanted o (yielded (l.take n).toArray tmps)=Region.wanted o (yielded l.toArray tmps):=by
 have hg:=(back_of hb hj ho).2
 unfold Region.wanted
 cases hgd:o.guard with
 | none=>rfl
 | some g =>
   have:=hg g hgd
   have hy:yielded (l.take n).toArray tmps g.1=yielded l.toArray tmps g.1:=by unfold yielded;rw [take_get (by omega)]
   obtain ⟨g1,g2⟩:=g
   simp only at hy ⊢
   rw [hy]
def unl (s:Array Bool):Nat:=s.toList.count false
theorem unl_set {s:Array Bool} {i:Nat} (hi:i<s.size) (h:s.getD i true=false):unl (s.setIfInBounds i true)+1=unl s:=by
 unfold unl
 have hx:s[i]=false:=by simpa [hi] using h
 have hmem:false∈s.toList:=by rw [←hx];exact Array.getElem_mem_toList hi
 have hpos:=List.count_pos_iff.2 hmem
 rw [Array.toList_setIfInBounds,List.count_set (by simpa using hi),Array.getElem_toList,hx]
 simp only [beq_self_eq_true,if_true]
 rw [if_neg (by decide)]
 omega
theorem unl_zero {s:Array Bool} (h:unl s=0):s=Array.replicate s.size true:=by
 apply Array.ext
 · simp
 · intro i h1 h2
   simp only [Array.getElem_replicate]
   cases hx:s[i] with
   | true=>rfl
   | false =>
     have:false∈s.toList:=by rw [←hx];exact Array.getElem_mem_toList h1
     have:=List.count_pos_iff.2 this
     unfold unl at h;omega
theorem unl_pos {s:Array Bool} (h:0<unl s) : ∃ k,k<s.size∧s.getD k false=false:=by
 have:=List.count_pos_iff.1 h
 obtain ⟨k,hk,hx⟩:=List.getElem_of_mem this
 refine ⟨k,by simpa using hk,?_⟩
 have hk':k<s.size:=by simpa using hk
 have:s[k]=false:=by simpa using hx
 simp [hk',this]
theorem app_set {s:Array Bool} {g i:Nat} (hi:i<s.size):(s++Array.replicate g false).setIfInBounds i true=s.setIfInBounds i true++Array.replicate g false:=by
 apply Array.ext_getElem?
 intro j
 simp only [Array.getElem?_setIfInBounds,Array.getElem?_append,Array.size_setIfInBounds,Array.size_append,Array.size_replicate]
 by_cases e:i=j
 · subst e;simp [hi];omega
 · simp [e]
theorem wpAny_of_headQ {Qa:Act→Prop} {Q:Exit→Act→World→Prop} {g:Nat} (hn:n≤l.length) (hb:backB md l n=true) (ht:tailB md l n=true)
 (hend : ∀ a w,C w→Qa a→wpAny P md l.toArray Q g (Array.replicate n true++Array.replicate g false) a w) :
 ∀ (f : Nat) (s : Array Bool) (a : Act) (w : World), s.size = n → unl s = f → C w → wpAnyQ P md (l.take n).toArray C Qa f s a →
   wpAny P md l.toArray Q (f+g) (s++Array.replicate g false) a w
 | 0, s, a, w, hs, hu, hw, h => by
   rw [Nat.zero_add,unl_zero hu,hs]
   exact hend a w hw h.2
 | f + 1, s, a, w, hs, hu, hw, h => by
   obtain ⟨k,hk,hun⟩:=unl_pos (s:=s) (by omega)
   rw [show f+1+g=(f+g)+1 by omega]
   refine ⟨fun h0=>?_,fun i hi=>?_⟩
   · obtain ⟨i,hi⟩:=ready_some (g:=g) hs hn hb (k+1) k (by omega) (by omega) hun
     rw [h0] at hi;cases hi
   · have hin:=ready_not_tail hs (by omega:k<n) hun ht hi
     have hr:=ready_head hs hin hb hi
     have hq:=h.2 i hr
     obtain ⟨hiu,o,ho,_⟩:=mem_ready.1 hr
     have ho':l.toArray[i]? = some o:=by rw [←take_get hin];exact ho
     have step : ∀ a' w',C w'→wpAnyQ P md (l.take n).toArray C Qa f (s.setIfInBounds i true) a'→wpAny P md l.toArray Q (f+g) ((s++Array.replicate g false).setIfInBounds i true) a' w':=by
      intro a' w' hw' h'
      rw [app_set (by omega)]
      refine wpAny_of_headQ hn hb ht hend f _ a' w' (by simpa using hs) ?_ hw' h'
      have:=unl_set (s:=s) (by omega) hiu
      omega
     have hq':qOp P l.toArray C i (wpAnyQ P md (l.take n).toArray C Qa f (s.setIfInBounds i true)) a:=by
      unfold qOp at hq ⊢
      simp only [ho] at hq
      simp only [ho']
      rwa [wanted_head hb hin ho'] at hq
     exact wpOp_of_qOp hw step hq'
theorem wp_region_head {id:Nat} {Q:Exit→Act→World→Prop} {a:Act} {w:World} (n:Nat) (hm:P.follows .mixedOrders=true) (hB:headB l n=true) (hC:C { w with drawn:=w.drawn+1 })
 (h:wpQuiet P (l.take n).toArray C (fun a' => ∀ w',C w'→wpList P l.toArray Q (l.drop n) a' w') (l.take n) a):(Code.region id l.toArray true).wp P Q a w:=by
 simp only [headB,Bool.and_eq_true,decide_eq_true_eq] at hB
 obtain ⟨⟨⟨⟨hn,hb⟩,ht⟩,hlex⟩,hseq⟩:=hB
 simp only [Region.lexB,Bool.and_eq_true] at hlex
 refine wp_region_any hm ?_
 have hsz:(l.take n).toArray.size=n:=by simp;omega
 have hq:=wpAnyQ_lex (P:=P) (C:=C) (md:=.any) hlex.1 (l.take n) 0 (Array.replicate n false) a (by simp) (by have:=hlex.2;rw [hsz] at this;simpa [show (l.take n).length=n by simp;omega] using this) h
 rw [show (l.take n).length=n by simp;omega] at hq
 have:=wpAny_of_headQ (g:=l.length - n) (Q:=Q) (md:=.any) (by omega) hb ht (fun a w hw hQa=>by
  have:=wpAny_of_seq (P:=P) (md:=.any) (ops:=l.toArray) (Q':=Q) (l.drop n) n (Array.replicate n true++Array.replicate (l.length - n) false) a w (fun j=>by simp [List.getElem?_drop]) (by simpa using hseq) (hQa w hw)
  simpa using this) n (Array.replicate n false) a _ (by simp) (by simp [unl]) hC hq
 have e:Array.replicate n false++Array.replicate (l.length - n) false=Array.replicate l.toArray.size false:=by
  rw [Array.replicate_append_replicate];congr 1;simp;omega
 rw [e,show n+(l.length - n)=l.toArray.size by simp;omega] at this
 exact this
theorem wp_region_head_below {id:Nat} {Q:Exit→Act→World→Prop} {a:Act} {w:World} (n:Nat) (hm:P.follows .mixedOrders=true) (hB:headB l n=true)
 (h:wpQuiet P (l.take n).toArray (fun w' => ∃ p:Regrown,w'=grow (redrawn w p.d) p.os) (fun a' => ∀ w',(∃ p:Regrown,w'=grow (redrawn w p.d) p.os)→wpList P l.toArray Q (l.drop n) a' w') (l.take n) a) :
 (Code.region id l.toArray true).wp P Q a w :=
 wp_region_head (C:=fun w' => ∃ p:Regrown,w'=grow (redrawn w p.d) p.os) n hm hB ⟨⟨w.drawn+1,#[]⟩,by rw [grow_empty];rfl⟩ h
end
end Go.Proofs.YtajhkncolbgkbaaDoor
end
section
namespace Go.Proofs.YtajhkncolbgkbaaDoor
open Go.RowKit Go.Sort Go.Maps
open Oct
def Leans (ts:List Tr) (t:Tr):Prop := ∀ d ch,t = .node d ch → ∀ i,ch i∈ts
structure Bytes (t:Tr):Prop where
 bricks : ∀ l,t = .brick l→l.length=64 ∧ ∀ x∈l,0≤x∧x≤255
 unis : ∀ c,t = .uni c→0≤c∧c≤255
 nodes : ∀ d ch,t = .node d ch→d≤255
theorem Bytes.uni {c:Int} (h:0≤c∧c≤255):Bytes (.uni c):=⟨fun l e=>(by cases e),fun c' e=>(by injection e with e;exact e ▸ h),fun d ch e=>(by cases e)⟩
theorem Bytes.brick {l:List Int} (h:l.length=64 ∧ ∀ x∈l,0≤x∧x≤255):Bytes (.brick l):=⟨fun l' e=>(by injection e with e;exact e ▸ h),fun c e=>(by cases e),fun d ch e=>(by cases e)⟩
theorem Bytes.node {d:Nat} (h:d≤255) (ch:Fin 8→Tr):Bytes (.node d ch):=⟨fun l e=>(by cases e),fun c e=>(by cases e),fun d' ch' e=>(by injection e with e _;exact e ▸ h)⟩
theorem strOfNums_inj : ∀ {l l':List Int},(∀ x∈l,0≤x∧x≤255)→(∀ x∈l',0≤x∧x≤255)→strOfNums l=strOfNums l'→l=l':=by
 intro l l' h h' e
 have e1:l.map (fun n=>UInt8.ofNat n.toNat)=l'.map (fun n=>UInt8.ofNat n.toNat):=by
  rw [←strOfNums_data,←strOfNums_data,e]
 clear e
 induction l generalizing l' with
 | nil => cases l' with
   | nil=>rfl
   | cons y r=>simp at e1
 | cons x l ih => cases l' with
   | nil=>simp at e1
   | cons y r =>
     simp only [List.map_cons,List.cons.injEq] at e1
     have hx:=h x (by simp)
     have hy:=h' y (by simp)
     have e2:=congrArg UInt8.toNat e1.1
     simp only [UInt8.toNat_ofNat'] at e2
     have:x=y:=by omega
     rw [this,ih (fun z hz=>h z (by simp [hz])) (fun z hz=>h' z (by simp [hz])) e1.2]
end Go.Proofs.YtajhkncolbgkbaaDoor
end
section
namespace Go.Proofs.YtajhkncolbgkbaaDoor
open Go.RowKit Go.Sort Go.Maps
open Oct
structure Good (ts:List Tr):Prop where
 closed:Tr.Closed ts
 bytes : ∀ t∈ts,Bytes t
theorem Good.leans {ts:List Tr} (h:Good ts) {t:Tr} (ht:t∈ts):Leans ts t:=fun d ch e i=>h.closed.2 d ch (e ▸ ht) i
theorem Leans.later {ts ts':List Tr} (hp:ts <+: ts') {t:Tr} (h:Leans ts t):Leans ts' t:=fun d ch e i=>hp.subset (h d ch e i)
theorem Good.add {ts:List Tr} (hG:Good ts) {t:Tr} (ht:t ∉ ts) (hl:Leans ts t) (hb:Bytes t):Good (ts++[t]):=by
 refine ⟨⟨?_,fun d ch h i=>?_⟩,fun x h=>?_⟩
 · rw [List.nodup_append]
   exact ⟨hG.closed.1,by simp,fun a ha b hb' e=>by rw [List.mem_singleton.1 hb'] at e;exact ht (e ▸ ha)⟩
 · rcases List.mem_append.1 h with h | h
   · exact List.mem_append_left _ (hG.closed.2 d ch h i)
   · exact List.mem_append_left _ (hl d ch (List.mem_singleton.1 h).symm i)
 · rcases List.mem_append.1 h with h | h
   · exact hG.bytes _ h
   · rw [List.mem_singleton.1 h];exact hb
theorem grown_of_below {w w':World} (hb:Below w.heap.size w w'):w.grownBy w' none:=⟨hb.os,hb.tape,hb.output,hb.size,fun k hk _=>hb.block k hk⟩
structure Keeps (Far:Nat→Prop) (w w':World):Prop where
 os:w'.os=w.os
 tape:w'.tape=w.tape
 output:w'.output=w.output
 size:w.heap.size≤w'.heap.size
 block : ∀ k,Far k→k<w.heap.size→w'.heap[k]? = w.heap[k]?
theorem Keeps.refl (Far:Nat→Prop) (w:World):Keeps Far w w:=⟨rfl,rfl,rfl,Nat.le_refl _,fun _ _ _=>rfl⟩
theorem Keeps.trans {Far:Nat→Prop} {a b c:World} (h:Keeps Far a b) (h':Keeps Far b c):Keeps Far a c :=
 ⟨h'.os.trans h.os,h'.tape.trans h.tape,h'.output.trans h.output,Nat.le_trans h.size h'.size,fun k hk hl=>(h'.block k hk (Nat.lt_of_lt_of_le hl h.size)).trans (h.block k hk hl)⟩
theorem Keeps.below {Far:Nat→Prop} {a b:World} (h:Below a.heap.size a b):Keeps Far a b:=⟨h.os,h.tape,h.output,h.size,fun k _ hl=>h.block k hl⟩
theorem Keeps.grown {Far:Nat→Prop} {a b:World} {row:Option Nat} (h:a.grownBy b row) (hr : ∀ g,row=some g → ¬Far g):Keeps Far a b :=
 ⟨h.os,h.tape,h.output,h.size,fun k hk hl=>h.block k hl (fun e=>hr k e.symm hk)⟩
theorem Bk.far {w w':World} {Far:Nat→Prop} {b:Nat} {vs:Array Value} {t:TypeId} (h:Bk w b vs t) (hk:Keeps Far w w') (hf:Far b):Bk w' b vs t:=(hk.block b hf h.lt).trans h
end Go.Proofs.YtajhkncolbgkbaaDoor
end
section
namespace Go.Proofs.YtajhkncolbgkbaaDoor
open Go.Sort Go.RowKit
@[go_sem] def Oper.calmUpon (P : Program) (w : World) (v : Value) : Result Next → Prop
  | .ok (.value u) w'=>w'=w∧u=v
  | .ok .skip w'=>w'=w∧v=undef
  | .ok (.enter f args) w'=>w'=w∧Calls P f args w (fun e w''=>e = .returned v∧Below w.heap.size w w'')
  | _=>False
def puts (L:List (Option Tmp × Value)) (a:Act):Act:=L.foldl (fun a p=>a.put p.1 p.2) a
theorem put_size (a:Act) (d:Option Tmp) (v:Value):(a.put d v).tmps.size=a.tmps.size:=by cases d <;> simp [Act.put]
theorem put_defers (a:Act) (d:Option Tmp) (v:Value):(a.put d v).defers=a.defers:=by cases d <;> simp [Act.put]
theorem put_same {a:Act} {d:Tmp} (v:Value) (h:d<a.tmps.size):(a.put (some d) v).tmps[d]? = some v:=by simp [Act.put,h]
theorem put_other {a:Act} {d:Option Tmp} {x:Tmp} (v:Value) (h:d ≠ some x):(a.put d v).tmps[x]? = a.tmps[x]? := by
 cases d with
 | none=>rfl
 | some d=>simp only [Act.put];rw [Array.getElem?_setIfInBounds_ne (fun e=>h (by rw [e]))]
theorem puts_size : ∀ (L:List (Option Tmp × Value)) (a:Act),(puts L a).tmps.size=a.tmps.size∧(puts L a).defers=a.defers
 | [],_=>⟨rfl,rfl⟩
 | p :: L, a => by
   obtain ⟨h1,h2⟩:=puts_size L (a.put p.1 p.2)
   rw [put_size] at h1;rw [put_defers] at h2
   exact ⟨h1,h2⟩
theorem puts_out : ∀ (L:List (Option Tmp × Value)) (a:Act) (x:Tmp),(∀ p∈L,p.1 ≠ some x)→(puts L a).tmps[x]? = a.tmps[x]?
 | [],_,_,_=>rfl
 | p :: L, a, x, h => by
   show (puts L (a.put p.1 p.2)).tmps[x]? = _
   rw [puts_out L _ x (fun q hq=>h q (List.mem_cons_of_mem _ hq)),put_other _ (h p (by simp))]
theorem puts_in : ∀ (L:List (Option Tmp × Value)) (a:Act) (x:Tmp) (v:Value),x<a.tmps.size→L.Pairwise (fun p q => ∀ d,p.1=some d→q.1 ≠ some d)→(some x,v)∈L→(puts L a).tmps[x]? = some v
 | [],_,_,_,_,_,h=>by simp at h
 | p :: L, a, x, v, hx, hp, h => by
   show (puts L (a.put p.1 p.2)).tmps[x]? = _
   rw [List.pairwise_cons] at hp
   rcases List.mem_cons.1 h with rfl | h
   · rw [puts_out L _ x (fun q hq=>hp.1 q hq x rfl),put_same _ hx]
   · exact puts_in L _ x v (by rw [put_size];exact hx) hp.2 h
theorem act_ext {a b:Act} (h1:a.defers=b.defers) (h2 : ∀ x:Nat,a.tmps[x]? = b.tmps[x]?):a=b:=by
 obtain ⟨at',ad⟩:=a
 obtain ⟨bt,bd⟩:=b
 simp only at h1 h2
 rw [h1,Array.ext_getElem? h2]
def dstAt (l:List Oper) (i:Nat):Option Tmp:=(l[i]?).bind (·.dst)
section
variable {P:Program} {l:List Oper} {n k:Nat} {sl u:Nat→Tmp} {T:Nat→TypeId} {z vs:Nat→Array Value} {W:World} {a:Act} {hv:List Value}
theorem getD_set_self {s:Array Bool} {i:Nat} (h:i<s.size):(s.setIfInBounds i true).getD i false=true:=by simp [Array.getD_eq_getD_getElem?,h]
theorem waits_listed {s:Array Bool} {i j:Nat} (h:Region.waitsFor .any l.toArray i j=true) (hr:i∈Region.ready .any l.toArray s):s.getD j false=true:=by
 obtain ⟨o,ho,e,he,hb,hon⟩:=Region.waitsFor_spec h
 obtain ⟨_,o',ho',hall⟩:=mem_ready.1 hr
 obtain rfl:o=o':=Option.some.inj (ho.symm.trans ho')
 have:=hall e he hb
 rwa [hon] at this
theorem eval_tmp {a b:Act} {d:Tmp} (h:a.tmps[d]? = b.tmps[d]?):a.eval (.tmp d)=b.eval (.tmp d):=by
 simp only [Act.eval,Array.getD_eq_getD_getElem?,h]
def dstB (l:List Oper) (m:Nat):Bool:=l.all fun o=>match o.dst with | some d=>decide (d<m) | none=>true
theorem dstB_spec {m:Nat} (h:dstB l m=true) {i d:Nat} (hd:dstAt l i=some d):d<m:=by
 unfold dstAt at hd
 cases ho:l[i]? with
 | none=>simp [ho] at hd
 | some o =>
   simp only [ho,Option.bind_some] at hd
   have:=List.all_eq_true.1 h o (List.mem_of_getElem? ho)
   simpa [hd] using this
end
end Go.Proofs.YtajhkncolbgkbaaDoor
end
section
namespace Go.Proofs.YtajhkncolbgkbaaDoor
open Go.Sort Go.RowKit
@[go_sem] def relUpon (P : Program) (w : World) (R : Value → World → Prop) : Result Next → Prop
  | .ok (.value u) w'=>Below w.heap.size w w'∧R u w'
  | .ok (.enter f args) w'=>w'=w∧Calls P f args w (fun e w'' => ∃ v,e = .returned v∧Below w.heap.size w w''∧R v w'')
  | _=>False
def maker (l:List Oper) (n:Nat) (d:Tmp):Option Nat:=(List.range n).find? fun j=>decide (dstAt l j=some d)
def Known (l:List Oper) (n:Nat) (R:Nat→Value→World→Prop) (a:Act) (d:Tmp) (v:Value) (w:World):Prop :=
 match maker l n d with
 | some j=>R j v w
 | none=>v=a.eval (.tmp d)
def relB (l:List Oper) (n:Nat):Bool :=
 Region.noSelect l.toArray &&
 ((List.range n).all fun i => match l[i]? with
   | some o => o.guard.isNone && o.dst.isSome && o.op.operands.toList.all fun x => match x with
     | .tmp d=>(List.range n).all fun j => !decide (dstAt l j=some d) || (decide (j<i) && Region.waitsFor .any l.toArray i j)
     | _=>true
   | none=>false) &&
 ((List.range n).all fun i=>(List.range n).all fun j=>decide (i=j) || !decide (dstAt l i=dstAt l j))
structure RelB (l:List Oper) (n:Nat):Prop where
 nosel:Region.noSelect l.toArray=true
 guard : ∀ i o,i<n→l[i]? = some o→o.guard=none
 dst : ∀ i o,i<n→l[i]? = some o → ∃ d,o.dst=some d
 data : ∀ i o d j,i<n→l[i]? = some o → .tmp d∈o.op.operands→j<n→dstAt l j=some d→j<i∧Region.waitsFor .any l.toArray i j=true
 dist : ∀ i j d,i<n→j<n→i ≠ j→dstAt l i=some d→dstAt l j ≠ some d
theorem relB_spec {l:List Oper} {n:Nat} (h:relB l n=true):RelB l n:=by
 simp only [relB,Bool.and_eq_true] at h
 obtain ⟨⟨h3,h4⟩,h5⟩:=h
 refine ⟨h3,fun i o hi ho=>?_,fun i o hi ho=>?_,fun i o d j hi ho hd hj hdj=>?_,fun i j d hi hj hne hdi hdj=>?_⟩
 · have:=List.all_eq_true.1 h4 i (List.mem_range.2 hi)
   simp only [ho,Bool.and_eq_true,Option.isNone_iff_eq_none] at this
   exact this.1.1
 · have:=List.all_eq_true.1 h4 i (List.mem_range.2 hi)
   simp only [ho,Bool.and_eq_true] at this
   exact Option.isSome_iff_exists.1 this.1.2
 · have:=List.all_eq_true.1 h4 i (List.mem_range.2 hi)
   simp only [ho,Bool.and_eq_true] at this
   have:=List.all_eq_true.1 this.2 (.tmp d) (by simpa using hd)
   have:=List.all_eq_true.1 this j (List.mem_range.2 hj)
   simpa [hdj] using this
 · have:=List.all_eq_true.1 (List.all_eq_true.1 h5 i (List.mem_range.2 hi)) j (List.mem_range.2 hj)
   simp [hne,hdi,hdj] at this
def Firm (R:Value→World→Prop):Prop := ∀ v w w',Below w.heap.size w w'→R v w→R v w'
structure RI (l:List Oper) (n:Nat) (R:Nat→Value→World→Prop) (W:World) (a:Act) (s:Array Bool) (a':Act) (w':World):Prop where
 tsize:a'.tmps.size=a.tmps.size
 defers:a'.defers=a.defers
 old : ∀ x:Nat,(∀ i,i<n→s.getD i false=true→dstAt l i ≠ some x)→a'.tmps[x]? = a.tmps[x]?
 head : ∀ i d,i<n→s.getD i false=true→dstAt l i=some d → ∃ v,a'.tmps[d]? = some v∧R i v w'
 below:Below W.heap.size W w'
section
variable {P:Program} {l:List Oper} {n:Nat} {R:Nat→Value→World→Prop} {W:World} {a:Act}
theorem maker_spec {d:Tmp} {j:Nat} (h:maker l n d=some j):j<n∧dstAt l j=some d:=by
 unfold maker at h
 exact ⟨List.mem_range.1 (List.mem_of_find?_eq_some h),by simpa using List.find?_some h⟩
theorem maker_none {d:Tmp} (h:maker l n d=none) : ∀ j,j<n→dstAt l j ≠ some d:=by
 unfold maker at h
 intro j hj e
 have:=List.find?_eq_none.1 h j (List.mem_range.2 hj)
 simp [e] at this
theorem ri_step (B:RelB l n) (hf : ∀ i,i<n→Firm (R i)) (hd : ∀ i d,i<n→dstAt l i=some d→d<a.tmps.size)
 (hop : ∀ i o,i<n→l[i]? = some o → ∀ (ρ:Operand→Value) w,Below W.heap.size W w→(∀ v,ρ (.const v)=v)→(∀ g,ρ (.global g) = .pointer (some ⟨g,0,none⟩))→(∀ f,ρ (.func f) = .func (.func f) #[] #[]) →
  (∀ d,.tmp d∈o.op.operands→Known l n R a d (ρ (.tmp d)) w)→relUpon P w (R i) ((execOp ρ o).run P w))
 {Q:Exit→Act→World→Prop} {s:Array Bool} (hs:s.size=n) {a':Act} {w':World} (I:RI l n R W a s a' w') {i:Nat} (hin:i<n) (hr:i∈Region.ready .any l.toArray (s++Array.replicate (l.length - n) false)) (hun:s.getD i true=false) :
 wpOp P l.toArray Q i (fun a'' w''=>RI l n R W a (s.setIfInBounds i true) a'' w'') a' w':=by
 obtain ⟨_,o,ho,hall⟩:=mem_ready.1 hr
 have hol:l[i]? = some o:=by simpa using ho
 have hdo:dstAt l i=o.dst:=by simp [dstAt,hol]
 obtain ⟨di,hdi⟩:=B.dst i o hin hol
 have hself:=getD_set_self (s:=s) (i:=i) (by omega)
 have hnew : ∀ j,j ≠ i→(s.setIfInBounds i true).getD j false=s.getD j false:=fun j hj=>getD_set_ne false (Ne.symm hj)
 unfold wpOp
 simp only [ho]
 have hw:Region.wanted o (yielded l.toArray a'.tmps)=true:=by simp [Region.wanted,B.guard i o hin hol]
 rw [if_pos hw]
 left
 have hk : ∀ d,.tmp d∈o.op.operands→Known l n R a d (a'.eval (.tmp d)) w':=by
  intro d hd'
  unfold Known
  cases hm:maker l n d with
  | some j =>
    obtain ⟨hj,hdj⟩:=maker_spec hm
    obtain ⟨hji,hwt⟩:=B.data i o d j hin hol hd' hj hdj
    have hlj:=waits_listed hwt hr
    rw [app_get hs hj] at hlj
    obtain ⟨v,h1,h2⟩:=I.head j d hj hlj hdj
    have:a'.eval (.tmp d)=v:=by simp [Act.eval,Array.getD_eq_getD_getElem?,h1]
    rw [this];exact h2
  | none=>exact eval_tmp (I.old d fun j hj _ e=>maker_none hm j hj e)
 have hrun:=hop i o hin hol a'.eval w' I.below (fun _=>rfl) (fun _=>rfl) (fun _=>rfl) hk
 have post : ∀ v w'',Below w'.heap.size w' w''→R i v w''→RI l n R W a (s.setIfInBounds i true) (a'.put o.dst v) w'':=by
  intro v w'' hb hR
  refine ⟨by rw [put_size,I.tsize],by rw [put_defers,I.defers],fun x hx=>?_,fun j d hj hs' hdj=>?_,I.below.trans (hb.mono I.below.size)⟩
  · rw [put_other v (fun e=>hx i hin hself (by rw [hdo];exact e))]
    refine I.old x fun j hj hs'=>hx j hj ?_
    by_cases e:j=i
    · subst e;exact hself
    · rw [hnew j e];exact hs'
  · by_cases e:j=i
    · subst e
      rw [hdo] at hdj
      rw [hdj,put_same v (by rw [I.tsize];exact hd j d hin (by rw [hdo];exact hdj))]
      exact ⟨v,rfl,hR⟩
    · rw [hnew j e] at hs'
      obtain ⟨u,h1,h2⟩:=I.head j d hj hs' hdj
      rw [put_other v (fun e'=>B.dist j i d hj hin e hdj (by rw [hdo];exact e'))]
      exact ⟨u,h1,hf j hj u w' w'' hb h2⟩
 unfold Oper.wp
 generalize (execOp a'.eval o).run P w'=r at hrun
 cases r with
 | ok nx w'' =>
   cases nx <;> simp only [relUpon] at hrun <;> simp only [Oper.upon]
   case value u=>exact post _ _ hrun.1 hrun.2
   case enter f args =>
    obtain ⟨rfl,hc⟩:=hrun
    refine hc.mono fun e w3 ⟨v,he,hb,hR⟩=>?_
    subst he
    exact post _ _ hb hR
 | halt x w''=>simp only [relUpon] at hrun
end
end Go.Proofs.YtajhkncolbgkbaaDoor
end
section
namespace Go.Proofs.YtajhkncolbgkbaaDoor
open Go.RowKit Go.Sort Go.Maps
open Oct
attribute [local go_sem ↓] Go.wp_at_zero Go.wp_at_succ
theorem Keeps.set {Far:Nat→Prop} {a b:World} (h:Keeps Far a b) (p:Addr) (v:Value) (hp : ¬Far p.block):Keeps Far a (b.setCell p v) :=
 h.trans ⟨rfl,rfl,rfl,by simp [World.setCell],fun k hk _=>heap_setCell_other b p k v (fun e=>hp (e ▸ hk))⟩
theorem grown_setCell (w:World) (p:Addr) (v:Value):w.grownBy (w.setCell p v) (some p.block) :=
 ⟨rfl,rfl,rfl,by simp [World.setCell],fun k _ hne=>heap_setCell_other w p k v (fun e=>hne (by rw [e]))⟩
end Go.Proofs.YtajhkncolbgkbaaDoor
end
section
namespace Go.Proofs.YtajhkncolbgkbaaDoor
open Go.RowKit
theorem wraps_i64 : ∀ n:Int,0≤n→n<2 ^ 62→IntKind.i64.wrap n=n:=fun n h0 h1=>by
 have:(2:Int) ^ 62=4611686018427387904:=by decide
 rw [IntKind.wrap_i64];omega
end Go.Proofs.YtajhkncolbgkbaaDoor
end
section
namespace Go.Proofs.YtajhkncolbgkbaaDoor
open Go.RowKit Go.Sort Go.Maps
open Oct
theorem Good.ins {ts:List Tr} (hG:Good ts) {t:Tr} (hl:Leans ts t) (hb:Bytes t):Good (Tr.ins t ts):=by
 by_cases h:t∈ts
 · rw [Tr.ins_of_mem h];exact hG
 · rw [Tr.ins_of_not h];exact hG.add h hl hb
theorem Good.uni {ts:List Tr} (hG:Good ts) {c:Int} (hc:0≤c∧c≤255):Good (Tr.add (.uni c) ts):=by
 rw [Tr.add_uni];exact hG.ins (fun d ch h=>by cases h) (Bytes.uni hc)
end Go.Proofs.YtajhkncolbgkbaaDoor
end
section
namespace Go.Proofs.YtajhkncolbgkbaaDoor
open Go.RowKit Go.Sort Go.Maps
open Oct
theorem addK_same {ch:Fin 8→Tr} {ts:List Tr} (h : ∀ i,ch i∈ts):Tr.addK ch 8 ts=ts:=Tr.addK_ind (P:=fun a=>a=ts) (fun i a ha=>by subst ha;exact Tr.add_same _ _ (h i)) 8 (Nat.le_refl _) ts rfl
theorem Good.inner {ts:List Tr} (hG:Good ts) {ch:Fin 8→Tr} (hch : ∀ i,ch i∈ts) {d:Nat} (hd:d≤255):Good (Tr.add (Tr.mkInner d ch) ts):=by
 rw [Tr.inner_add hG.closed,addK_same hch]
 split
 · exact hG
 · exact hG.ins (fun d' ch' h i=>by injection h with h1 h2;subst h2;exact hch i) (Bytes.node hd ch)
end Go.Proofs.YtajhkncolbgkbaaDoor
end
section
namespace Go.Proofs.YtajhkncolbgkbaaDoor
open Go.Sort Go.RowKit
def tailT (md:Region.Mode) (l:List Oper) (n:Nat):Bool :=
 ((List.range n).all fun k=>Region.waitsFor md l.toArray n k || (List.range n).any fun m=>decide (k<m) && Region.waitsFor md l.toArray m k) && (List.range l.length).all fun t=>decide (t≤n) || Region.waitsFor md l.toArray t (t - 1)
section
variable {P:Program} {md:Region.Mode} {l:List Oper} {n:Nat} {C:World→Prop}
def Shut (md:Region.Mode) (l:List Oper) (s:Array Bool):Prop := ∀ m k,s.getD m false=true→Region.waitsFor md l.toArray m k=true→s.getD k false=true
theorem not_first {s:Array Bool} (hs:s.size=n) {g:Nat} (hsh:Shut md l s) (ht:tailT md l n=true) (h:n∈Region.ready md l.toArray (s++Array.replicate g false)) : ∀ (d k:Nat),n - k≤d→k<n→s.getD k false=false→False
 | 0,k,h1,h2,_=>by omega
 | d + 1, k, hd, hk, hun => by
   obtain ⟨h1,o,ho,h2⟩:=mem_ready.1 h
   have ht':=ht
   simp only [tailT,Bool.and_eq_true] at ht'
   have h3:=List.all_eq_true.1 ht'.1 k (List.mem_range.2 hk)
   simp only [Bool.or_eq_true] at h3
   rcases h3 with h3 | h3
   · obtain ⟨o',ho',e,he,hbi,hon⟩:=Region.waitsFor_spec h3
     obtain rfl:o'=o:=Option.some.inj (ho'.symm.trans ho)
     have:=h2 e he hbi
     rw [hon,app_get hs hk,hun] at this
     cases this
   · obtain ⟨m,hm,h4⟩:=List.any_eq_true.1 h3
     simp only [Bool.and_eq_true,decide_eq_true_eq] at h4
     have hmn:=List.mem_range.1 hm
     refine not_first hs hsh ht h d m (by omega) hmn ?_
     cases hx:s.getD m false with
     | false=>rfl
     | true=>have:=hsh m k hx h4.2;rw [hun] at this;cases this
theorem ready_not_tailT {s:Array Bool} (hs:s.size=n) (hsh:Shut md l s) {g i k:Nat} (hk:k<n) (hun:s.getD k false=false) (ht:tailT md l n=true) (h:i∈Region.ready md l.toArray (s++Array.replicate g false)):i<n:=by
 obtain ⟨h1,o,ho,h2⟩:=mem_ready.1 h
 rcases Nat.lt_or_ge i n with hlt | hge
 · exact hlt
 · exfalso
   have hil:i<l.length:=by have:=(Array.getElem?_eq_some_iff.1 ho).1;simpa using this
   by_cases hin:i=n
   · subst hin
     exact not_first hs hsh ht h (i - k) k (Nat.le_refl _) hk hun
   · have ht':=ht
     simp only [tailT,Bool.and_eq_true] at ht'
     have h3:=List.all_eq_true.1 ht'.2 i (List.mem_range.2 hil)
     simp only [Bool.or_eq_true,decide_eq_true_eq] at h3
     rcases h3 with h3 | h3
     · omega
     · obtain ⟨o',ho',e,he,hbi,hon⟩:=Region.waitsFor_spec h3
       obtain rfl:o'=o:=Option.some.inj (ho'.symm.trans ho)
       have:=h2 e he hbi
       rw [hon,app_tail hs (by omega)] at this
       cases this
theorem shut_set {s:Array Bool} {i:Nat} (hsh:Shut md l s) (hi:i∈Region.ready md (l.take n).toArray s) (hin:i<n):Shut md l (s.setIfInBounds i true):=by
 intro m k hm hw
 have keep : ∀ j,s.getD j false=true→(s.setIfInBounds i true).getD j false=true:=by
  intro j hj
  simp only [Array.getD_eq_getD_getElem?,Array.getElem?_setIfInBounds] at hj ⊢
  split
  · split
    · rfl
    · rename_i h;rw [Array.getElem?_eq_none (by omega)] at hj;exact hj
  · exact hj
 by_cases e:i=m
 · subst e
   obtain ⟨_,o,ho,h2⟩:=mem_ready.1 hi
   obtain ⟨o',ho',e,he,hbi,hon⟩:=Region.waitsFor_spec hw
   rw [take_get hin] at ho
   obtain rfl:o'=o:=Option.some.inj (ho'.symm.trans ho)
   exact keep k (hon ▸ h2 e he hbi)
 · refine keep k (hsh m k ?_ hw)
   simpa [Array.getD_eq_getD_getElem?,Array.getElem?_setIfInBounds,e] using hm
end
end Go.Proofs.YtajhkncolbgkbaaDoor
end
section
namespace Go.Proofs.YtajhkncolbgkbaaDoor
open Go.RowKit
namespace Pal
def cell (c:Int):Bool:=decide (0≤c) && decide (c≤255)
def brick (l:List Int):Bool:=decide (l.length=64) && l.all cell
end Pal
end Go.Proofs.YtajhkncolbgkbaaDoor
end
section
namespace Go.Proofs.YtajhkncolbgkbaaDoor
open Go.RowKit Go.Sort Go.Maps
open Oct
structure Top (xs:List Int) (m:Int):Prop where
 le : ∀ x∈xs,x≤m
 mem:m∈xs
structure Bot (xs:List Int) (m:Int):Prop where
 le : ∀ x∈xs,m≤x
 mem:m∈xs
theorem take_snoc_at {xs:List Int} {k:Nat} {x:Int} (h:xs[k]? = some x):xs.take (k+1)=xs.take k++[x]:=by
 rw [List.take_add_one,h];rfl
theorem Top.step {xs:List Int} {k:Nat} {m x:Int} (h:Top (xs.take k) m) (hx:xs[k]? = some x):Top (xs.take (k+1)) (max m x):=by
 rw [take_snoc_at hx]
 refine ⟨fun y hy=>?_,?_⟩
 · rcases List.mem_append.1 hy with hy | hy
   · have:=h.le y hy;omega
   · rw [List.mem_singleton.1 hy];omega
 · by_cases hm:x≤m
   · rw [show max m x=m by omega];exact List.mem_append_left _ h.mem
   · rw [show max m x=x by omega];simp
theorem Bot.step {xs:List Int} {k:Nat} {m x:Int} (h:Bot (xs.take k) m) (hx:xs[k]? = some x):Bot (xs.take (k+1)) (min m x):=by
 rw [take_snoc_at hx]
 refine ⟨fun y hy=>?_,?_⟩
 · rcases List.mem_append.1 hy with hy | hy
   · have:=h.le y hy;omega
   · rw [List.mem_singleton.1 hy];omega
 · by_cases hm:m≤x
   · rw [show min m x=m by omega];exact List.mem_append_left _ h.mem
   · rw [show min m x=x by omega];simp
end Go.Proofs.YtajhkncolbgkbaaDoor
end
section
namespace Go.Proofs.YtajhkncolbgkbaaDoor
open Oct
theorem WF.bytes {t:Tr} (h:Tr.WF t):Bytes t:=by
 cases t with
 | uni c=>exact Bytes.uni h
 | brick l=>exact Bytes.brick h
 | node d ch=>exact Bytes.node h.1 ch
def Between (ts ts':List Tr):Prop := ∀ vs,ts <+: vs→vs <+: ts'→Good vs
theorem Between.same {ts:List Tr} (hG:Good ts):Between ts ts:=fun vs h1 h2=>by
 have:=h1.eq_of_length_le h2.length_le
 exact this ▸ hG
theorem Between.trans {a b c:List Tr} (h:Between a b) (h':Between b c) (hbc:b <+: c):Between a c:=fun vs h1 h2=>by
 rcases List.prefix_or_prefix_of_prefix h2 hbc with h3 | h3
 · exact h vs h1 h3
 · exact h' vs h3 h2
theorem Between.left {a b c:List Tr} (h:Between a c) (hbc:b <+: c):Between a b:=fun vs h1 h2=>h vs h1 (h2.trans hbc)
def many:Nat→Nat
 | 0=>1
 | n+1=>1+8 * many n
end Go.Proofs.YtajhkncolbgkbaaDoor
end
section
namespace Go.Proofs.YtajhkncolbgkbaaDoor
open Go.RowKit Go.Sort
def over (ys:List Int) (k:Nat) (cs:List Int):List Int:=splice ys k cs
end Go.Proofs.YtajhkncolbgkbaaDoor
end
section
namespace Go.Proofs.YtajhkncolbgkbaaDoor
open Go.RowKit Go.Sort
theorem Bk.grown {w w':World} {b g:Nat} {vs:Array Value} {t:TypeId} (h:Bk w b vs t) (hg:w.grownBy w' (some g)) (hne:b ≠ g):Bk w' b vs t:=by
 have hlt:b<w.heap.size:=(Array.getElem?_eq_some_iff.1 h).1
 exact (hg.block b hlt (fun e=>hne (by injection e))).trans h
end Go.Proofs.YtajhkncolbgkbaaDoor
end
section
namespace Go.Proofs.YtajhkncolbgkbaaDoor
open Go.Sort
def cellG (b:Box) (xs:List Int) (p:Pt):Int:=if inB p b=true then xs.getD (indexB b p).toNat 0 else 0
def cellsOf (b:Box) (f:Pt→Int):List Int:=(List.range (volB b).toNat).map fun i:Nat=>f (atB b (i:Int))
end Go.Proofs.YtajhkncolbgkbaaDoor
end
section
namespace Go.Proofs.YtajhkncolbgkbaaDoor
open Go.RowKit Go.Sort
theorem Sl.grown {w w':World} {k:IntKind} {b off g:Nat} {xs:List Int} (h:Sl w k (some ⟨b,off,none⟩) xs) (hg:w.grownBy w' (some g)) (hne:b ≠ g):Sl w' k (some ⟨b,off,none⟩) xs:=by
 intro i x hx
 obtain ⟨b',off',e,hc⟩:=h i x hx
 refine ⟨b',off',e,?_⟩
 injection e with e;injection e with e1 e2;subst e1 e2
 have hlt:b<w.heap.size:=World.block_lt_of_cell? _ _ hc
 exact (World.cell?_of_block (hg.block b hlt (fun e=>hne (by injection e)))).trans hc
theorem Sl.any {w:World} {k:IntKind} {a a':Option Addr} (_h:Sl w k a []):Sl w k a' []:=Sl.nil _ _ _
end Go.Proofs.YtajhkncolbgkbaaDoor
end
section
namespace Go.Proofs.YtajhkncolbgkbaaDoor
open Go.RowKit Go.Sort Go.Maps
open Oct
theorem Sl.far {w w':World} {Far:Nat→Prop} {k:IntKind} {ha:Option Addr} {xs:List Int} (h:Sl w k ha xs) (hk:Keeps Far w w') (hf:xs ≠ [] → ∀ b,ha.map (·.block)=some b→Far b):Sl w' k ha xs:=by
 intro i x hx
 obtain ⟨b,off,rfl,hc⟩:=h i x hx
 refine ⟨b,off,rfl,?_⟩
 have hlt:=World.block_lt_of_cell? w _ hc
 rw [World.cell?_of_block (hk.block b (hf (by rintro rfl;simp at hx) b rfl) hlt)];exact hc
section
variable {w w':World} {Far Far':Nat→Prop} {pg ps pb sb:Nat} {a b c d e f:Int} {ha:Option Addr} {hcp:Nat} {xs:List Int}
end
end Go.Proofs.YtajhkncolbgkbaaDoor
end
section
namespace Go.Proofs.YtajhkncolbgkbaaDoor
open Go.RowKit Go.Sort Go.Maps
open Oct
structure GoodH (b:Box) (xs:List Int) (hcp:Nat):Prop where
 small:Small b 1048575
 len:xs.length=(volB b).toNat
 le:xs.length≤5000
 cells : ∀ x∈xs,0≤x∧x≤255
 cap:xs.length≤hcp
theorem GoodH.range {b:Box} {xs:List Int} {hcp:Nat} (h:GoodH b xs hcp) (p:Pt):0≤cellG b xs p∧cellG b xs p≤255:=by
 unfold cellG
 split
 · rename_i hp
   have hi:=indexB_bd hp
   have hl:=h.len
   have hlt:(indexB b p).toNat<xs.length:=by omega
   rw [Tr.getD_el hlt]
   exact h.cells _ (List.getElem_mem _)
 · omega
structure GoodG (b:Box) (xs:List Int) (hcp:Nat):Prop where
 small:Small b 1048575
 len:xs.length=(volB b).toNat
 le:xs.length≤300
 cells : ∀ x∈xs,0≤x∧x≤255
 cap:xs.length≤hcp
theorem GoodG.toH {b:Box} {xs:List Int} {hcp:Nat} (h:GoodG b xs hcp):GoodH b xs hcp:=⟨h.small,h.len,Nat.le_trans h.le (by decide),h.cells,h.cap⟩
theorem GoodG.range {b:Box} {xs:List Int} {hcp:Nat} (h:GoodG b xs hcp) (p:Pt):0≤cellG b xs p∧cellG b xs p≤255:=h.toH.range p
instance (b:Box) (xs:List Int) (hcp:Nat):Coe (GoodG b xs hcp) (GoodH b xs hcp):=⟨GoodG.toH⟩
end Go.Proofs.YtajhkncolbgkbaaDoor
end
section
namespace Go.Proofs.YtajhkncolbgkbaaDoor
open Go.RowKit Go.Sort Go.Maps
open Oct
theorem i64_or_nat (a b:Nat) (ha:a<4611686018427387904) (hb:b<4611686018427387904):bits .or .i64 (a:Int) (b:Int)=((a ||| b:Nat):Int):=by
 have hx:a ||| b<2 ^ 62:=Nat.or_lt_two_pow (by omega) (by omega)
 show IntKind.i64.wrap ((BitVec.ofInt 64 (a:Int) ||| BitVec.ofInt 64 (b:Int)).toNat:Int)=_
 rw [BitVec.toNat_or,Go.ofInt_u64 a (by omega),Go.ofInt_u64 b (by omega)]
 exact wraps_i64 _ (by omega) (by omega)
end Go.Proofs.YtajhkncolbgkbaaDoor
end
section
namespace Go.Proofs.YtajhkncolbgkbaaDoor
theorem i64_xor_nat (a b:Nat) (ha:a<4611686018427387904) (hb:b<4611686018427387904):bits .xor .i64 (a:Int) (b:Int)=((a ^^^ b:Nat):Int):=by
 have hx:a ^^^ b<2 ^ 62:=Nat.xor_lt_two_pow (by omega) (by omega)
 show IntKind.i64.wrap ((BitVec.ofInt 64 (a:Int) ^^^ BitVec.ofInt 64 (b:Int)).toNat:Int)=_
 rw [BitVec.toNat_xor,Go.ofInt_u64 a (by omega),Go.ofInt_u64 b (by omega)]
 exact wraps_i64 _ (by omega) (by omega)
theorem i64_and1_nat (c:Nat) (h:c<4611686018427387904):bits .and .i64 (c:Int) 1=((c % 2:Nat):Int):=by
 have:=bits_mask .i64 62 (by decide) wraps_i64 1 (by decide) (c:Int) (by omega) (by rw [show (2:Int) ^ 62=4611686018427387904 by decide];omega)
 rw [show ((2:Int) ^ 1 - 1)=1 by decide] at this
 rw [this];simp
theorem crc_prog {c:Nat} (h:c<2 ^ 32):bits .xor .i64 ((c:Int) / 2) (IntKind.i64.wrap (3988292384 * bits .and .i64 (c:Int) 1))=((crcS c:Nat):Int):=by
 rw [i64_and1_nat c (by omega)]
 unfold crcS
 rcases Nat.mod_two_eq_zero_or_one c with e | e
 · rw [e,if_neg (by decide),show IntKind.i64.wrap (3988292384 * ((0:Nat):Int))=((0:Nat):Int) from IntWalk.i64_in _ (by omega)]
   rw [show (c:Int) / 2=((c / 2:Nat):Int) by omega,i64_xor_nat _ _ (by omega) (by omega),Nat.xor_zero]
 · rw [e,if_pos rfl,show IntKind.i64.wrap (3988292384 * ((1:Nat):Int))=((crcP:Nat):Int) by rw [show (3988292384 * ((1:Nat):Int))=((crcP:Nat):Int) by unfold crcP;omega];exact IntWalk.i64_in _ (by unfold crcP;omega)]
   rw [show (c:Int) / 2=((c / 2:Nat):Int) by omega,i64_xor_nat _ _ (by omega) (by unfold crcP;omega)]
theorem crc_in {c:Nat} (h:c<2 ^ 32) {x:Int} (hx:0≤x∧x≤255):bits .xor .i64 (c:Int) x=((c ^^^ x.toNat:Nat):Int):=by
 obtain ⟨n,rfl⟩:=Int.eq_ofNat_of_zero_le hx.1
 exact i64_xor_nat c n (by omega) (by omega)
end Go.Proofs.YtajhkncolbgkbaaDoor
end
