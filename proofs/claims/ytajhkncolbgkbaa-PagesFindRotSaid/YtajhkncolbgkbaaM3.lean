/- Rel, MakeN, Bit, Out, Inn, RegT, Sl, Brk, Pla, Paste, Lines, Geo, Crop, Bld, Bld2, Prt, Pcb, Pby, Pcr, Pbn: joined by program, for one claim. -/
import Derived.Test.YtajhkncolbgkbaaM2
import Derived.Deep.Cut
import Derived.Maps.AppendAt
import Derived.Deep.RegionLaw
import Derived.Test.YtajhkncolbgkbaaM1
import Derived.Deep.RegionHeld3
import Derived.Deep.DrawnRows
import Derived.Deep.AppendLies
import Derived.Laws.BitsLemmas
import Derived.IntWalk
import Derived.Test.YtajhkncolbgkbaaProg
import Derived.WalkKit
import Derived.WalkLawsBesides
import Derived.WalkSpells
import Derived.Laws.StructEq
import Derived.ChangeKeysEq
import Derived.Deep.QuietTactic
import Derived.BigQuiet
import Derived.Deep.LoopGhost
import Derived.Laws.IdiomStrings
import Derived.Laws.CopyOwn
import Derived.Laws.BitsAllLaws
import Derived.Lib.SliceRun
import Derived.Laws.EntriesVeiled
set_option linter.unusedVariables false
set_option linter.unusedSimpArgs false
section
namespace Go.Proofs.Ytajhkncolbgkbaa
open Go.Sort Go.RowKit
@[go_sem] def relUpon (P : Program) (w : World) (R : Value → World → Prop) : Result Next → Prop
  | .ok (.value u) w'=>Below w.heap.size w w'∧R u w'
  | .ok (.enter f args) w'=>w'=w∧Calls P f args w (fun e w'' => ∃ v,e = .returned v∧Below w.heap.size w w''∧R v w'')
  | _=>False
def maker (l:List Oper) (n:Nat) (d:Tmp):Option Nat:=(List.range n).find? fun j=>decide (dstAt l j=some d)
def Known (l:List Oper) (n:Nat) (R:Nat→Value→World→Prop) (a:Act) (d:Tmp) (v:Value) (w:World):Prop :=
 match maker l n d with
 | some j=>R j v w
 | none=>v=a.eval (.tmp d)
def relB (l:List Oper) (n:Nat):Bool :=
 Region.noSelect l.toArray &&
 ((List.range n).all fun i => match l[i]? with
   | some o => o.guard.isNone && o.dst.isSome && o.op.operands.toList.all fun x => match x with
     | .tmp d=>(List.range n).all fun j => !decide (dstAt l j=some d) || (decide (j<i) && Region.waitsFor .any l.toArray i j)
     | _=>true
   | none=>false) &&
 ((List.range n).all fun i=>(List.range n).all fun j=>decide (i=j) || !decide (dstAt l i=dstAt l j))
structure RelB (l:List Oper) (n:Nat):Prop where
 nosel:Region.noSelect l.toArray=true
 guard : ∀ i o,i<n→l[i]? = some o→o.guard=none
 dst : ∀ i o,i<n→l[i]? = some o → ∃ d,o.dst=some d
 data : ∀ i o d j,i<n→l[i]? = some o → .tmp d∈o.op.operands→j<n→dstAt l j=some d→j<i∧Region.waitsFor .any l.toArray i j=true
 dist : ∀ i j d,i<n→j<n→i ≠ j→dstAt l i=some d→dstAt l j ≠ some d
theorem relB_spec {l:List Oper} {n:Nat} (h:relB l n=true):RelB l n:=by
 simp only [relB,Bool.and_eq_true] at h
 obtain ⟨⟨h3,h4⟩,h5⟩:=h
 refine ⟨h3,fun i o hi ho=>?_,fun i o hi ho=>?_,fun i o d j hi ho hd hj hdj=>?_,fun i j d hi hj hne hdi hdj=>?_⟩
 · have:=List.all_eq_true.1 h4 i (List.mem_range.2 hi)
   simp only [ho,Bool.and_eq_true,Option.isNone_iff_eq_none] at this
   exact this.1.1
 · have:=List.all_eq_true.1 h4 i (List.mem_range.2 hi)
   simp only [ho,Bool.and_eq_true] at this
   exact Option.isSome_iff_exists.1 this.1.2
 · have:=List.all_eq_true.1 h4 i (List.mem_range.2 hi)
   simp only [ho,Bool.and_eq_true] at this
   have:=List.all_eq_true.1 this.2 (.tmp d) (by simpa using hd)
   have:=List.all_eq_true.1 this j (List.mem_range.2 hj)
   simpa [hdj] using this
 · have:=List.all_eq_true.1 (List.all_eq_true.1 h5 i (List.mem_range.2 hi)) j (List.mem_range.2 hj)
   simp [hne,hdi,hdj] at this
def Firm (R:Value→World→Prop):Prop := ∀ v w w',Below w.heap.size w w'→R v w→R v w'
structure RI (l:List Oper) (n:Nat) (R:Nat→Value→World→Prop) (W:World) (a:Act) (s:Array Bool) (a':Act) (w':World):Prop where
 tsize:a'.tmps.size=a.tmps.size
 defers:a'.defers=a.defers
 old : ∀ x:Nat,(∀ i,i<n→s.getD i false=true→dstAt l i ≠ some x)→a'.tmps[x]? = a.tmps[x]?
 head : ∀ i d,i<n→s.getD i false=true→dstAt l i=some d → ∃ v,a'.tmps[d]? = some v∧R i v w'
 below:Below W.heap.size W w'
section
variable {P:Program} {l:List Oper} {n:Nat} {R:Nat→Value→World→Prop} {W:World} {a:Act}
theorem maker_spec {d:Tmp} {j:Nat} (h:maker l n d=some j):j<n∧dstAt l j=some d:=by
 unfold maker at h
 exact ⟨List.mem_range.1 (List.mem_of_find?_eq_some h),by simpa using List.find?_some h⟩
theorem maker_none {d:Tmp} (h:maker l n d=none) : ∀ j,j<n→dstAt l j ≠ some d:=by
 unfold maker at h
 intro j hj e
 have:=List.find?_eq_none.1 h j (List.mem_range.2 hj)
 simp [e] at this
theorem ri_step (B:RelB l n) (hf : ∀ i,i<n→Firm (R i)) (hd : ∀ i d,i<n→dstAt l i=some d→d<a.tmps.size)
 (hop : ∀ i o,i<n→l[i]? = some o → ∀ (ρ:Operand→Value) w,Below W.heap.size W w→(∀ v,ρ (.const v)=v)→(∀ g,ρ (.global g) = .pointer (some ⟨g,0,none⟩))→(∀ f,ρ (.func f) = .func (.func f) #[] #[]) →
  (∀ d,.tmp d∈o.op.operands→Known l n R a d (ρ (.tmp d)) w)→relUpon P w (R i) ((execOp ρ o).run P w))
 {Q:Exit→Act→World→Prop} {s:Array Bool} (hs:s.size=n) {a':Act} {w':World} (I:RI l n R W a s a' w') {i:Nat} (hin:i<n) (hr:i∈Region.ready .any l.toArray (s++Array.replicate (l.length - n) false)) (hun:s.getD i true=false) :
 wpOp P l.toArray Q i (fun a'' w''=>RI l n R W a (s.setIfInBounds i true) a'' w'') a' w':=by
 obtain ⟨_,o,ho,hall⟩:=mem_ready.1 hr
 have hol:l[i]? = some o:=by simpa using ho
 have hdo:dstAt l i=o.dst:=by simp [dstAt,hol]
 obtain ⟨di,hdi⟩:=B.dst i o hin hol
 have hself:=getD_set_self (s:=s) (i:=i) (by omega)
 have hnew : ∀ j,j ≠ i→(s.setIfInBounds i true).getD j false=s.getD j false:=fun j hj=>getD_set_ne false (Ne.symm hj)
 unfold wpOp
 simp only [ho]
 have hw:Region.wanted o (yielded l.toArray a'.tmps)=true:=by simp [Region.wanted,B.guard i o hin hol]
 rw [if_pos hw]
 left
 have hk : ∀ d,.tmp d∈o.op.operands→Known l n R a d (a'.eval (.tmp d)) w':=by
  intro d hd'
  unfold Known
  cases hm:maker l n d with
  | some j =>
    obtain ⟨hj,hdj⟩:=maker_spec hm
    obtain ⟨hji,hwt⟩:=B.data i o d j hin hol hd' hj hdj
    have hlj:=waits_listed hwt hr
    rw [app_get hs hj] at hlj
    obtain ⟨v,h1,h2⟩:=I.head j d hj hlj hdj
    have:a'.eval (.tmp d)=v:=by simp [Act.eval,Array.getD_eq_getD_getElem?,h1]
    rw [this];exact h2
  | none=>exact eval_tmp (I.old d fun j hj _ e=>maker_none hm j hj e)
 have hrun:=hop i o hin hol a'.eval w' I.below (fun _=>rfl) (fun _=>rfl) (fun _=>rfl) hk
 have post : ∀ v w'',Below w'.heap.size w' w''→R i v w''→RI l n R W a (s.setIfInBounds i true) (a'.put o.dst v) w'':=by
  intro v w'' hb hR
  refine ⟨by rw [put_size,I.tsize],by rw [put_defers,I.defers],fun x hx=>?_,fun j d hj hs' hdj=>?_,I.below.trans (hb.mono I.below.size)⟩
  · rw [put_other v (fun e=>hx i hin hself (by rw [hdo];exact e))]
    refine I.old x fun j hj hs'=>hx j hj ?_
    by_cases e:j=i
    · subst e;exact hself
    · rw [hnew j e];exact hs'
  · by_cases e:j=i
    · subst e
      rw [hdo] at hdj
      rw [hdj,put_same v (by rw [I.tsize];exact hd j d hin (by rw [hdo];exact hdj))]
      exact ⟨v,rfl,hR⟩
    · rw [hnew j e] at hs'
      obtain ⟨u,h1,h2⟩:=I.head j d hj hs' hdj
      rw [put_other v (fun e'=>B.dist j i d hj hin e hdj (by rw [hdo];exact e'))]
      exact ⟨u,h1,hf j hj u w' w'' hb h2⟩
 unfold Oper.wp
 generalize (execOp a'.eval o).run P w'=r at hrun
 cases r with
 | ok nx w'' =>
   cases nx <;> simp only [relUpon] at hrun <;> simp only [Oper.upon]
   case value u=>exact post _ _ hrun.1 hrun.2
   case enter f args =>
    obtain ⟨rfl,hc⟩:=hrun
    refine hc.mono fun e w3 ⟨v,he,hb,hR⟩=>?_
    subst he
    exact post _ _ hb hR
 | halt x w''=>simp only [relUpon] at hrun
end
end Go.Proofs.Ytajhkncolbgkbaa
end
section
namespace Go.Proofs.Ytajhkncolbgkbaa
open Go.RowKit Go.Sort Go.Maps
open Oct
attribute [local go_sem ↓] Go.wp_at_zero Go.wp_at_succ
theorem Keeps.set {Far:Nat→Prop} {a b:World} (h:Keeps Far a b) (p:Addr) (v:Value) (hp : ¬Far p.block):Keeps Far a (b.setCell p v) :=
 h.trans ⟨rfl,rfl,rfl,by simp [World.setCell],fun k hk _=>heap_setCell_other b p k v (fun e=>hp (e ▸ hk))⟩
theorem grown_setCell (w:World) (p:Addr) (v:Value):w.grownBy (w.setCell p v) (some p.block) :=
 ⟨rfl,rfl,rfl,by simp [World.setCell],fun k _ hne=>heap_setCell_other w p k v (fun e=>hne (by rw [e]))⟩
end Go.Proofs.Ytajhkncolbgkbaa
end
section
namespace Go.Proofs.Ytajhkncolbgkbaa
open Go.RowKit
theorem wraps_i64 : ∀ n:Int,0≤n→n<2 ^ 62→IntKind.i64.wrap n=n:=fun n h0 h1=>by
 have:(2:Int) ^ 62=4611686018427387904:=by decide
 rw [IntKind.wrap_i64];omega
end Go.Proofs.Ytajhkncolbgkbaa
end
section
namespace Go.Proofs.Ytajhkncolbgkbaa
open Go.RowKit Go.Sort Go.Maps
open Oct
theorem Good.ins {ts:List Tr} (hG:Good ts) {t:Tr} (hl:Leans ts t) (hb:Bytes t):Good (Tr.ins t ts):=by
 by_cases h:t∈ts
 · rw [Tr.ins_of_mem h];exact hG
 · rw [Tr.ins_of_not h];exact hG.add h hl hb
theorem Good.uni {ts:List Tr} (hG:Good ts) {c:Int} (hc:0≤c∧c≤255):Good (Tr.add (.uni c) ts):=by
 rw [Tr.add_uni];exact hG.ins (fun d ch h=>by cases h) (Bytes.uni hc)
end Go.Proofs.Ytajhkncolbgkbaa
end
section
namespace Go.Proofs.Ytajhkncolbgkbaa
open Go.RowKit Go.Sort Go.Maps
open Oct
theorem addK_same {ch:Fin 8→Tr} {ts:List Tr} (h : ∀ i,ch i∈ts):Tr.addK ch 8 ts=ts:=Tr.addK_ind (P:=fun a=>a=ts) (fun i a ha=>by subst ha;exact Tr.add_same _ _ (h i)) 8 (Nat.le_refl _) ts rfl
theorem Good.inner {ts:List Tr} (hG:Good ts) {ch:Fin 8→Tr} (hch : ∀ i,ch i∈ts) {d:Nat} (hd:d≤255):Good (Tr.add (Tr.mkInner d ch) ts):=by
 rw [Tr.inner_add hG.closed,addK_same hch]
 split
 · exact hG
 · exact hG.ins (fun d' ch' h i=>by injection h with h1 h2;subst h2;exact hch i) (Bytes.node hd ch)
end Go.Proofs.Ytajhkncolbgkbaa
end
section
namespace Go.Proofs.Ytajhkncolbgkbaa
open Go.Sort Go.RowKit
def tailT (md:Region.Mode) (l:List Oper) (n:Nat):Bool :=
 ((List.range n).all fun k=>Region.waitsFor md l.toArray n k || (List.range n).any fun m=>decide (k<m) && Region.waitsFor md l.toArray m k) && (List.range l.length).all fun t=>decide (t≤n) || Region.waitsFor md l.toArray t (t - 1)
def headT (l:List Oper) (n:Nat):Bool :=
 decide (n<l.length) && backB .any l n && tailT .any l n && Region.lexB .any (l.take n).toArray && Region.seqB .any l.toArray (l.length - n) n (Array.replicate n true++Array.replicate (l.length - n) false)
section
variable {P:Program} {md:Region.Mode} {l:List Oper} {n:Nat} {C:World→Prop}
def Shut (md:Region.Mode) (l:List Oper) (s:Array Bool):Prop := ∀ m k,s.getD m false=true→Region.waitsFor md l.toArray m k=true→s.getD k false=true
theorem not_first {s:Array Bool} (hs:s.size=n) {g:Nat} (hsh:Shut md l s) (ht:tailT md l n=true) (h:n∈Region.ready md l.toArray (s++Array.replicate g false)) : ∀ (d k:Nat),n - k≤d→k<n→s.getD k false=false→False
 | 0,k,h1,h2,_=>by omega
 | d + 1, k, hd, hk, hun => by
   obtain ⟨h1,o,ho,h2⟩:=mem_ready.1 h
   have ht':=ht
   simp only [tailT,Bool.and_eq_true] at ht'
   have h3:=List.all_eq_true.1 ht'.1 k (List.mem_range.2 hk)
   simp only [Bool.or_eq_true] at h3
   rcases h3 with h3 | h3
   · obtain ⟨o',ho',e,he,hbi,hon⟩:=Region.waitsFor_spec h3
     obtain rfl:o'=o:=Option.some.inj (ho'.symm.trans ho)
     have:=h2 e he hbi
     rw [hon,app_get hs hk,hun] at this
     cases this
   · obtain ⟨m,hm,h4⟩:=List.any_eq_true.1 h3
     simp only [Bool.and_eq_true,decide_eq_true_eq] at h4
     have hmn:=List.mem_range.1 hm
     refine not_first hs hsh ht h d m (by omega) hmn ?_
     cases hx:s.getD m false with
     | false=>rfl
     | true=>have:=hsh m k hx h4.2;rw [hun] at this;cases this
theorem ready_not_tailT {s:Array Bool} (hs:s.size=n) (hsh:Shut md l s) {g i k:Nat} (hk:k<n) (hun:s.getD k false=false) (ht:tailT md l n=true) (h:i∈Region.ready md l.toArray (s++Array.replicate g false)):i<n:=by
 obtain ⟨h1,o,ho,h2⟩:=mem_ready.1 h
 rcases Nat.lt_or_ge i n with hlt | hge
 · exact hlt
 · exfalso
   have hil:i<l.length:=by have:=(Array.getElem?_eq_some_iff.1 ho).1;simpa using this
   by_cases hin:i=n
   · subst hin
     exact not_first hs hsh ht h (i - k) k (Nat.le_refl _) hk hun
   · have ht':=ht
     simp only [tailT,Bool.and_eq_true] at ht'
     have h3:=List.all_eq_true.1 ht'.2 i (List.mem_range.2 hil)
     simp only [Bool.or_eq_true,decide_eq_true_eq] at h3
     rcases h3 with h3 | h3
     · omega
     · obtain ⟨o',ho',e,he,hbi,hon⟩:=Region.waitsFor_spec h3
       obtain rfl:o'=o:=Option.some.inj (ho'.symm.trans ho)
       have:=h2 e he hbi
       rw [hon,app_tail hs (by omega)] at this
       cases this
theorem shut_set {s:Array Bool} {i:Nat} (hsh:Shut md l s) (hi:i∈Region.ready md (l.take n).toArray s) (hin:i<n):Shut md l (s.setIfInBounds i true):=by
 intro m k hm hw
 have keep : ∀ j,s.getD j false=true→(s.setIfInBounds i true).getD j false=true:=by
  intro j hj
  simp only [Array.getD_eq_getD_getElem?,Array.getElem?_setIfInBounds] at hj ⊢
  split
  · split
    · rfl
    · rename_i h;rw [Array.getElem?_eq_none (by omega)] at hj;exact hj
  · exact hj
 by_cases e:i=m
 · subst e
   obtain ⟨_,o,ho,h2⟩:=mem_ready.1 hi
   obtain ⟨o',ho',e,he,hbi,hon⟩:=Region.waitsFor_spec hw
   rw [take_get hin] at ho
   obtain rfl:o'=o:=Option.some.inj (ho'.symm.trans ho)
   exact keep k (hon ▸ h2 e he hbi)
 · refine keep k (hsh m k ?_ hw)
   simpa [Array.getD_eq_getD_getElem?,Array.getElem?_setIfInBounds,e] using hm
theorem wpAny_of_headT {Qa:Act→Prop} {Q:Exit→Act→World→Prop} {g:Nat} (hn:n≤l.length) (hb:backB md l n=true) (ht:tailT md l n=true)
 (hend : ∀ a w,C w→Qa a→wpAny P md l.toArray Q g (Array.replicate n true++Array.replicate g false) a w) :
 ∀ (f : Nat) (s : Array Bool) (a : Act) (w : World), s.size = n → Shut md l s → unl s = f → C w → wpAnyQ P md (l.take n).toArray C Qa f s a →
   wpAny P md l.toArray Q (f+g) (s++Array.replicate g false) a w
 | 0, s, a, w, hs, _, hu, hw, h => by
   rw [Nat.zero_add,unl_zero hu,hs]
   exact hend a w hw h.2
 | f + 1, s, a, w, hs, hsh, hu, hw, h => by
   obtain ⟨k,hk,hun⟩:=unl_pos (s:=s) (by omega)
   rw [show f+1+g=(f+g)+1 by omega]
   refine ⟨fun h0=>?_,fun i hi=>?_⟩
   · obtain ⟨i,hi⟩:=ready_some (g:=g) hs hn hb (k+1) k (by omega) (by omega) hun
     rw [h0] at hi;cases hi
   · have hin:=ready_not_tailT hs hsh (by omega:k<n) hun ht hi
     have hr:=ready_head hs hin hb hi
     have hq:=h.2 i hr
     obtain ⟨hiu,o,ho,_⟩:=mem_ready.1 hr
     have ho':l.toArray[i]? = some o:=by rw [←take_get hin];exact ho
     have step : ∀ a' w',C w'→wpAnyQ P md (l.take n).toArray C Qa f (s.setIfInBounds i true) a'→wpAny P md l.toArray Q (f+g) ((s++Array.replicate g false).setIfInBounds i true) a' w':=by
      intro a' w' hw' h'
      rw [app_set (by omega)]
      refine wpAny_of_headT hn hb ht hend f _ a' w' (by simpa using hs) (shut_set hsh hr hin) ?_ hw' h'
      have:=unl_set (s:=s) (by omega) hiu
      omega
     have hq':qOp P l.toArray C i (wpAnyQ P md (l.take n).toArray C Qa f (s.setIfInBounds i true)) a:=by
      unfold qOp at hq ⊢
      simp only [ho] at hq
      simp only [ho']
      rwa [wanted_head hb hin ho'] at hq
     exact wpOp_of_qOp hw step hq'
theorem wp_region_headT {id:Nat} {Q:Exit→Act→World→Prop} {a:Act} {w:World} (n:Nat) (hm:P.follows .mixedOrders=true) (hB:headT l n=true) (hC:C { w with drawn:=w.drawn+1 })
 (h:wpQuiet P (l.take n).toArray C (fun a' => ∀ w',C w'→wpList P l.toArray Q (l.drop n) a' w') (l.take n) a):(Code.region id l.toArray true).wp P Q a w:=by
 simp only [headT,Bool.and_eq_true,decide_eq_true_eq] at hB
 obtain ⟨⟨⟨⟨hn,hb⟩,ht⟩,hlex⟩,hseq⟩:=hB
 simp only [Region.lexB,Bool.and_eq_true] at hlex
 refine wp_region_any hm ?_
 have hsz:(l.take n).toArray.size=n:=by simp;omega
 have hq:=wpAnyQ_lex (P:=P) (C:=C) (md:=.any) hlex.1 (l.take n) 0 (Array.replicate n false) a (by simp) (by have:=hlex.2;rw [hsz] at this;simpa [show (l.take n).length=n by simp;omega] using this) h
 rw [show (l.take n).length=n by simp;omega] at hq
 have:=wpAny_of_headT (g:=l.length - n) (Q:=Q) (md:=.any) (by omega) hb ht (fun a w hw hQa=>by
  have:=wpAny_of_seq (P:=P) (md:=.any) (ops:=l.toArray) (Q':=Q) (l.drop n) n (Array.replicate n true++Array.replicate (l.length - n) false) a w (fun j=>by simp [List.getElem?_drop]) (by simpa using hseq) (hQa w hw)
  simpa using this) n (Array.replicate n false) a _ (by simp) (fun m k h=>by
   simp only [Array.getD_eq_getD_getElem?,Array.getElem?_replicate] at h
   split at h <;> simp at h) (by simp [unl]) hC hq
 have e:Array.replicate n false++Array.replicate (l.length - n) false=Array.replicate l.toArray.size false:=by
  rw [Array.replicate_append_replicate];congr 1;simp;omega
 rw [e,show n+(l.length - n)=l.toArray.size by simp;omega] at this
 exact this
theorem wp_region_headT_below {id:Nat} {Q:Exit→Act→World→Prop} {a:Act} {w:World} (n:Nat) (hm:P.follows .mixedOrders=true) (hB:headT l n=true)
 (h:wpQuiet P (l.take n).toArray (fun w' => ∃ p:Regrown,w'=grow (redrawn w p.d) p.os) (fun a' => ∀ w',(∃ p:Regrown,w'=grow (redrawn w p.d) p.os)→wpList P l.toArray Q (l.drop n) a' w') (l.take n) a) :
 (Code.region id l.toArray true).wp P Q a w :=
 wp_region_headT (C:=fun w' => ∃ p:Regrown,w'=grow (redrawn w p.d) p.os) n hm hB ⟨⟨w.drawn+1,#[]⟩,by rw [grow_empty];rfl⟩ h
end
end Go.Proofs.Ytajhkncolbgkbaa
end
section
namespace Go.Proofs.Ytajhkncolbgkbaa
open Go.RowKit
namespace Pal
def cell (c:Int):Bool:=decide (0≤c) && decide (c≤255)
def brick (l:List Int):Bool:=decide (l.length=64) && l.all cell
end Pal
end Go.Proofs.Ytajhkncolbgkbaa
end
section
namespace Go.Proofs.Ytajhkncolbgkbaa
open Go.RowKit Go.Sort Go.Maps
open Oct
structure Top (xs:List Int) (m:Int):Prop where
 le : ∀ x∈xs,x≤m
 mem:m∈xs
structure Bot (xs:List Int) (m:Int):Prop where
 le : ∀ x∈xs,m≤x
 mem:m∈xs
theorem take_snoc_at {xs:List Int} {k:Nat} {x:Int} (h:xs[k]? = some x):xs.take (k+1)=xs.take k++[x]:=by
 rw [List.take_add_one,h];rfl
theorem Top.step {xs:List Int} {k:Nat} {m x:Int} (h:Top (xs.take k) m) (hx:xs[k]? = some x):Top (xs.take (k+1)) (max m x):=by
 rw [take_snoc_at hx]
 refine ⟨fun y hy=>?_,?_⟩
 · rcases List.mem_append.1 hy with hy | hy
   · have:=h.le y hy;omega
   · rw [List.mem_singleton.1 hy];omega
 · by_cases hm:x≤m
   · rw [show max m x=m by omega];exact List.mem_append_left _ h.mem
   · rw [show max m x=x by omega];simp
theorem Bot.step {xs:List Int} {k:Nat} {m x:Int} (h:Bot (xs.take k) m) (hx:xs[k]? = some x):Bot (xs.take (k+1)) (min m x):=by
 rw [take_snoc_at hx]
 refine ⟨fun y hy=>?_,?_⟩
 · rcases List.mem_append.1 hy with hy | hy
   · have:=h.le y hy;omega
   · rw [List.mem_singleton.1 hy];omega
 · by_cases hm:m≤x
   · rw [show min m x=m by omega];exact List.mem_append_left _ h.mem
   · rw [show min m x=x by omega];simp
end Go.Proofs.Ytajhkncolbgkbaa
end
section
namespace Go.Proofs.Ytajhkncolbgkbaa
open Oct
theorem WF.bytes {t:Tr} (h:Tr.WF t):Bytes t:=by
 cases t with
 | uni c=>exact Bytes.uni h
 | brick l=>exact Bytes.brick h
 | node d ch=>exact Bytes.node h.1 ch
def Between (ts ts':List Tr):Prop := ∀ vs,ts <+: vs→vs <+: ts'→Good vs
theorem Between.same {ts:List Tr} (hG:Good ts):Between ts ts:=fun vs h1 h2=>by
 have:=h1.eq_of_length_le h2.length_le
 exact this ▸ hG
theorem Between.trans {a b c:List Tr} (h:Between a b) (h':Between b c) (hbc:b <+: c):Between a c:=fun vs h1 h2=>by
 rcases List.prefix_or_prefix_of_prefix h2 hbc with h3 | h3
 · exact h vs h1 h3
 · exact h' vs h3 h2
theorem Between.left {a b c:List Tr} (h:Between a c) (hbc:b <+: c):Between a b:=fun vs h1 h2=>h vs h1 (h2.trans hbc)
def many:Nat→Nat
 | 0=>1
 | n+1=>1+8 * many n
end Go.Proofs.Ytajhkncolbgkbaa
end
section
namespace Go.Proofs.Ytajhkncolbgkbaa
open Go.RowKit Go.Sort
def over (ys:List Int) (k:Nat) (cs:List Int):List Int:=splice ys k cs
end Go.Proofs.Ytajhkncolbgkbaa
end
section
namespace Go.Proofs.Ytajhkncolbgkbaa
open Go.RowKit Go.Sort
theorem Bk.grown {w w':World} {b g:Nat} {vs:Array Value} {t:TypeId} (h:Bk w b vs t) (hg:w.grownBy w' (some g)) (hne:b ≠ g):Bk w' b vs t:=by
 have hlt:b<w.heap.size:=(Array.getElem?_eq_some_iff.1 h).1
 exact (hg.block b hlt (fun e=>hne (by injection e))).trans h
end Go.Proofs.Ytajhkncolbgkbaa
end
section
namespace Go.Proofs.Ytajhkncolbgkbaa
open Go.Sort
def cellG (b:Box) (xs:List Int) (p:Pt):Int:=if inB p b=true then xs.getD (indexB b p).toNat 0 else 0
def cellsOf (b:Box) (f:Pt→Int):List Int:=(List.range (volB b).toNat).map fun i:Nat=>f (atB b (i:Int))
end Go.Proofs.Ytajhkncolbgkbaa
end
section
namespace Go.Proofs.Ytajhkncolbgkbaa
open Go.RowKit Go.Sort
theorem Sl.grown {w w':World} {k:IntKind} {b off g:Nat} {xs:List Int} (h:Sl w k (some ⟨b,off,none⟩) xs) (hg:w.grownBy w' (some g)) (hne:b ≠ g):Sl w' k (some ⟨b,off,none⟩) xs:=by
 intro i x hx
 obtain ⟨b',off',e,hc⟩:=h i x hx
 refine ⟨b',off',e,?_⟩
 injection e with e;injection e with e1 e2;subst e1 e2
 have hlt:b<w.heap.size:=World.block_lt_of_cell? _ _ hc
 exact (World.cell?_of_block (hg.block b hlt (fun e=>hne (by injection e)))).trans hc
theorem Sl.any {w:World} {k:IntKind} {a a':Option Addr} (_h:Sl w k a []):Sl w k a' []:=Sl.nil _ _ _
end Go.Proofs.Ytajhkncolbgkbaa
end
section
namespace Go.Proofs.Ytajhkncolbgkbaa
open Go.RowKit Go.Sort Go.Maps
open Oct
theorem Sl.far {w w':World} {Far:Nat→Prop} {k:IntKind} {ha:Option Addr} {xs:List Int} (h:Sl w k ha xs) (hk:Keeps Far w w') (hf:xs ≠ [] → ∀ b,ha.map (·.block)=some b→Far b):Sl w' k ha xs:=by
 intro i x hx
 obtain ⟨b,off,rfl,hc⟩:=h i x hx
 refine ⟨b,off,rfl,?_⟩
 have hlt:=World.block_lt_of_cell? w _ hc
 rw [World.cell?_of_block (hk.block b (hf (by rintro rfl;simp at hx) b rfl) hlt)];exact hc
section
variable {w w':World} {Far Far':Nat→Prop} {pg ps pb sb:Nat} {a b c d e f:Int} {ha:Option Addr} {hcp:Nat} {xs:List Int}
end
end Go.Proofs.Ytajhkncolbgkbaa
end
section
namespace Go.Proofs.Ytajhkncolbgkbaa
open Go.RowKit Go.Sort Go.Maps
open Oct
structure GoodH (b:Box) (xs:List Int) (hcp:Nat):Prop where
 small:Small b 1048575
 len:xs.length=(volB b).toNat
 le:xs.length≤5000
 cells : ∀ x∈xs,0≤x∧x≤255
 cap:xs.length≤hcp
theorem GoodH.range {b:Box} {xs:List Int} {hcp:Nat} (h:GoodH b xs hcp) (p:Pt):0≤cellG b xs p∧cellG b xs p≤255:=by
 unfold cellG
 split
 · rename_i hp
   have hi:=indexB_bd hp
   have hl:=h.len
   have hlt:(indexB b p).toNat<xs.length:=by omega
   rw [Tr.getD_el hlt]
   exact h.cells _ (List.getElem_mem _)
 · omega
structure GoodG (b:Box) (xs:List Int) (hcp:Nat):Prop where
 small:Small b 1048575
 len:xs.length=(volB b).toNat
 le:xs.length≤300
 cells : ∀ x∈xs,0≤x∧x≤255
 cap:xs.length≤hcp
theorem GoodG.toH {b:Box} {xs:List Int} {hcp:Nat} (h:GoodG b xs hcp):GoodH b xs hcp:=⟨h.small,h.len,Nat.le_trans h.le (by decide),h.cells,h.cap⟩
theorem GoodG.range {b:Box} {xs:List Int} {hcp:Nat} (h:GoodG b xs hcp) (p:Pt):0≤cellG b xs p∧cellG b xs p≤255:=h.toH.range p
instance (b:Box) (xs:List Int) (hcp:Nat):Coe (GoodG b xs hcp) (GoodH b xs hcp):=⟨GoodG.toH⟩
end Go.Proofs.Ytajhkncolbgkbaa
end
section
namespace Go.Proofs.Ytajhkncolbgkbaa
open Go.RowKit Go.Sort Go.Maps
open Oct
theorem i64_or_nat (a b:Nat) (ha:a<4611686018427387904) (hb:b<4611686018427387904):bits .or .i64 (a:Int) (b:Int)=((a ||| b:Nat):Int):=by
 have hx:a ||| b<2 ^ 62:=Nat.or_lt_two_pow (by omega) (by omega)
 show IntKind.i64.wrap ((BitVec.ofInt 64 (a:Int) ||| BitVec.ofInt 64 (b:Int)).toNat:Int)=_
 rw [BitVec.toNat_or,Go.ofInt_u64 a (by omega),Go.ofInt_u64 b (by omega)]
 exact wraps_i64 _ (by omega) (by omega)
end Go.Proofs.Ytajhkncolbgkbaa
end
section
namespace Go.Proofs.Ytajhkncolbgkbaa
theorem i64_xor_nat (a b:Nat) (ha:a<4611686018427387904) (hb:b<4611686018427387904):bits .xor .i64 (a:Int) (b:Int)=((a ^^^ b:Nat):Int):=by
 have hx:a ^^^ b<2 ^ 62:=Nat.xor_lt_two_pow (by omega) (by omega)
 show IntKind.i64.wrap ((BitVec.ofInt 64 (a:Int) ^^^ BitVec.ofInt 64 (b:Int)).toNat:Int)=_
 rw [BitVec.toNat_xor,Go.ofInt_u64 a (by omega),Go.ofInt_u64 b (by omega)]
 exact wraps_i64 _ (by omega) (by omega)
theorem i64_and1_nat (c:Nat) (h:c<4611686018427387904):bits .and .i64 (c:Int) 1=((c % 2:Nat):Int):=by
 have:=bits_mask .i64 62 (by decide) wraps_i64 1 (by decide) (c:Int) (by omega) (by rw [show (2:Int) ^ 62=4611686018427387904 by decide];omega)
 rw [show ((2:Int) ^ 1 - 1)=1 by decide] at this
 rw [this];simp
theorem crc_prog {c:Nat} (h:c<2 ^ 32):bits .xor .i64 ((c:Int) / 2) (IntKind.i64.wrap (3988292384 * bits .and .i64 (c:Int) 1))=((crcS c:Nat):Int):=by
 rw [i64_and1_nat c (by omega)]
 unfold crcS
 rcases Nat.mod_two_eq_zero_or_one c with e | e
 · rw [e,if_neg (by decide),show IntKind.i64.wrap (3988292384 * ((0:Nat):Int))=((0:Nat):Int) from IntWalk.i64_in _ (by omega)]
   rw [show (c:Int) / 2=((c / 2:Nat):Int) by omega,i64_xor_nat _ _ (by omega) (by omega),Nat.xor_zero]
 · rw [e,if_pos rfl,show IntKind.i64.wrap (3988292384 * ((1:Nat):Int))=((crcP:Nat):Int) by rw [show (3988292384 * ((1:Nat):Int))=((crcP:Nat):Int) by unfold crcP;omega];exact IntWalk.i64_in _ (by unfold crcP;omega)]
   rw [show (c:Int) / 2=((c / 2:Nat):Int) by omega,i64_xor_nat _ _ (by omega) (by unfold crcP;omega)]
theorem crc_ref1 {c:Nat} (h:c<2 ^ 32) (e:c % 2=1):bits .xor .i64 ((c:Int) / 2) 3988292384=((crcS c:Nat):Int):=by
 unfold crcS
 rw [if_pos e,show (c:Int) / 2=((c / 2:Nat):Int) by omega,show (3988292384:Int)=((crcP:Nat):Int) by unfold crcP;omega,i64_xor_nat _ _ (by omega) (by unfold crcP;omega)]
theorem crc_ref0 {c:Nat} (e : ¬c % 2=1):(c:Int) / 2=((crcS c:Nat):Int):=by
 unfold crcS
 rw [if_neg e];omega
theorem crc_in {c:Nat} (h:c<2 ^ 32) {x:Int} (hx:0≤x∧x≤255):bits .xor .i64 (c:Int) x=((c ^^^ x.toNat:Nat):Int):=by
 obtain ⟨n,rfl⟩:=Int.eq_ofNat_of_zero_le hx.1
 exact i64_xor_nat c n (by omega) (by omega)
theorem xor_full {c:Nat} (h:c<2 ^ 32):4294967295 - (c:Int)=((c ^^^ 4294967295:Nat):Int):=by
 have h1:c ^^^ 4294967295=4294967295 - c:=by
  apply Nat.eq_of_testBit_eq
  intro i
  rw [Nat.testBit_xor,show (4294967295:Nat)=2 ^ 32 - 1 by decide,Nat.testBit_two_pow_sub_one,show 2 ^ 32 - 1 - c=2 ^ 32 - (c+1) by omega,Nat.testBit_two_pow_sub_succ h]
  by_cases hi:i<32
  · simp [hi]
  · simp only [hi,decide_false,Bool.xor_false,Bool.false_and]
    exact Nat.testBit_lt_two_pow (Nat.lt_of_lt_of_le h (Nat.pow_le_pow_right (by decide) (by omega)))
 rw [h1];omega
end Go.Proofs.Ytajhkncolbgkbaa
end
section
namespace Go.Proofs.Ytajhkncolbgkbaa
def bytesP (n k:Nat):List Int:=(List.range k).map fun i=>((n / 256 ^ i % 256:Nat):Int)
theorem bytes_len (n k:Nat):(bytesP n k).length=k:=by simp [bytesP]
theorem bytes_four (n:Nat):bytesP n 4=fourP n:=by
 simp [bytesP,fourP,List.range_succ]
theorem bytes_two (n:Nat):bytesP n 2=[((n % 256:Nat):Int),((n / 256 % 256:Nat):Int)]:=by
 simp [bytesP,List.range_succ]
theorem bytes_at {n k i:Nat} (h:i<k):(bytesP n k)[i]? = some ((n / 256 ^ i % 256:Nat):Int):=by
 unfold bytesP;rw [List.getElem?_map,List.getElem?_range h];rfl
def numK:List Int→Nat
 | []=>0
 | x::l=>x.toNat+256 * numK l
theorem numK_app (l:List Int) (x:Int):numK (l++[x])=numK l+256 ^ l.length * x.toNat:=by
 induction l with
 | nil=>simp [numK]
 | cons y l ih=>simp only [List.cons_append,numK,ih,List.length_cons,Nat.pow_succ,Nat.mul_add];rw [Nat.mul_comm (256 ^ l.length) 256,Nat.mul_assoc];omega
theorem numK_lt {l:List Int} (h:Byts l):numK l<256 ^ l.length:=by
 induction l with
 | nil=>simp [numK]
 | cons y l ih =>
   have h1:=ih fun x hx=>h x (List.mem_cons_of_mem _ hx)
   have h2:=h y (List.mem_cons_self ..)
   simp only [numK,List.length_cons,Nat.pow_succ];omega
theorem numK_four {l:List Int} (h:4≤l.length):numK (l.take 4)=numP l:=by
 match l,h with
 | a::b::c::d::r,_=>simp [numK,numP];omega
theorem numK_two {l:List Int} {i:Nat} (h:i+2≤l.length):numK ((l.drop i).take 2)=(l.getD i 0).toNat+256 * (l.getD (i+1) 0).toNat:=by
 have h1:l.drop i=l[i]'(by omega)::l[i+1]'(by omega)::l.drop (i+2):=by
  rw [List.drop_eq_getElem_cons (by omega),List.drop_eq_getElem_cons (by omega)]
 rw [h1]
 simp only [List.take_succ_cons,List.take_zero,numK]
 rw [List.getD_eq_getElem?_getD,List.getD_eq_getElem?_getD,List.getElem?_eq_getElem (by omega),List.getElem?_eq_getElem (by omega)]
 simp
theorem or_step {n i:Nat} (hi:i<4) (hn:n<256 ^ i) {x:Int} (hx:0≤x∧x≤255):bits .or .i64 (n:Int) (IntKind.i64.wrap (x * 2 ^ (8 * i)))=((n+256 ^ i * x.toNat:Nat):Int):=by
 obtain ⟨y,rfl⟩:=Int.eq_ofNat_of_zero_le hx.1
 have h8:(2:Nat) ^ (8 * i)=256 ^ i:=by rw [Nat.pow_mul]
 have h8i:(2:Int) ^ (8 * i)=((256 ^ i:Nat):Int):=by rw [←h8];simp
 have hle:256 ^ i≤256 ^ 3:=Nat.pow_le_pow_right (by decide) (by omega)
 have hy:y≤255:=by omega
 have hm:y * 256 ^ i≤255 * 256 ^ 3:=Nat.mul_le_mul hy hle
 rw [h8i,show ((y:Int) * ((256 ^ i:Nat):Int))=((y * 256 ^ i:Nat):Int) by simp,show IntKind.i64.wrap ((y * 256 ^ i:Nat):Int)=((y * 256 ^ i:Nat):Int) from IntWalk.i64_in _ (by omega)]
 rw [i64_or_nat _ _ (by omega) (by omega)]
 have h2:n ||| y * 256 ^ i=n+256 ^ i * y:=by
  rw [Nat.mul_comm y,←h8,Nat.or_comm,←Nat.two_pow_add_eq_or_of_lt (by rw [h8];exact hn) y]
  omega
 rw [h2];simp
end Go.Proofs.Ytajhkncolbgkbaa
end
section
namespace Go.Proofs.Ytajhkncolbgkbaa
open Go.RowKit Go.Sort Go.Maps
theorem crcR_succ : ∀ (k c:Nat),crcR (k+1) c=crcS (crcR k c)
 | 0,_=>rfl
 | k + 1, c => by
   show crcR (k+1) (crcS c)=crcS (crcR k (crcS c))
   exact crcR_succ k (crcS c)
theorem crcT_take {t:List Int} {k:Nat} {x:Int} (h:t[k]? = some x) (c:Nat):crcT (t.take (k+1)) c=crcB (crcT (t.take k) c) x:=by
 have hk:k<t.length:=(List.getElem?_eq_some_iff.1 h).1
 rw [List.take_succ_eq_append_getElem hk,crcT_app]
 rw [List.getElem?_eq_getElem hk] at h
 rw [Option.some.inj h];rfl
set_option maxRecDepth 100000 in
set_option maxHeartbeats 2000000 in
theorem crc_any (t:List Int) (hb:Byts t) (hl:t.length≤100000) (w:World) :
 Calls Try.prog 10 #[.string (strOfNums t)] w fun e w'=>e = .returned (.int .i64 (crcV t:Nat))∧Below w.heap.size w w':=by
 obtain ⟨cT,W,hcv,hsl,hbT⟩:=bytes_of_str (P:=Try.prog) 9 66 5 Try.underlying9 Try.underlying66 Try.underlying5 hb w
 have HB:=Bx.mk hbT
 have HS:=Bx.mk hsl
 obtain ⟨n,hn⟩ : ∃ n,n=t.length:=⟨_,rfl⟩
 rw [←hn] at hcv hl
 have Hn:=Bx.mk hn
 have Hb:=Bx.mk hb
 clear hbT hsl hn hb
 go_enter Try.func10,Try.ntmps10
 go_wp2_with fail
 clear hcv
 go_loopw [3,9] (fun v3 v9 wr => ∃ k:Nat,k≤n∧v9 = .int .i64 k∧v3 = .int .i64 (crcT (t.take k) 4294967295:Nat)∧Bx (Below W.heap.size W wr)) (fun _ i _=>n - (intOf i).toNat)
 case atStart=>exact ⟨0,Nat.zero_le _,rfl,by simp [crcT],⟨Below.refl _ _⟩⟩
 case round =>
  obtain ⟨k,hk,rfl,rfl,HW⟩:=hrel
  have hc:=crcT_lt (l:=t.take k) (fun x hx=>Hb.out x (List.mem_of_mem_take hx)) (c:=4294967295) (by decide)
  by_cases hlt:k<n
  · have t0:decide ((k:Int)<(n:Int))=true:=by simp;omega
    obtain ⟨x,hx⟩ : ∃ x,t[k]? = some x:=⟨_,List.getElem?_eq_getElem (by rw [←Hn.out];exact hlt)⟩
    have hxb:=Hb.out x (List.mem_of_getElem? hx)
    have Hx:=Bx.mk hx
    obtain ⟨b,off,e,hcell⟩:=HS.out k x hx
    simp only [Option.some.injEq,Addr.mk.injEq,and_true] at e
    obtain ⟨rfl,rfl⟩:=e
    rw [Nat.zero_add] at hcell
    have c0:=cell_later HW.out hcell
    have hT:=Bx.mk (crcT_take hx 4294967295)
    have hin:=crc_in hc hxb
    have hx8:IntKind.i64.wrap x=x:=IntWalk.i64_in _ (by omega)
    have hlt32:crcT (t.take k) 4294967295 ^^^ x.toNat<2 ^ 32:=Nat.xor_lt_two_pow hc (by omega)
    have hB:Bx (crcT (t.take (k+1)) 4294967295=crcR 8 (crcT (t.take k) 4294967295 ^^^ x.toNat)):=⟨by rw [hT.out];rfl⟩
    clear hT hx hcell hc
    generalize crcT (t.take k) 4294967295=cc at *
    obtain ⟨c1,hc1⟩ : ∃ c1,c1=cc ^^^ x.toNat:=⟨_,rfl⟩
    rw [←hc1] at hB hin hlt32
    clear hc1
    have b1:(0:Int)≤(k:Int):=by omega
    have b2:(k:Int)<(n:Int):=by omega
    go_wp2_with fail
    clear c0 hin
    go_loopw [3,17] (fun v3 v17 wr => ∃ j:Nat,j≤8∧v17 = .int .i64 j∧v3 = .int .i64 (crcR j c1:Nat)∧Bx (Below W.heap.size W wr)) (fun _ i _=>8 - (intOf i).toNat)
    case atStart=>exact ⟨0,Nat.zero_le _,rfl,rfl,HW⟩
    case round =>
     clear HW
     obtain ⟨j,hj,rfl,rfl,HW⟩:=hrel
     by_cases hjl:j<8
     · have t1:decide ((j:Int)<8)=true:=by simp;omega
       have hcj:=crcR_lt j hlt32
       have hs:=Bx.mk (crcR_succ j c1)
       generalize crcR j c1=cj at *
       have hp:=crc_prog hcj
       obtain ⟨cm,hcm⟩ : ∃ x,bits .and .i64 (cj:Int) 1=x:=⟨_,rfl⟩
       rw [hcm] at hp
       obtain ⟨cp,hcp⟩ : ∃ x,IntKind.i64.wrap (3988292384 * cm)=x:=⟨_,rfl⟩
       rw [hcp] at hp
       go_wp2_with fail
       go_roundw
       case rel=>exact ⟨j+1,by omega,by go_num,by rw [hs.out],HW⟩
       case measure=>simp [intOf];omega
     · obtain rfl:j=8:=by omega
       have t1:decide (((8:Nat):Int)<8)=false:=by decide
       go_wp2_with fail
       go_roundw
       case rel=>exact ⟨k+1,by omega,by go_num,by rw [hB.out],HW⟩
       case measure=>simp [intOf];omega
  · obtain rfl:k=n:=by omega
    have t0:decide ((k:Int)<(k:Int))=false:=by simp
    have e:Bx (t.take k=t):=⟨List.take_of_length_le (by rw [←Hn.out];exact Nat.le_refl _)⟩
    rw [e.out] at hc ⊢
    have hx:bits .xor .i64 ((crcT t 4294967295:Nat):Int) 4294967295=((crcV t:Nat):Int):=i64_xor_nat _ 4294967295 (by omega) (by omega)
    generalize crcT t 4294967295=ct at *
    go_wp2_with fail
    go_ret
    exact ⟨rfl,HB.out.trans (HW.out.mono HB.out.size)⟩
end Go.Proofs.Ytajhkncolbgkbaa
end
section
namespace Go.Proofs.Ytajhkncolbgkbaa
open Go.RowKit Go.Sort Go.Maps
theorem shr_bytes (n i:Nat) (hi:i<4):Op.shift .shr .i64 (n:Int) .i64 (8 * (i:Int))=pure (.int .i64 ((n / 256 ^ i:Nat):Int)):=by
 have:=shift_shr_i64 (x:=(n:Int)) (yk:=.i64) (y:=8 * (i:Int)) (by omega) (by omega)
 refine this.trans ?_
 rw [show (8 * (i:Int)).toNat=8 * i by omega,show (2:Int) ^ (8 * i)=((256 ^ i:Nat):Int) by rw [show (256:Nat) ^ i=2 ^ (8 * i) by rw [Nat.pow_mul]];simp]
 simp
theorem shl_bytes (x:Int) (i:Nat) (hi:i<4):Op.shift .shl .i64 x .i64 (8 * (i:Int))=pure (.int .i64 (IntKind.i64.wrap (x * 2 ^ (8 * i)))):=by
 have:=shift_shl_i64 (x:=x) (yk:=.i64) (y:=8 * (i:Int)) (by omega) (by omega)
 refine this.trans ?_
 rw [show (8 * (i:Int)).toNat=8 * i by omega]
set_option maxRecDepth 100000 in
set_option maxHeartbeats 1000000 in
theorem bytes_any (n k:Nat) (hk:k≤4) (w:World) :
 Calls Try.prog 33 #[.int .i64 (n:Int),.int .i64 (k:Int)] w fun e w'=>e = .returned (.string (strOfNums (bytesP n k)))∧Below w.heap.size w w':=by
 have hmk : ∀ W,(Instr.makeSlice 66 (.int .i64 (k:Int)) (.int .i64 (k:Int))).run Try.prog W = .ok (.slice (some ⟨W.heap.size,0,none⟩) k k) (W.alloc (.cells (madeCells #[.int .u8 0] k) 5)) :=
  fun W=>run_make_row' (P:=Try.prog) 66 5 (.int .u8 0) 1 Try.underlying66 (by kernel_rfl) rfl .i64 .i64 k (by omega) (by omega) W
 go_enter Try.func33,Try.ntmps33
 go_wp2_with fail
 clear hmk
 go_loopw [11] (fun i wr => ∃ j:Nat,j≤k∧i = .int .i64 j∧Bx (wr.rowIs w.heap.size 5 k (fun a=>.int .u8 (if a<j then ((n / 256 ^ a % 256:Nat):Int) else 0)))∧Bx (Below w.heap.size w wr)) (fun i _=>k - (intOf i).toNat)
 case atStart=>exact ⟨0,Nat.zero_le _,rfl,⟨(World.rowIs_made _ _ _ _).congr (fun i _=>rfl)⟩,⟨(Below.refl _ _).alloc (Nat.le_refl _) _⟩⟩
 case round =>
  obtain ⟨j,hj,rfl,hrow,hB⟩:=hrel
  by_cases hlt:j<k
  · have t0:decide ((j:Int)<(k:Int))=true:=by simp;omega
    have hsh:=shr_bytes n j (by omega)
    have hw8:IntKind.u8.wrap ((n / 256 ^ j:Nat):Int)=((n / 256 ^ j % 256:Nat):Int):=by
     rw [IntKind.wrap_u8];omega
    have hw:IntKind.i64.wrap (8 * (j:Int))=8 * (j:Int):=IntWalk.i64_in _ (by omega)
    obtain ⟨y,hy⟩ : ∃ y,y=8 * (j:Int):=⟨_,rfl⟩
    rw [←hy] at hsh
    replace hw:IntKind.i64.wrap (8 * (j:Int))=y:=by rw [hy];exact hw
    clear hy
    obtain ⟨x,hx⟩ : ∃ x,x=n / 256 ^ j % 256:=⟨_,rfl⟩
    rw [←hx] at hw8
    have Hx:=Bx.mk hx
    clear hx
    obtain ⟨q,hq⟩ : ∃ q,q=n / 256 ^ j:=⟨_,rfl⟩
    rw [←hq] at hw8 hsh
    clear hq
    have b1:(0:Int)≤(j:Int):=by omega
    have b2:(j:Int)<(k:Int):=by omega
    have hcell:=hrow.out.cell hlt
    have hfr:=hrow.out.frozen j
    go_wp2_with fail
    have hrow2:=Bx.mk ((hrow.out.set j (.int .u8 (x:Int))).congr (g:=fun a=>.int .u8 (if a<j+1 then ((n / 256 ^ a % 256:Nat):Int) else 0)) (fun a ha=>by
     by_cases e:a=j
     · rw [e];simp only [if_true];rw [if_pos (by omega),Hx.out]
     · simp only [e,if_false];by_cases h5:a<j
       · rw [if_pos h5,if_pos (by omega)]
       · rw [if_neg h5,if_neg (by omega)]))
    have hB2:=Bx.mk (show Below w.heap.size w (wr.setCell ⟨w.heap.size,j,none⟩ (.int .u8 (x:Int))) from hB.out.setCell (Nat.le_refl _) _)
    clear hcell hfr
    go_roundw
    case rel=>exact ⟨j+1,by omega,by go_num,hrow2,hB2⟩
    case measure=>simp [intOf];omega
  · obtain rfl:j=k:=by omega
    have t0:decide ((j:Int)<(j:Int))=false:=by simp
    have hsl:Sl wr .u8 (some ⟨w.heap.size,0,none⟩) (bytesP n j):=fun i x hx=>⟨w.heap.size,0,rfl,by
     have hi:i<j:=by have:=(List.getElem?_eq_some_iff.1 hx).1;rwa [bytes_len] at this
     have:=hrow.out.cell hi
     simp only [hi,if_true] at this
     rw [Nat.zero_add,this]
     rw [bytes_at hi] at hx
     rw [Option.some.inj hx]⟩
    have hcv:=conv_str (P:=Try.prog) 66 5 9 Try.underlying66 Try.underlying5 Try.underlying9 hsl j j (bytes_len n j).symm
    clear hsl hrow
    go_wp2_with fail
    go_ret
    exact ⟨rfl,hB.out⟩
set_option maxRecDepth 100000 in
set_option maxHeartbeats 1000000 in
theorem number_any (t:List Int) (hb:Byts t) (hl:t.length≤4) (w:World) :
 Calls Try.prog 31 #[.string (strOfNums t)] w fun e w'=>e = .returned (.int .i64 (numK t:Nat))∧Below w.heap.size w w':=by
 obtain ⟨n,hn⟩ : ∃ n,n=t.length:=⟨_,rfl⟩
 have hsz:(strOfNums t).size=n:=by rw [strOfNums_size,hn]
 have Hn:=Bx.mk hn
 have Hb:=Bx.mk hb
 rw [←hn] at hl
 clear hn hb
 go_enter Try.func31,Try.ntmps31
 go_wp2_with fail
 go_loopw [2,6] (fun v2 v6 wr => ∃ k:Nat,k≤n∧v6 = .int .i64 k∧v2 = .int .i64 (numK (t.take k):Nat)∧wr=w) (fun _ i _=>n - (intOf i).toNat)
 case atStart=>exact ⟨0,Nat.zero_le _,rfl,by simp [numK],rfl⟩
 case round =>
  obtain ⟨k,hk,rfl,rfl,rfl⟩:=hrel
  by_cases hlt:k<n
  · have t0:decide ((k:Int)<(n:Int))=true:=by simp;omega
    obtain ⟨x,hx⟩ : ∃ x,t[k]? = some x:=⟨_,List.getElem?_eq_getElem (by rw [←Hn.out];exact hlt)⟩
    have hxb:=Hb.out x (List.mem_of_getElem? hx)
    obtain ⟨hk2,hget⟩:=str_get Hb.out hx
    have hnk:=numK_lt (l:=t.take k) (fun x hx=>Hb.out x (List.mem_of_mem_take hx))
    have hlk:(t.take k).length=k:=by rw [List.length_take,←Hn.out];omega
    rw [hlk] at hnk
    have hor:=or_step (n:=numK (t.take k)) (i:=k) (by omega) hnk hxb
    have hN:Bx (numK (t.take (k+1))=numK (t.take k)+256 ^ k * x.toNat):=⟨by
     rw [List.take_succ_eq_append_getElem (by rw [←Hn.out];exact hlt),numK_app,hlk]
     rw [List.getElem?_eq_getElem (by rw [←Hn.out];exact hlt)] at hx
     rw [Option.some.inj hx]⟩
    have hsh:=shl_bytes x k (by omega)
    have hw:IntKind.i64.wrap (8 * (k:Int))=8 * (k:Int):=IntWalk.i64_in _ (by omega)
    have hx8:IntKind.i64.wrap x=x:=IntWalk.i64_in _ (by omega)
    obtain ⟨y,hy⟩ : ∃ y,y=8 * (k:Int):=⟨_,rfl⟩
    rw [←hy] at hsh
    replace hw:IntKind.i64.wrap (8 * (k:Int))=y:=by rw [hy];exact hw
    clear hy
    obtain ⟨z,hz⟩ : ∃ z,z=IntKind.i64.wrap (x * 2 ^ (8 * k)):=⟨_,rfl⟩
    rw [←hz] at hsh hor
    obtain ⟨n2,hn2⟩ : ∃ n2,n2=numK (t.take k)+256 ^ k * x.toNat:=⟨_,rfl⟩
    rw [←hn2] at hN hor
    clear hz hn2 hx hlk hnk
    have b1:(0:Int)≤(k:Int):=by omega
    have b2:(k:Int)<(n:Int):=by omega
    generalize numK (t.take k)=n1 at *
    go_wp2_with fail
    go_roundw
    case rel=>exact ⟨k+1,by omega,by go_num,by rw [hN.out],by first | rfl | trivial⟩
    case measure=>simp [intOf];omega
  · obtain rfl:k=n:=by omega
    have t0:decide ((k:Int)<(k:Int))=false:=by simp
    have e:Bx (t.take k=t):=⟨List.take_of_length_le (by rw [←Hn.out];exact Nat.le_refl _)⟩
    rw [e.out]
    go_wp2_with fail
    go_ret
    exact ⟨rfl,Below.refl _ _⟩
end Go.Proofs.Ytajhkncolbgkbaa
end
