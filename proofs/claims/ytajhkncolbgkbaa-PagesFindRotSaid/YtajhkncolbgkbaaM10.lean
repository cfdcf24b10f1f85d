/- Pst, RelG, RlT, RlX: joined by program, for one claim. -/
import Derived.Test.YtajhkncolbgkbaaM9
import Derived.Test.YtajhkncolbgkbaaM6
import Derived.Test.YtajhkncolbgkbaaM3
import Derived.Deep.Quiet
set_option linter.unusedVariables false
set_option linter.unusedSimpArgs false
namespace Go.Proofs.Ytajhkncolbgkbaa
section
open Go.RowKit Go.Sort Go.Maps
abbrev putV (a b c:Nat):Value:=.func (.func 50) #[] #[.pointer (some ⟨a,0,none⟩),.pointer (some ⟨b,0,none⟩),.pointer (some ⟨c,0,none⟩)]
abbrev flushV (dp:Nat):Value:=.func (.func 16) #[.pointer (some ⟨dp,0,none⟩)] #[]
def StepV (A:Nat→Prop) (dp:Nat) (W:World) (v:Value):DOp→Prop
 | .w i s=>(s.length=128∧Byts s) ∧ ∃ a b c,(A a∧A b∧A c)∧v=putV a b c∧Bk W a #[.pointer (some ⟨dp,0,none⟩)] 31∧Bk W b #[.int .i64 (i:Int)] 3∧Bk W c #[.string (strOfNums s)] 9
 | .f=>v=flushV dp
theorem StepV.keep {A A':Nat→Prop} {dp:Nat} {W W':World} {v:Value} {o:DOp} (h:StepV A dp W v o) (hA : ∀ k,A k→A' k) (hk : ∀ k,A k→k<W.heap.size→W'.heap[k]? = W.heap[k]?):StepV A' dp W' v o:=by
 cases o with
 | f=>exact h
 | w i s =>
   obtain ⟨h0,a,b,c,⟨ha,hb,hc⟩,hv,h1,h2,h3⟩:=h
   exact ⟨h0,a,b,c,⟨hA _ ha,hA _ hb,hA _ hc⟩,hv,(hk _ ha (Bk.lt h1)).trans h1,(hk _ hb (Bk.lt h2)).trans h2,(hk _ hc (Bk.lt h3)).trans h3⟩
structure StepsV (A:Nat→Prop) (dp:Nat) (W:World) (vs:List Value) (ops:List DOp):Prop where
 len:vs.length=ops.length
 at_ : ∀ (k:Nat) v o,vs[k]? = some v→ops[k]? = some o→StepV A dp W v o
theorem StepsV.keep {A A':Nat→Prop} {dp:Nat} {W W':World} {vs:List Value} {ops:List DOp} (h:StepsV A dp W vs ops) (hA : ∀ k,A k→A' k) (hk : ∀ k,A k→k<W.heap.size→W'.heap[k]? = W.heap[k]?):StepsV A' dp W' vs ops :=
 ⟨h.len,fun k v o hv ho=>(h.at_ k v o hv ho).keep hA hk⟩
theorem StepsV.mono {A A':Nat→Prop} {dp:Nat} {W:World} {vs:List Value} {ops:List DOp} (h:StepsV A dp W vs ops) (hA : ∀ k,A k→A' k):StepsV A' dp W vs ops:=h.keep hA fun _ _ _=>rfl
theorem StepsV.later {A:Nat→Prop} {dp:Nat} {W W':World} {vs:List Value} {ops:List DOp} (h:StepsV A dp W vs ops) (hb:Below W.heap.size W W'):StepsV A dp W' vs ops:=h.keep (fun _ h=>h) fun k _ hk=>hb.block k hk
theorem StepsV.grown {A:Nat→Prop} {dp:Nat} {W W':World} {vs:List Value} {ops:List DOp} {row:Option Nat} (h:StepsV A dp W vs ops) (hg:W.grownBy W' row) (hr : ∀ g,row=some g → ¬A g):StepsV A dp W' vs ops :=
 h.keep (fun _ h=>h) fun k hA hk=>hg.block k hk fun e=>hr k e.symm hA
theorem StepsV.chg {A:Nat→Prop} {dp:Nat} {W W':World} {vs:List Value} {ops:List DOp} {S:Nat→Prop} (h:StepsV A dp W vs ops) (hc:Chg S W W') (hS : ∀ k,A k → ¬S k):StepsV A dp W' vs ops :=
 h.keep (fun _ h=>h) fun k hA hk=>hc.block k hk (hS k hA)
theorem StepsV.nil (A:Nat→Prop) (dp:Nat) (W:World):StepsV A dp W [] []:=⟨rfl,fun k v o hv=>by simp at hv⟩
theorem StepsV.snoc {A:Nat→Prop} {dp:Nat} {W:World} {vs:List Value} {ops:List DOp} (h:StepsV A dp W vs ops) {v:Value} {o:DOp} (hv:StepV A dp W v o):StepsV A dp W (vs++[v]) (ops++[o]):=by
 refine ⟨by rw [List.length_append,List.length_append,h.len];rfl,fun k x y hx hy=>?_⟩
 by_cases hk:k<vs.length
 · rw [List.getElem?_append_left hk] at hx
   rw [List.getElem?_append_left (by rw [←h.len];exact hk)] at hy
   exact h.at_ k x y hx hy
 · rw [List.getElem?_append_right (by omega)] at hx
   rw [List.getElem?_append_right (by rw [←h.len];omega)] at hy
   rw [←h.len] at hy
   have h0:k - vs.length=0:=by
    have:=(List.getElem?_eq_some_iff.1 hx).1
    simp only [List.length_cons,List.length_nil] at this;omega
   rw [h0] at hx hy
   obtain rfl:=Option.some.inj hx
   obtain rfl:=Option.some.inj hy
   exact hv
theorem StepsV.app {A:Nat→Prop} {dp:Nat} {W:World} {vs us:List Value} {ops pos:List DOp} (h:StepsV A dp W vs ops) (h':StepsV A dp W us pos):StepsV A dp W (vs++us) (ops++pos):=by
 refine ⟨by rw [List.length_append,List.length_append,h.len,h'.len],fun k x y hx hy=>?_⟩
 by_cases hk:k<vs.length
 · rw [List.getElem?_append_left hk] at hx
   rw [List.getElem?_append_left (by rw [←h.len];exact hk)] at hy
   exact h.at_ k x y hx hy
 · rw [List.getElem?_append_right (by omega)] at hx
   rw [List.getElem?_append_right (by rw [←h.len];omega)] at hy
   rw [←h.len] at hy
   exact h'.at_ _ x y hx hy
def RunJ (dp g mb cap m:Nat) (d:Dk) (ops:List DOp) (w:World) (k:Nat) (W:World):Prop :=
 d.fine ops k∧DkIs W dp g mb cap (m+k) (d.upTo ops k)∧Chg (In3 dp g mb) w W
def RunQ (dp g mb cap m n:Nat) (d:Dk) (ops:List DOp) (w:World) (er:Int) (W:World):Prop :=
 er=(d.run ops).2∧DkIs W dp g mb cap (m+n) (d.run ops).1∧Chg (In3 dp g mb) w W
theorem step_run (A:Nat→Prop) (dp g mb cap m:Nat) (d:Dk) (W:World) (hd:DkIs W dp g mb cap m d) (hm:m<1000000) (v:Value) (o:DOp) (hv:StepV A dp W v o) :
 ∃ fid bd cp, v = .func (.func fid) bd cp ∧ (∀ args W, (callFunc fid args).run Try.prog W = .ok (.enter fid args) W) ∧
   Calls Try.prog fid (bd++cp) W fun e w'=>e = .returned (.int .i64 (d.op o).2)∧DkIs w' dp g mb cap (m+1) (d.op o).1∧Chg (In3 dp g mb) W w':=by
 cases o with
 | f =>
   obtain rfl:=hv
   refine ⟨_,_,_,rfl,enters_of Try.func16 (by kernel_rfl) rfl,?_⟩
   exact (flush_any W dp g mb cap m d hd).mono fun e w' h=>⟨h.1,h.2.1.mono (Nat.le_succ m),h.2.2⟩
 | w i s =>
   obtain ⟨⟨hl,hb⟩,a,b,c,_,rfl,h1,h2,h3⟩:=hv
   refine ⟨_,_,_,rfl,enters_of Try.func50 (by kernel_rfl) rfl,?_⟩
   refine put1_any a b c _ dp (i:Int) (strOfNums s) rfl W h1 h2 h3 _ ?_ ⟨?_⟩
   · rintro e w' ⟨rfl,_⟩;exact ⟨_,rfl⟩
   · exact write_any W dp g mb cap m d hd hm (i:Int) 0 s hb (by omega) (by omega)
def fidOf (v:Value):FuncId:=match v with | .func (.func f) _ _=>f | _=>0
def bdOf (v:Value):Array Value:=match v with | .func _ b _=>b | _=>#[]
def cpOf (v:Value):Array Value:=match v with | .func _ _ c=>c | _=>#[]
theorem prun_ops (A:Nat→Prop) (dp g mb cap m:Nat) (d:Dk) (w:World) (hd:DkIs w dp g mb cap m d) (vs:List Value) (ops:List DOp) (hm:m+ops.length<1000000) (hn:ops.length≤1000) (hv:StepsV A dp w vs ops) (hA : ∀ k,A k → ¬In3 dp g mb k)
 (ga off c:Nat) (hc : ∀ (k:Nat) v,vs[k]? = some v→w.cell? ⟨ga,off+k,none⟩=some v) (hga : ¬In3 dp g mb ga) :
 Calls Try.prog 40 #[.slice (some ⟨ga,off,none⟩) ops.length c] w fun e w'=>e = .returned (.int .i64 (d.run ops).2)∧DkIs w' dp g mb cap (m+ops.length) (d.run ops).1∧Chg (In3 dp g mb) w w':=by
 have hvl:=hv.len
 have at_ : ∀ k,k<ops.length → ∃ v o,vs[k]? = some v∧ops[k]? = some o:=fun k hk=>⟨_,_,List.getElem?_eq_getElem (by omega),List.getElem?_eq_getElem hk⟩
 have stp : ∀ k v o W,vs[k]? = some v→ops[k]? = some o→RunJ dp g mb cap m d ops w k W→StepV A dp W v o:=fun k v o W h1 h2 hJ=>(hv.chg hJ.2.2 hA).at_ k v o h1 h2
 have key : ∀ k v o,k<ops.length→vs[k]? = some v→ops[k]? = some o → ∀ W,RunJ dp g mb cap m d ops w k W → ∃ fid bd cp,v = .func (.func fid) bd cp∧(∀ args W,(callFunc fid args).run Try.prog W = .ok (.enter fid args) W) ∧
  Calls Try.prog fid (bd++cp) W fun e w'=>e = .returned (.int .i64 ((d.upTo ops k).op o).2)∧DkIs w' dp g mb cap (m+k+1) ((d.upTo ops k).op o).1∧Chg (In3 dp g mb) W w':=fun k v o hk h1 h2 W hJ =>
  step_run A dp g mb cap (m+k) (d.upTo ops k) W hJ.2.1 (by omega) v o (stp k v o W h1 h2 hJ)
 have form : ∀ k v,k<ops.length→vs[k]? = some v → ∃ fid bd cp,v = .func (.func fid) bd cp∧(∀ args W,(callFunc fid args).run Try.prog W = .ok (.enter fid args) W):=fun k v hk h1=>by
  obtain ⟨_,o,_,ho⟩:=at_ k hk
  have hs:=hv.at_ k v o h1 ho
  cases o with
  | f=>obtain rfl:=hs;exact ⟨_,_,_,rfl,enters_of Try.func16 (by kernel_rfl) rfl⟩
  | w i s=>obtain ⟨_,a,b,c,_,rfl,_⟩:=hs;exact ⟨_,_,_,rfl,enters_of Try.func50 (by kernel_rfl) rfl⟩
 refine (prun_any ga off ops.length c (by omega) (fun k=>fidOf (vs.getD k undef)) (fun k=>bdOf (vs.getD k undef)) (fun k=>cpOf (vs.getD k undef)) (RunJ dp g mb cap m d ops w) (RunQ dp g mb cap m ops.length d ops w) w ⟨Dk.fine_zero _ _,hd,Chg.refl _ _⟩ ⟨?_⟩ ⟨?_⟩ ⟨?_⟩).mono ?_
 · intro k hk args W
   obtain ⟨v,o,h1,_⟩:=at_ k hk
   obtain ⟨fid,bd,cp,rfl,he⟩:=form k v hk h1
   have:fidOf (vs.getD k undef)=fid:=by rw [List.getD_eq_getElem?_getD,h1];rfl
   simp only [this];exact he args W
 · intro k hk W hJ
   obtain ⟨v,o,h1,_⟩:=at_ k hk
   obtain ⟨fid,bd,cp,rfl,he⟩:=form k v hk h1
   have e1:vs.getD k undef = .func (.func fid) bd cp:=by rw [List.getD_eq_getElem?_getD,h1];rfl
   simp only [e1]
   have h2:=hc k _ h1
   rw [World.cell?_of_block (hJ.2.2.block _ (World.block_lt_of_cell? w _ h2) hga)]
   exact h2
 · intro k hk W hJ
   obtain ⟨v,o,h1,ho⟩:=at_ k hk
   obtain ⟨fid,bd,cp,rfl,he,hC⟩:=key k v o hk h1 ho W hJ
   have e1:vs.getD k undef = .func (.func fid) bd cp:=by rw [List.getD_eq_getElem?_getD,h1];rfl
   simp only [e1]
   refine hC.mono ?_
   rintro e w' ⟨rfl,h3,h4⟩
   by_cases h0:((d.upTo ops k).op o).2=0
   · refine .inl ⟨by rw [h0],Dk.fine_succ hJ.1 ho h0,?_,hJ.2.2.trans h4 fun _ _ h=>h⟩
     rw [Dk.upTo_succ ho];exact h3
   · refine .inr ⟨_,h0,rfl,?_⟩
     have hr:=Dk.run_fail hJ.1 ho h0
     exact ⟨by rw [hr],by rw [hr];exact h3.mono (by omega),hJ.2.2.trans h4 fun _ _ h=>h⟩
 · rintro e w' (⟨rfl,hf,h1,h2⟩ | ⟨er,_,rfl,h1,h2,h3⟩)
   · rw [Dk.run_all hf]
     exact ⟨rfl,h1,h2⟩
   · exact ⟨by rw [h1],h2,h3⟩
end
section
open Go.Sort Go.RowKit
@[go_sem] def relUponG (Le : World → World → Prop) (P : Program) (w : World) (R : Value → World → Prop) : Result Next → Prop
  | .ok (.value u) w'=>Le w w'∧R u w'
  | .ok (.enter f args) w'=>w'=w∧Calls P f args w (fun e w'' => ∃ v,e = .returned v∧Le w w''∧R v w'')
  | _=>False
structure LeW (Le:World→World→Prop):Prop where
 trans : ∀ {a b c:World},Le a b→Le b c→Le a c
 drew : ∀ (w:World) (n:Nat),Le w { w with drawn:=n }
def FirmG (Le:World→World→Prop) (R:Value→World→Prop):Prop := ∀ v w w',Le w w'→R v w→R v w'
structure RIG (Le:World→World→Prop) (l:List Oper) (n:Nat) (R:Nat→Value→World→Prop) (W:World) (a:Act) (s:Array Bool) (a':Act) (w':World):Prop where
 tsize:a'.tmps.size=a.tmps.size
 defers:a'.defers=a.defers
 old : ∀ x:Nat,(∀ i,i<n→s.getD i false=true→dstAt l i ≠ some x)→a'.tmps[x]? = a.tmps[x]?
 head : ∀ i d,i<n→s.getD i false=true→dstAt l i=some d → ∃ v,a'.tmps[d]? = some v∧R i v w'
 below:Le W w'
section
variable {P:Program} {l:List Oper} {n:Nat} {R:Nat→Value→World→Prop} {W:World} {a:Act} {Le:World→World→Prop}
theorem riG_step (LE:LeW Le) (B:RelB l n) (hf : ∀ i,i<n→FirmG Le (R i)) (hd : ∀ i d,i<n→dstAt l i=some d→d<a.tmps.size)
 (hop : ∀ i o,i<n→l[i]? = some o → ∀ (ρ:Operand→Value) w,Le W w→(∀ v,ρ (.const v)=v)→(∀ g,ρ (.global g) = .pointer (some ⟨g,0,none⟩))→(∀ f,ρ (.func f) = .func (.func f) #[] #[]) →
  (∀ d,.tmp d∈o.op.operands→Known l n R a d (ρ (.tmp d)) w)→relUponG Le P w (R i) ((execOp ρ o).run P w))
 {Q:Exit→Act→World→Prop} {s:Array Bool} (hs:s.size=n) {a':Act} {w':World} (I:RIG Le l n R W a s a' w') {i:Nat} (hin:i<n) (hr:i∈Region.ready .any l.toArray (s++Array.replicate (l.length - n) false)) (hun:s.getD i true=false) :
 wpOp P l.toArray Q i (fun a'' w''=>RIG Le l n R W a (s.setIfInBounds i true) a'' w'') a' w':=by
 obtain ⟨_,o,ho,hall⟩:=mem_ready.1 hr
 have hol:l[i]? = some o:=by simpa using ho
 have hdo:dstAt l i=o.dst:=by simp [dstAt,hol]
 obtain ⟨di,hdi⟩:=B.dst i o hin hol
 have hself:=getD_set_self (s:=s) (i:=i) (by omega)
 have hnew : ∀ j,j ≠ i→(s.setIfInBounds i true).getD j false=s.getD j false:=fun j hj=>getD_set_ne false (Ne.symm hj)
 unfold wpOp
 simp only [ho]
 have hw:Region.wanted o (yielded l.toArray a'.tmps)=true:=by simp [Region.wanted,B.guard i o hin hol]
 rw [if_pos hw]
 left
 have hk : ∀ d,.tmp d∈o.op.operands→Known l n R a d (a'.eval (.tmp d)) w':=by
  intro d hd'
  unfold Known
  cases hm:maker l n d with
  | some j =>
    obtain ⟨hj,hdj⟩:=maker_spec hm
    obtain ⟨hji,hwt⟩:=B.data i o d j hin hol hd' hj hdj
    have hlj:=waits_listed hwt hr
    rw [app_get hs hj] at hlj
    obtain ⟨v,h1,h2⟩:=I.head j d hj hlj hdj
    have:a'.eval (.tmp d)=v:=by simp [Act.eval,Array.getD_eq_getD_getElem?,h1]
    rw [this];exact h2
  | none=>exact eval_tmp (I.old d fun j hj _ e=>maker_none hm j hj e)
 have hrun:=hop i o hin hol a'.eval w' I.below (fun _=>rfl) (fun _=>rfl) (fun _=>rfl) hk
 have post : ∀ v w'',Le w' w''→R i v w''→RIG Le l n R W a (s.setIfInBounds i true) (a'.put o.dst v) w'':=by
  intro v w'' hb hR
  refine ⟨by rw [put_size,I.tsize],by rw [put_defers,I.defers],fun x hx=>?_,fun j d hj hs' hdj=>?_,LE.trans I.below hb⟩
  · rw [put_other v (fun e=>hx i hin hself (by rw [hdo];exact e))]
    refine I.old x fun j hj hs'=>hx j hj ?_
    by_cases e:j=i
    · subst e;exact hself
    · rw [hnew j e];exact hs'
  · by_cases e:j=i
    · subst e
      rw [hdo] at hdj
      rw [hdj,put_same v (by rw [I.tsize];exact hd j d hin (by rw [hdo];exact hdj))]
      exact ⟨v,rfl,hR⟩
    · rw [hnew j e] at hs'
      obtain ⟨u,h1,h2⟩:=I.head j d hj hs' hdj
      rw [put_other v (fun e'=>B.dist j i d hj hin e hdj (by rw [hdo];exact e'))]
      exact ⟨u,h1,hf j hj u w' w'' hb h2⟩
 unfold Oper.wp
 generalize (execOp a'.eval o).run P w'=r at hrun
 cases r with
 | ok nx w'' =>
   cases nx <;> simp only [relUponG] at hrun <;> simp only [Oper.upon]
   case value u=>exact post _ _ hrun.1 hrun.2
   case enter f args =>
    obtain ⟨rfl,hc⟩:=hrun
    refine hc.mono fun e w3 ⟨v,he,hb,hR⟩=>?_
    subst he
    exact post _ _ hb hR
 | halt x w''=>simp only [relUponG] at hrun
end
end
section
open Go.Sort Go.RowKit
section
variable {P:Program} {l:List Oper} {n:Nat} {R:Nat→Value→World→Prop} {W:World} {a:Act}
theorem ri_anyT (hn:n≤l.length) (B:RelB l n) (hb:backB .any l n=true) (ht:tailT .any l n=true) (hf : ∀ i,i<n→Firm (R i)) (hd : ∀ i d,i<n→dstAt l i=some d→d<a.tmps.size)
 (hop : ∀ i o,i<n→l[i]? = some o → ∀ (ρ:Operand→Value) w,Below W.heap.size W w→(∀ v,ρ (.const v)=v)→(∀ g,ρ (.global g) = .pointer (some ⟨g,0,none⟩))→(∀ f,ρ (.func f) = .func (.func f) #[] #[]) →
  (∀ d,.tmp d∈o.op.operands→Known l n R a d (ρ (.tmp d)) w)→relUpon P w (R i) ((execOp ρ o).run P w))
 {Q:Exit→Act→World→Prop} (hend : ∀ a' w',RI l n R W a (Array.replicate n true) a' w'→wpAny P .any l.toArray Q (l.length - n) (Array.replicate n true++Array.replicate (l.length - n) false) a' w') :
 ∀ (f:Nat) (s:Array Bool) (a':Act) (w':World),s.size=n→Shut .any l s→unl s=f→RI l n R W a s a' w'→wpAny P .any l.toArray Q (f+(l.length - n)) (s++Array.replicate (l.length - n) false) a' w'
 | 0, s, a', w', hs, _, hu, I => by
   have e:s=Array.replicate n true:=by rw [←hs];exact unl_zero hu
   rw [Nat.zero_add,e]
   rw [e] at I
   exact hend a' w' I
 | f + 1, s, a', w', hs, hsh, hu, I => by
   obtain ⟨k,hk,hun⟩:=unl_pos (s:=s) (by omega)
   rw [show f+1+(l.length - n)=(f+(l.length - n))+1 by omega]
   refine ⟨fun h0=>?_,fun i hi=>?_⟩
   · obtain ⟨i,hi⟩:=ready_some (g:=l.length - n) hs hn hb (k+1) k (by omega) (by omega) hun
     rw [h0] at hi;cases hi
   · have hin:=ready_not_tailT hs hsh (by omega:k<n) hun ht hi
     have hiu:s.getD i true=false:=by have:=(mem_ready.1 hi).1;rwa [app_get hs hin] at this
     refine wpOp_mono (fun a'' w'' I'=>?_) (ri_step B hf hd hop hs I hin hi hiu)
     rw [app_set (by omega)]
     refine ri_anyT hn B hb ht hf hd hop hend f _ a'' w'' (by simpa using hs) (shut_set hsh (ready_head hs hin hb hi) hin) ?_ I'
     have:=unl_set (s:=s) (by omega) hiu
     omega
def headRT (l:List Oper) (n:Nat):Bool :=
 decide (n<l.length) && backB .any l n && tailT .any l n && relB l n && Region.seqB .any l.toArray (l.length - n) n (Array.replicate n true++Array.replicate (l.length - n) false)
theorem any_relT {Q:Exit→Act→World→Prop} (n:Nat) (R:Nat→Value→World→Prop) (hB:headRT l n=true) (m:Nat) (hdm:dstB l m=true) (ham:a.tmps.size=m)
 (hf : ∀ i,i<n→Firm (R i))
 (hop : ∀ i o,i<n→l[i]? = some o → ∀ (ρ:Operand→Value) w,Below W.heap.size W w→(∀ v,ρ (.const v)=v)→(∀ g,ρ (.global g) = .pointer (some ⟨g,0,none⟩))→(∀ f,ρ (.func f) = .func (.func f) #[] #[]) →
  (∀ d,.tmp d∈o.op.operands→Known l n R a d (ρ (.tmp d)) w)→relUpon P w (R i) ((execOp ρ o).run P w))
 (h : ∀ (vs:List Value) w',vs.length=n→Below W.heap.size W w'→(∀ i v,vs[i]? = some v→R i v w')→wpList P l.toArray Q (l.drop n) (puts (((l.take n).map (·.dst)).zip vs) a) w'):wpAny P .any l.toArray Q l.toArray.size (Array.replicate l.toArray.size false) a { W with drawn:=W.drawn+1 }:=by
 simp only [headRT,Bool.and_eq_true,decide_eq_true_eq] at hB
 obtain ⟨⟨⟨⟨hn,hb⟩,ht⟩,hrel⟩,hseq⟩:=hB
 have B:=relB_spec hrel
 have hd : ∀ i d,i<n→dstAt l i=some d→d<a.tmps.size:=fun i d _ hd=>by rw [ham];exact dstB_spec hdm hd
 have:=ri_anyT (Q:=Q) (by omega) B hb ht hf hd hop (fun a' w' I=>?_) n (Array.replicate n false) a { W with drawn:=W.drawn+1 } (by simp) (fun m k h=>by
  simp only [Array.getD_eq_getD_getElem?,Array.getElem?_replicate] at h
  split at h <;> simp at h) (by simp [unl])
  ⟨rfl,rfl,fun x _=>rfl,fun i d _ hs=>(by rw [getD_replicate_false] at hs;cases hs),⟨rfl,rfl,rfl,Nat.le_refl _,fun _ _=>rfl⟩⟩
 · have e:Array.replicate n false++Array.replicate (l.length - n) false=Array.replicate l.toArray.size false:=by
    rw [Array.replicate_append_replicate];congr 1;simp;omega
   rw [e,show n+(l.length - n)=l.toArray.size by simp;omega] at this
   exact this
 · have hv : ∀ i,∃ v,i<n→(∃ d,dstAt l i=some d∧a'.tmps[d]? = some v)∧R i v w':=by
    intro i
    by_cases hi:i<n
    · obtain ⟨o,ho⟩ : ∃ o,l[i]? = some o:=⟨_,List.getElem?_eq_getElem (by omega)⟩
      obtain ⟨d,hdd⟩:=B.dst i o hi ho
      have hdl:dstAt l i=some d:=by simp [dstAt,ho,hdd]
      obtain ⟨v,h1,h2⟩:=I.head i d hi (by simp [hi]) hdl
      exact ⟨v,fun _=>⟨⟨d,hdl,h1⟩,h2⟩⟩
    · exact ⟨undef,fun h=>absurd h hi⟩
   obtain ⟨g,hg⟩:=Classical.axiomOfChoice hv
   have hlen:((List.range n).map g).length=n:=by simp
   have hz : ∀ i,i<n→(((l.take n).map (·.dst)).zip ((List.range n).map g))[i]? = some (dstAt l i,g i):=by
    intro i hi
    rw [(List.getElem?_zip_eq_some (z:=(dstAt l i,g i))).2]
    refine ⟨?_,by simp [hi]⟩
    rw [List.getElem?_map,List.getElem?_take,if_pos hi]
    unfold dstAt
    rw [List.getElem?_eq_getElem (show i<l.length by omega)];rfl
   have hlt : ∀ {i p},(((l.take n).map (·.dst)).zip ((List.range n).map g))[i]? = some p→i<n:=by
    intro i p hp
    have:=(List.getElem?_eq_some_iff.1 hp).1
    simp at this;omega
   have heq:a'=puts (((l.take n).map (·.dst)).zip ((List.range n).map g)) a:=by
    refine act_ext ?_ fun x=>?_
    · rw [(puts_size _ _).2];exact I.defers
    · by_cases hx : ∃ i,i<n∧dstAt l i=some x
      · obtain ⟨i,hi,hdx⟩:=hx
        obtain ⟨⟨d,h1,h2⟩,_⟩:=hg i hi
        rw [hdx] at h1
        obtain rfl:=Option.some.inj h1
        rw [h2]
        symm
        refine puts_in _ a x _ (hd i x hi hdx) ?_ (List.mem_iff_getElem?.2 ⟨i,by rw [hz i hi,hdx]⟩)
        rw [List.pairwise_iff_getElem]
        intro p q hp hq hpq d' e1 e2
        have n1:=hz p (hlt (List.getElem?_eq_getElem hp))
        have n2:=hz q (hlt (List.getElem?_eq_getElem hq))
        rw [List.getElem?_eq_getElem hp] at n1
        rw [List.getElem?_eq_getElem hq] at n2
        rw [Option.some.inj n1] at e1
        rw [Option.some.inj n2] at e2
        exact B.dist p q d' (hlt (List.getElem?_eq_getElem hp)) (hlt (List.getElem?_eq_getElem hq)) (by omega) e1 e2
      · rw [puts_out _ _ x (fun p hp e=>by
         obtain ⟨i,hi⟩:=List.mem_iff_getElem?.1 hp
         have hin:=hlt hi
         rw [hz i hin] at hi
         have:=Option.some.inj hi
         subst this
         exact hx ⟨i,hin,e⟩)]
        exact I.old x fun i hi _ e=>hx ⟨i,hi,e⟩
   have hres:=h ((List.range n).map g) w' hlen I.below (fun i v hi=>by
    have hin:i<n:=by have:=(List.getElem?_eq_some_iff.1 hi).1;simpa using this
    have:v=g i:=by simpa [hin] using hi.symm
    rw [this];exact (hg i hin).2)
   rw [←heq] at hres
   have:=wpAny_of_seq (P:=P) (md:=.any) (ops:=l.toArray) (Q':=Q) (l.drop n) n (Array.replicate n true++Array.replicate (l.length - n) false) a' w' (fun j=>by simp [List.getElem?_drop]) (by simpa using hseq) hres
   simpa using this
theorem wp_region_relT {id:Nat} {Q:Exit→Act→World→Prop} (n:Nat) (R:Nat→Value→World→Prop) (hm:P.follows .mixedOrders=true) (hB:headRT l n=true) (m:Nat) (hdm:dstB l m=true) (ham:a.tmps.size=m)
 (hf : ∀ i,i<n→Firm (R i))
 (hop : ∀ i o,i<n→l[i]? = some o → ∀ (ρ:Operand→Value) w,Below W.heap.size W w→(∀ v,ρ (.const v)=v)→(∀ g,ρ (.global g) = .pointer (some ⟨g,0,none⟩))→(∀ f,ρ (.func f) = .func (.func f) #[] #[]) →
  (∀ d,.tmp d∈o.op.operands→Known l n R a d (ρ (.tmp d)) w)→relUpon P w (R i) ((execOp ρ o).run P w))
 (h : ∀ (vs:List Value) w',vs.length=n→Below W.heap.size W w'→(∀ i v,vs[i]? = some v→R i v w')→wpList P l.toArray Q (l.drop n) (puts (((l.take n).map (·.dst)).zip vs) a) w'):(Code.region id l.toArray true).wp P Q a W :=
 wp_region_any hm (any_relT n R hB m hdm ham hf hop h)
end
end
section
open Go.Sort Go.RowKit
def textOp (o:Oper):Bool:=match o.op with
 | .move _ | .assign _ | .extract .. => true
 | _=>false
theorem none_in {x:Event} : ¬x∈(#[]:Array Event):=by simp
section
variable {P:Program} {ops:Array Oper} {Q:Exit→Act→World→Prop} {a:Act} {w:World}
theorem text_step {o:Oper} (ht:textOp o=true) {K:Act→World→Prop} (h:o.wp P a w K Q∨(o.asks P a w∧LetsOut Q)):o.quiet P a (fun w'=>w'=w) (fun a'=>K a' w):=by
 unfold textOp at ht
 unfold Oper.quiet Oper.quietAt Oper.wp Oper.asks at *
 obtain ⟨op,dst,g,af⟩:=o
 simp only at ht
 split at ht
 · rcases h with h | ⟨h,-⟩
   · exact ⟨_,fun w' e=>by subst e;exact ⟨rfl,rfl⟩,h⟩
   · exact absurd h.1 none_in
 · rcases h with h | ⟨h,-⟩
   · exact ⟨_,fun w' e=>by subst e;exact ⟨rfl,rfl⟩,h⟩
   · exact absurd h.1 none_in
 · rename_i t ix
   simp only [execOp] at h ⊢
   generalize a.eval t=v at *
   unfold Instr.extract at h
   split at h
   · rename_i vs
     split at h
     · rename_i x hx
       rcases h with h | ⟨h,-⟩
       · refine ⟨x,fun w' e=>?_,h⟩
         subst e
         rw [show Instr.extract (Value.tuple vs) ix=pure x by unfold Instr.extract;simp only [hx]]
         exact ⟨rfl,rfl⟩
       · exact absurd h.1 none_in
     · rcases h with h | ⟨h,-⟩
       · exact h.elim
       · exact absurd h.1 none_in
   · rcases h with h | ⟨h,-⟩
     · exact h.elim
     · exact absurd h.1 none_in
 · cases ht
theorem text_quiet : ∀ (l:List Oper) (a:Act),l.all textOp=true→wpList P ops Q l a w→wpQuiet P ops (fun w'=>w'=w) (fun a'=>Q .normal a' w) l a
 | [],_,_,h=>h
 | o :: l, a, hl, h => by
   simp only [List.all_cons,Bool.and_eq_true] at hl
   unfold wpList at h
   unfold wpQuiet
   split
   · rename_i hw
     rw [if_pos hw] at h
     exact Oper.quiet_mono (fun a' h'=>text_quiet l a' hl.2 h') (text_step hl.1 h)
   · rename_i hw
     rw [if_neg hw] at h
     exact text_quiet l _ hl.2 h
def seqX (md:Region.Mode) (ops:Array Oper):Nat→List Oper→Nat→Array Bool→Bool
 | 0,l,k,listed=>l.all textOp && Region.noSelect ops && Region.lexFrom md ops l.length k listed
 | _+1,[],_,listed=>(Region.ready md ops listed).isEmpty
 | m+1,_::l,k,listed=>decide (Region.ready md ops listed=[k]) && seqX md ops m l (k+1) (listed.setIfInBounds k true)
theorem wpAny_of_seqX {md:Region.Mode} : ∀ (m:Nat) (l:List Oper) (k:Nat) (listed:Array Bool) (a:Act) (w:World),(∀ j,l[j]? = ops[k+j]?) →
 seqX md ops m l k listed=true→wpList P ops Q l a w→wpAny P md ops Q l.length listed a w
 | 0, l, k, listed, a, w, hl, hB, h => by
   simp only [seqX,Bool.and_eq_true] at hB
   exact wpAny_of_quiet (C:=fun w'=>w'=w) (Q:=fun a'=>Q .normal a' w) (fun a' w' e h'=>by subst e;exact h') _ _ _ _ rfl (wpAnyQ_lex hB.1.2 l k listed a hl hB.2 (text_quiet l a hB.1.1 h))
 | _+1,[],_,_,_,_,_,hB,h=>⟨by simpa [seqX] using hB,h⟩
 | m + 1, o :: l, k, listed, a, w, hl, hB, h => by
   have h0:ops[k]? = some o:=by simpa using (hl 0).symm
   simp only [seqX,Bool.and_eq_true,decide_eq_true_eq] at hB
   refine ⟨fun h1=>(by rw [hB.1] at h1;cases h1),fun i hi=>?_⟩
   rw [hB.1] at hi
   have hik:i=k:=by simpa using hi
   subst hik
   have hw:wpOp P ops Q i (wpList P ops Q l) a w:=by unfold wpOp;simp only [h0];exact h
   exact wpOp_mono (fun a' w' h'=>wpAny_of_seqX m l (i+1) _ a' w' (fun j=>by have:=hl (j+1);simpa [Nat.add_assoc,Nat.add_comm 1 j] using this) hB.2 h') hw
end
def tailX (l:List Oper) (n:Nat):Bool :=
 ((List.range n).all fun k=>Region.waitsFor .any l.toArray n k || (List.range n).any fun m=>decide (k<m) && Region.waitsFor .any l.toArray m k) && (List.range l.length).all fun t=>decide (t≤n) || (List.range t).any fun u=>decide (n≤u) && Region.waitsFor .any l.toArray t u
section
variable {l:List Oper} {n:Nat}
theorem not_firstX {s:Array Bool} (hs:s.size=n) {g:Nat} (hsh:Shut .any l s) (ht:tailX l n=true) (h:n∈Region.ready .any l.toArray (s++Array.replicate g false)) : ∀ (d k:Nat),n - k≤d→k<n→s.getD k false=false→False
 | 0,k,h1,h2,_=>by omega
 | d + 1, k, hd, hk, hun => by
   obtain ⟨h1,o,ho,h2⟩:=mem_ready.1 h
   have ht':=ht
   simp only [tailX,Bool.and_eq_true] at ht'
   have h3:=List.all_eq_true.1 ht'.1 k (List.mem_range.2 hk)
   simp only [Bool.or_eq_true] at h3
   rcases h3 with h3 | h3
   · obtain ⟨o',ho',e,he,hbi,hon⟩:=Region.waitsFor_spec h3
     obtain rfl:o'=o:=Option.some.inj (ho'.symm.trans ho)
     have:=h2 e he hbi
     rw [hon,app_get hs hk,hun] at this
     cases this
   · obtain ⟨m,hm,h4⟩:=List.any_eq_true.1 h3
     simp only [Bool.and_eq_true,decide_eq_true_eq] at h4
     have hmn:=List.mem_range.1 hm
     refine not_firstX hs hsh ht h d m (by omega) hmn ?_
     cases hx:s.getD m false with
     | false=>rfl
     | true=>have:=hsh m k hx h4.2;rw [hun] at this;cases this
theorem ready_not_tailX {s:Array Bool} (hs:s.size=n) (hsh:Shut .any l s) {g i k:Nat} (hk:k<n) (hun:s.getD k false=false) (ht:tailX l n=true) (h:i∈Region.ready .any l.toArray (s++Array.replicate g false)):i<n:=by
 obtain ⟨h1,o,ho,h2⟩:=mem_ready.1 h
 rcases Nat.lt_or_ge i n with hlt | hge
 · exact hlt
 · exfalso
   have hil:i<l.length:=by have:=(Array.getElem?_eq_some_iff.1 ho).1;simpa using this
   by_cases hin:i=n
   · subst hin
     exact not_firstX hs hsh ht h (i - k) k (Nat.le_refl _) hk hun
   · have ht':=ht
     simp only [tailX,Bool.and_eq_true] at ht'
     have h3:=List.all_eq_true.1 ht'.2 i (List.mem_range.2 hil)
     simp only [Bool.or_eq_true,decide_eq_true_eq] at h3
     rcases h3 with h3 | h3
     · omega
     · obtain ⟨u,hu,h4⟩:=List.any_eq_true.1 h3
       simp only [Bool.and_eq_true,decide_eq_true_eq] at h4
       obtain ⟨o',ho',e,he,hbi,hon⟩:=Region.waitsFor_spec h4.2
       obtain rfl:o'=o:=Option.some.inj (ho'.symm.trans ho)
       have:=h2 e he hbi
       rw [hon,app_tail hs (by omega)] at this
       cases this
end
section
variable {P:Program} {l:List Oper} {n:Nat} {R:Nat→Value→World→Prop} {W:World} {a:Act}
theorem ri_anyX (hn:n≤l.length) (B:RelB l n) (hb:backB .any l n=true) (ht:tailX l n=true) (hf : ∀ i,i<n→Firm (R i)) (hd : ∀ i d,i<n→dstAt l i=some d→d<a.tmps.size)
 (hop : ∀ i o,i<n→l[i]? = some o → ∀ (ρ:Operand→Value) w,Below W.heap.size W w→(∀ v,ρ (.const v)=v)→(∀ g,ρ (.global g) = .pointer (some ⟨g,0,none⟩))→(∀ f,ρ (.func f) = .func (.func f) #[] #[]) →
  (∀ d,.tmp d∈o.op.operands→Known l n R a d (ρ (.tmp d)) w)→relUpon P w (R i) ((execOp ρ o).run P w))
 {Q:Exit→Act→World→Prop} (hend : ∀ a' w',RI l n R W a (Array.replicate n true) a' w'→wpAny P .any l.toArray Q (l.length - n) (Array.replicate n true++Array.replicate (l.length - n) false) a' w') :
 ∀ (f:Nat) (s:Array Bool) (a':Act) (w':World),s.size=n→Shut .any l s→unl s=f→RI l n R W a s a' w'→wpAny P .any l.toArray Q (f+(l.length - n)) (s++Array.replicate (l.length - n) false) a' w'
 | 0, s, a', w', hs, _, hu, I => by
   have e:s=Array.replicate n true:=by rw [←hs];exact unl_zero hu
   rw [Nat.zero_add,e]
   rw [e] at I
   exact hend a' w' I
 | f + 1, s, a', w', hs, hsh, hu, I => by
   obtain ⟨k,hk,hun⟩:=unl_pos (s:=s) (by omega)
   rw [show f+1+(l.length - n)=(f+(l.length - n))+1 by omega]
   refine ⟨fun h0=>?_,fun i hi=>?_⟩
   · obtain ⟨i,hi⟩:=ready_some (g:=l.length - n) hs hn hb (k+1) k (by omega) (by omega) hun
     rw [h0] at hi;cases hi
   · have hin:=ready_not_tailX hs hsh (by omega:k<n) hun ht hi
     have hiu:s.getD i true=false:=by have:=(mem_ready.1 hi).1;rwa [app_get hs hin] at this
     refine wpOp_mono (fun a'' w'' I'=>?_) (ri_step B hf hd hop hs I hin hi hiu)
     rw [app_set (by omega)]
     refine ri_anyX hn B hb ht hf hd hop hend f _ a'' w'' (by simpa using hs) (shut_set hsh (ready_head hs hin hb hi) hin) ?_ I'
     have:=unl_set (s:=s) (by omega) hiu
     omega
def headRX (l:List Oper) (n m:Nat):Bool :=
 decide (n<l.length) && backB .any l n && tailX l n && relB l n && seqX .any l.toArray m (l.drop n) n (Array.replicate n true++Array.replicate (l.length - n) false)
theorem any_relX {Q:Exit→Act→World→Prop} (n m:Nat) (R:Nat→Value→World→Prop) (hB:headRX l n m=true) (mt:Nat) (hdm:dstB l mt=true) (ham:a.tmps.size=mt)
 (hf : ∀ i,i<n→Firm (R i))
 (hop : ∀ i o,i<n→l[i]? = some o → ∀ (ρ:Operand→Value) w,Below W.heap.size W w→(∀ v,ρ (.const v)=v)→(∀ g,ρ (.global g) = .pointer (some ⟨g,0,none⟩))→(∀ f,ρ (.func f) = .func (.func f) #[] #[]) →
  (∀ d,.tmp d∈o.op.operands→Known l n R a d (ρ (.tmp d)) w)→relUpon P w (R i) ((execOp ρ o).run P w))
 (h : ∀ (vs:List Value) w',vs.length=n→Below W.heap.size W w'→(∀ i v,vs[i]? = some v→R i v w')→wpList P l.toArray Q (l.drop n) (puts (((l.take n).map (·.dst)).zip vs) a) w'):wpAny P .any l.toArray Q l.toArray.size (Array.replicate l.toArray.size false) a { W with drawn:=W.drawn+1 }:=by
 simp only [headRX,Bool.and_eq_true,decide_eq_true_eq] at hB
 obtain ⟨⟨⟨⟨hn,hb⟩,ht⟩,hrel⟩,hseq⟩:=hB
 have B:=relB_spec hrel
 have hd : ∀ i d,i<n→dstAt l i=some d→d<a.tmps.size:=fun i d _ hd=>by rw [ham];exact dstB_spec hdm hd
 have:=ri_anyX (Q:=Q) (by omega) B hb ht hf hd hop (fun a' w' I=>?_) n (Array.replicate n false) a { W with drawn:=W.drawn+1 } (by simp) (fun m k h=>by
  simp only [Array.getD_eq_getD_getElem?,Array.getElem?_replicate] at h
  split at h <;> simp at h) (by simp [unl])
  ⟨rfl,rfl,fun x _=>rfl,fun i d _ hs=>(by rw [getD_replicate_false] at hs;cases hs),⟨rfl,rfl,rfl,Nat.le_refl _,fun _ _=>rfl⟩⟩
 · have e:Array.replicate n false++Array.replicate (l.length - n) false=Array.replicate l.toArray.size false:=by
    rw [Array.replicate_append_replicate];congr 1;simp;omega
   rw [e,show n+(l.length - n)=l.toArray.size by simp;omega] at this
   exact this
 · have hv : ∀ i,∃ v,i<n→(∃ d,dstAt l i=some d∧a'.tmps[d]? = some v)∧R i v w':=by
    intro i
    by_cases hi:i<n
    · obtain ⟨o,ho⟩ : ∃ o,l[i]? = some o:=⟨_,List.getElem?_eq_getElem (by omega)⟩
      obtain ⟨d,hdd⟩:=B.dst i o hi ho
      have hdl:dstAt l i=some d:=by simp [dstAt,ho,hdd]
      obtain ⟨v,h1,h2⟩:=I.head i d hi (by simp [hi]) hdl
      exact ⟨v,fun _=>⟨⟨d,hdl,h1⟩,h2⟩⟩
    · exact ⟨undef,fun h=>absurd h hi⟩
   obtain ⟨g,hg⟩:=Classical.axiomOfChoice hv
   have hlen:((List.range n).map g).length=n:=by simp
   have hz : ∀ i,i<n→(((l.take n).map (·.dst)).zip ((List.range n).map g))[i]? = some (dstAt l i,g i):=by
    intro i hi
    rw [(List.getElem?_zip_eq_some (z:=(dstAt l i,g i))).2]
    refine ⟨?_,by simp [hi]⟩
    rw [List.getElem?_map,List.getElem?_take,if_pos hi]
    unfold dstAt
    rw [List.getElem?_eq_getElem (show i<l.length by omega)];rfl
   have hlt : ∀ {i p},(((l.take n).map (·.dst)).zip ((List.range n).map g))[i]? = some p→i<n:=by
    intro i p hp
    have:=(List.getElem?_eq_some_iff.1 hp).1
    simp at this;omega
   have heq:a'=puts (((l.take n).map (·.dst)).zip ((List.range n).map g)) a:=by
    refine act_ext ?_ fun x=>?_
    · rw [(puts_size _ _).2];exact I.defers
    · by_cases hx : ∃ i,i<n∧dstAt l i=some x
      · obtain ⟨i,hi,hdx⟩:=hx
        obtain ⟨⟨d,h1,h2⟩,_⟩:=hg i hi
        rw [hdx] at h1
        obtain rfl:=Option.some.inj h1
        rw [h2]
        symm
        refine puts_in _ a x _ (hd i x hi hdx) ?_ (List.mem_iff_getElem?.2 ⟨i,by rw [hz i hi,hdx]⟩)
        rw [List.pairwise_iff_getElem]
        intro p q hp hq hpq d' e1 e2
        have n1:=hz p (hlt (List.getElem?_eq_getElem hp))
        have n2:=hz q (hlt (List.getElem?_eq_getElem hq))
        rw [List.getElem?_eq_getElem hp] at n1
        rw [List.getElem?_eq_getElem hq] at n2
        rw [Option.some.inj n1] at e1
        rw [Option.some.inj n2] at e2
        exact B.dist p q d' (hlt (List.getElem?_eq_getElem hp)) (hlt (List.getElem?_eq_getElem hq)) (by omega) e1 e2
      · rw [puts_out _ _ x (fun p hp e=>by
         obtain ⟨i,hi⟩:=List.mem_iff_getElem?.1 hp
         have hin:=hlt hi
         rw [hz i hin] at hi
         have:=Option.some.inj hi
         subst this
         exact hx ⟨i,hin,e⟩)]
        exact I.old x fun i hi _ e=>hx ⟨i,hi,e⟩
   have hres:=h ((List.range n).map g) w' hlen I.below (fun i v hi=>by
    have hin:i<n:=by have:=(List.getElem?_eq_some_iff.1 hi).1;simpa using this
    have:v=g i:=by simpa [hin] using hi.symm
    rw [this];exact (hg i hin).2)
   rw [←heq] at hres
   have:=wpAny_of_seqX (P:=P) (md:=.any) (ops:=l.toArray) (Q:=Q) m (l.drop n) n (Array.replicate n true++Array.replicate (l.length - n) false) a' w' (fun j=>by simp [List.getElem?_drop]) hseq hres
   simpa using this
theorem wp_region_relX {id:Nat} {Q:Exit→Act→World→Prop} (n m:Nat) (R:Nat→Value→World→Prop) (hm:P.follows .mixedOrders=true) (hB:headRX l n m=true) (mt:Nat) (hdm:dstB l mt=true) (ham:a.tmps.size=mt)
 (hf : ∀ i,i<n→Firm (R i))
 (hop : ∀ i o,i<n→l[i]? = some o → ∀ (ρ:Operand→Value) w,Below W.heap.size W w→(∀ v,ρ (.const v)=v)→(∀ g,ρ (.global g) = .pointer (some ⟨g,0,none⟩))→(∀ f,ρ (.func f) = .func (.func f) #[] #[]) →
  (∀ d,.tmp d∈o.op.operands→Known l n R a d (ρ (.tmp d)) w)→relUpon P w (R i) ((execOp ρ o).run P w))
 (h : ∀ (vs:List Value) w',vs.length=n→Below W.heap.size W w'→(∀ i v,vs[i]? = some v→R i v w')→wpList P l.toArray Q (l.drop n) (puts (((l.take n).map (·.dst)).zip vs) a) w'):(Code.region id l.toArray true).wp P Q a W :=
 wp_region_any hm (any_relX n m R hB mt hdm ham hf hop h)
end
end
end Go.Proofs.Ytajhkncolbgkbaa
