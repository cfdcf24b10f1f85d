/- Pst, Pwi, Pgi: joined by program, for one claim. -/
import Derived.Test.YtajhkncolbgkbaaDoorM9
import Derived.Test.YtajhkncolbgkbaaDoorM7
import Derived.Test.YtajhkncolbgkbaaDoorM3
import Derived.Test.YtajhkncolbgkbaaDoorM4
set_option linter.unusedVariables false
set_option linter.unusedSimpArgs false
namespace Go.Proofs.YtajhkncolbgkbaaDoor
section
open Go.RowKit Go.Sort Go.Maps
abbrev putV (a b c:Nat):Value:=.func (.func 66) #[] #[.pointer (some ⟨a,0,none⟩),.pointer (some ⟨b,0,none⟩),.pointer (some ⟨c,0,none⟩)]
abbrev flushV (dp:Nat):Value:=.func (.func 43) #[.pointer (some ⟨dp,0,none⟩)] #[]
def StepV (A:Nat→Prop) (dp:Nat) (W:World) (v:Value):DOp→Prop
 | .w i s=>(s.length=128∧Byts s) ∧ ∃ a b c,(A a∧A b∧A c)∧v=putV a b c∧Bk W a #[.pointer (some ⟨dp,0,none⟩)] 24∧Bk W b #[.int .i64 (i:Int)] 3∧Bk W c #[.string (strOfNums s)] 9
 | .f=>v=flushV dp
theorem StepV.keep {A A':Nat→Prop} {dp:Nat} {W W':World} {v:Value} {o:DOp} (h:StepV A dp W v o) (hA : ∀ k,A k→A' k) (hk : ∀ k,A k→k<W.heap.size→W'.heap[k]? = W.heap[k]?):StepV A' dp W' v o:=by
 cases o with
 | f=>exact h
 | w i s =>
   obtain ⟨h0,a,b,c,⟨ha,hb,hc⟩,hv,h1,h2,h3⟩:=h
   exact ⟨h0,a,b,c,⟨hA _ ha,hA _ hb,hA _ hc⟩,hv,(hk _ ha (Bk.lt h1)).trans h1,(hk _ hb (Bk.lt h2)).trans h2,(hk _ hc (Bk.lt h3)).trans h3⟩
structure StepsV (A:Nat→Prop) (dp:Nat) (W:World) (vs:List Value) (ops:List DOp):Prop where
 len:vs.length=ops.length
 at_ : ∀ (k:Nat) v o,vs[k]? = some v→ops[k]? = some o→StepV A dp W v o
theorem StepsV.keep {A A':Nat→Prop} {dp:Nat} {W W':World} {vs:List Value} {ops:List DOp} (h:StepsV A dp W vs ops) (hA : ∀ k,A k→A' k) (hk : ∀ k,A k→k<W.heap.size→W'.heap[k]? = W.heap[k]?):StepsV A' dp W' vs ops :=
 ⟨h.len,fun k v o hv ho=>(h.at_ k v o hv ho).keep hA hk⟩
theorem StepsV.mono {A A':Nat→Prop} {dp:Nat} {W:World} {vs:List Value} {ops:List DOp} (h:StepsV A dp W vs ops) (hA : ∀ k,A k→A' k):StepsV A' dp W vs ops:=h.keep hA fun _ _ _=>rfl
theorem StepsV.later {A:Nat→Prop} {dp:Nat} {W W':World} {vs:List Value} {ops:List DOp} (h:StepsV A dp W vs ops) (hb:Below W.heap.size W W'):StepsV A dp W' vs ops:=h.keep (fun _ h=>h) fun k _ hk=>hb.block k hk
theorem StepsV.grown {A:Nat→Prop} {dp:Nat} {W W':World} {vs:List Value} {ops:List DOp} {row:Option Nat} (h:StepsV A dp W vs ops) (hg:W.grownBy W' row) (hr : ∀ g,row=some g → ¬A g):StepsV A dp W' vs ops :=
 h.keep (fun _ h=>h) fun k hA hk=>hg.block k hk fun e=>hr k e.symm hA
theorem StepsV.chg {A:Nat→Prop} {dp:Nat} {W W':World} {vs:List Value} {ops:List DOp} {S:Nat→Prop} (h:StepsV A dp W vs ops) (hc:Chg S W W') (hS : ∀ k,A k → ¬S k):StepsV A dp W' vs ops :=
 h.keep (fun _ h=>h) fun k hA hk=>hc.block k hk (hS k hA)
theorem StepsV.nil (A:Nat→Prop) (dp:Nat) (W:World):StepsV A dp W [] []:=⟨rfl,fun k v o hv=>by simp at hv⟩
theorem StepsV.snoc {A:Nat→Prop} {dp:Nat} {W:World} {vs:List Value} {ops:List DOp} (h:StepsV A dp W vs ops) {v:Value} {o:DOp} (hv:StepV A dp W v o):StepsV A dp W (vs++[v]) (ops++[o]):=by
 refine ⟨by rw [List.length_append,List.length_append,h.len];rfl,fun k x y hx hy=>?_⟩
 by_cases hk:k<vs.length
 · rw [List.getElem?_append_left hk] at hx
   rw [List.getElem?_append_left (by rw [←h.len];exact hk)] at hy
   exact h.at_ k x y hx hy
 · rw [List.getElem?_append_right (by omega)] at hx
   rw [List.getElem?_append_right (by rw [←h.len];omega)] at hy
   rw [←h.len] at hy
   have h0:k - vs.length=0:=by
    have:=(List.getElem?_eq_some_iff.1 hx).1
    simp only [List.length_cons,List.length_nil] at this;omega
   rw [h0] at hx hy
   obtain rfl:=Option.some.inj hx
   obtain rfl:=Option.some.inj hy
   exact hv
theorem StepsV.app {A:Nat→Prop} {dp:Nat} {W:World} {vs us:List Value} {ops pos:List DOp} (h:StepsV A dp W vs ops) (h':StepsV A dp W us pos):StepsV A dp W (vs++us) (ops++pos):=by
 refine ⟨by rw [List.length_append,List.length_append,h.len,h'.len],fun k x y hx hy=>?_⟩
 by_cases hk:k<vs.length
 · rw [List.getElem?_append_left hk] at hx
   rw [List.getElem?_append_left (by rw [←h.len];exact hk)] at hy
   exact h.at_ k x y hx hy
 · rw [List.getElem?_append_right (by omega)] at hx
   rw [List.getElem?_append_right (by rw [←h.len];omega)] at hy
   rw [←h.len] at hy
   exact h'.at_ _ x y hx hy
def RunJ (dp g mb cap m:Nat) (d:Dk) (ops:List DOp) (w:World) (k:Nat) (W:World):Prop :=
 d.fine ops k∧DkIs W dp g mb cap (m+k) (d.upTo ops k)∧Chg (In3 dp g mb) w W
def RunQ (dp g mb cap m n:Nat) (d:Dk) (ops:List DOp) (w:World) (er:Int) (W:World):Prop :=
 er=(d.run ops).2∧DkIs W dp g mb cap (m+n) (d.run ops).1∧Chg (In3 dp g mb) w W
theorem step_run (A:Nat→Prop) (dp g mb cap m:Nat) (d:Dk) (W:World) (hd:DkIs W dp g mb cap m d) (hm:m<1000000) (v:Value) (o:DOp) (hv:StepV A dp W v o) :
 ∃ fid bd cp, v = .func (.func fid) bd cp ∧ (∀ args W, (callFunc fid args).run Tryd.prog W = .ok (.enter fid args) W) ∧
   Calls Tryd.prog fid (bd++cp) W fun e w'=>e = .returned (.int .i64 (d.op o).2)∧DkIs w' dp g mb cap (m+1) (d.op o).1∧Chg (In3 dp g mb) W w':=by
 cases o with
 | f =>
   obtain rfl:=hv
   refine ⟨_,_,_,rfl,enters_of Tryd.func43 (by kernel_rfl) rfl,?_⟩
   exact (flush_any W dp g mb cap m d hd).mono fun e w' h=>⟨h.1,h.2.1.mono (Nat.le_succ m),h.2.2⟩
 | w i s =>
   obtain ⟨⟨hl,hb⟩,a,b,c,_,rfl,h1,h2,h3⟩:=hv
   refine ⟨_,_,_,rfl,enters_of Tryd.func66 (by kernel_rfl) rfl,?_⟩
   refine put1_any a b c _ dp (i:Int) (strOfNums s) rfl W h1 h2 h3 _ ?_ ⟨?_⟩
   · rintro e w' ⟨rfl,_⟩;exact ⟨_,rfl⟩
   · exact write_any W dp g mb cap m d hd hm (i:Int) 0 s hb (by omega) (by omega)
def fidOf (v:Value):FuncId:=match v with | .func (.func f) _ _=>f | _=>0
def bdOf (v:Value):Array Value:=match v with | .func _ b _=>b | _=>#[]
def cpOf (v:Value):Array Value:=match v with | .func _ _ c=>c | _=>#[]
theorem prun_ops (A:Nat→Prop) (dp g mb cap m:Nat) (d:Dk) (w:World) (hd:DkIs w dp g mb cap m d) (vs:List Value) (ops:List DOp) (hm:m+ops.length<1000000) (hn:ops.length≤1000) (hv:StepsV A dp w vs ops) (hA : ∀ k,A k → ¬In3 dp g mb k)
 (ga off c:Nat) (hc : ∀ (k:Nat) v,vs[k]? = some v→w.cell? ⟨ga,off+k,none⟩=some v) (hga : ¬In3 dp g mb ga) :
 Calls Tryd.prog 44 #[.slice (some ⟨ga,off,none⟩) ops.length c] w fun e w'=>e = .returned (.int .i64 (d.run ops).2)∧DkIs w' dp g mb cap (m+ops.length) (d.run ops).1∧Chg (In3 dp g mb) w w':=by
 have hvl:=hv.len
 have at_ : ∀ k,k<ops.length → ∃ v o,vs[k]? = some v∧ops[k]? = some o:=fun k hk=>⟨_,_,List.getElem?_eq_getElem (by omega),List.getElem?_eq_getElem hk⟩
 have stp : ∀ k v o W,vs[k]? = some v→ops[k]? = some o→RunJ dp g mb cap m d ops w k W→StepV A dp W v o:=fun k v o W h1 h2 hJ=>(hv.chg hJ.2.2 hA).at_ k v o h1 h2
 have key : ∀ k v o,k<ops.length→vs[k]? = some v→ops[k]? = some o → ∀ W,RunJ dp g mb cap m d ops w k W → ∃ fid bd cp,v = .func (.func fid) bd cp∧(∀ args W,(callFunc fid args).run Tryd.prog W = .ok (.enter fid args) W) ∧
  Calls Tryd.prog fid (bd++cp) W fun e w'=>e = .returned (.int .i64 ((d.upTo ops k).op o).2)∧DkIs w' dp g mb cap (m+k+1) ((d.upTo ops k).op o).1∧Chg (In3 dp g mb) W w':=fun k v o hk h1 h2 W hJ =>
  step_run A dp g mb cap (m+k) (d.upTo ops k) W hJ.2.1 (by omega) v o (stp k v o W h1 h2 hJ)
 have form : ∀ k v,k<ops.length→vs[k]? = some v → ∃ fid bd cp,v = .func (.func fid) bd cp∧(∀ args W,(callFunc fid args).run Tryd.prog W = .ok (.enter fid args) W):=fun k v hk h1=>by
  obtain ⟨_,o,_,ho⟩:=at_ k hk
  have hs:=hv.at_ k v o h1 ho
  cases o with
  | f=>obtain rfl:=hs;exact ⟨_,_,_,rfl,enters_of Tryd.func43 (by kernel_rfl) rfl⟩
  | w i s=>obtain ⟨_,a,b,c,_,rfl,_⟩:=hs;exact ⟨_,_,_,rfl,enters_of Tryd.func66 (by kernel_rfl) rfl⟩
 refine (prun_any ga off ops.length c (by omega) (fun k=>fidOf (vs.getD k undef)) (fun k=>bdOf (vs.getD k undef)) (fun k=>cpOf (vs.getD k undef)) (RunJ dp g mb cap m d ops w) (RunQ dp g mb cap m ops.length d ops w) w ⟨Dk.fine_zero _ _,hd,Chg.refl _ _⟩ ⟨?_⟩ ⟨?_⟩ ⟨?_⟩).mono ?_
 · intro k hk args W
   obtain ⟨v,o,h1,_⟩:=at_ k hk
   obtain ⟨fid,bd,cp,rfl,he⟩:=form k v hk h1
   have:fidOf (vs.getD k undef)=fid:=by rw [List.getD_eq_getElem?_getD,h1];rfl
   simp only [this];exact he args W
 · intro k hk W hJ
   obtain ⟨v,o,h1,_⟩:=at_ k hk
   obtain ⟨fid,bd,cp,rfl,he⟩:=form k v hk h1
   have e1:vs.getD k undef = .func (.func fid) bd cp:=by rw [List.getD_eq_getElem?_getD,h1];rfl
   simp only [e1]
   have h2:=hc k _ h1
   rw [World.cell?_of_block (hJ.2.2.block _ (World.block_lt_of_cell? w _ h2) hga)]
   exact h2
 · intro k hk W hJ
   obtain ⟨v,o,h1,ho⟩:=at_ k hk
   obtain ⟨fid,bd,cp,rfl,he,hC⟩:=key k v o hk h1 ho W hJ
   have e1:vs.getD k undef = .func (.func fid) bd cp:=by rw [List.getD_eq_getElem?_getD,h1];rfl
   simp only [e1]
   refine hC.mono ?_
   rintro e w' ⟨rfl,h3,h4⟩
   by_cases h0:((d.upTo ops k).op o).2=0
   · refine .inl ⟨by rw [h0],Dk.fine_succ hJ.1 ho h0,?_,hJ.2.2.trans h4 fun _ _ h=>h⟩
     rw [Dk.upTo_succ ho];exact h3
   · refine .inr ⟨_,h0,rfl,?_⟩
     have hr:=Dk.run_fail hJ.1 ho h0
     exact ⟨by rw [hr],by rw [hr];exact h3.mono (by omega),hJ.2.2.trans h4 fun _ _ h=>h⟩
 · rintro e w' (⟨rfl,hf,h1,h2⟩ | ⟨er,_,rfl,h1,h2,h3⟩)
   · rw [Dk.run_all hf]
     exact ⟨rfl,h1,h2⟩
   · exact ⟨by rw [h1],h2,h3⟩
end
section
open Go.RowKit Go.Sort Go.Maps
def Apt (u v:Value):Prop := ∀ g,u.ownBlock=some g→v.ownBlock ≠ some g
theorem Apt.symm {u v:Value} (h:Apt u v):Apt v u:=fun g h1 h2=>h g h2 h1
theorem Apt.row {u v:Value} (h:Apt u v):u.ownBlock=none∨u.ownBlock ≠ v.ownBlock:=by
 cases e:u.ownBlock with
 | none=>exact .inl rfl
 | some g=>exact .inr fun h'=>h g e h'.symm
theorem Apt.put {u v v':Value} {n:Nat} (h:Apt u v) (h':v'.ownBlock=v.ownBlock∨v'.ownBlock=some n) (hu : ∀ g,u.ownBlock=some g→g<n):Apt u v':=fun g h1 h2=>by
 rcases h' with e | e
 · rw [e] at h2;exact h g h1 h2
 · rw [e] at h2;injection h2 with h2;have:=hu g h1;omega
def Fr (W W':World) (x:Nat):Prop:=W.heap.size≤x∧x<W'.heap.size
structure WrI (w0:World) (dp:Nat) (v7 v8 v9:Value) (o7 o8:List DOp) (ps:List Nat) (W:World):Prop where
 bel:Below w0.heap.size w0 W
 ex : ∃ (A:Nat→Prop) (lv dv:List Value),(∀ x,A x→w0.heap.size≤x∧x<W.heap.size∧v7.ownBlock ≠ some x∧v8.ownBlock ≠ some x∧v9.ownBlock ≠ some x) ∧
  Ownv W w0.heap.size 89 v7 lv∧StepsV A dp W lv o7∧Ownv W w0.heap.size 89 v8 dv∧StepsV A dp W dv o8∧Own W w0.heap.size 3 .i64 v9 (ints64 ps)
 a78:Apt v7 v8
 a79:Apt v7 v9
 a89:Apt v8 v9
theorem WrI.start (w0:World) (dp:Nat):WrI w0 dp (.slice none 0 0) (.slice none 0 0) (.slice none 0 0) [] [] [] w0 :=
 ⟨Below.refl _ _,⟨fun _=>False,[],[],fun _ h=>h.elim,Ownv.nil _ _ _,StepsV.nil _ _ _,Ownv.nil _ _ _,StepsV.nil _ _ _,Own.nil _ _ _ _⟩,(fun g h=>by cases h),(fun g h=>by cases h),(fun g h=>by cases h)⟩
section
variable {w0 W W3:World} {dp:Nat} {v7 v8 v9:Value} {o7 o8:List DOp} {ps:List Nat}
theorem WrI.later (h:WrI w0 dp v7 v8 v9 o7 o8 ps W) (hb:Below W.heap.size W W3):WrI w0 dp v7 v8 v9 o7 o8 ps W3:=by
 obtain ⟨A,lv,dv,hA,h1,h2,h3,h4,h5⟩:=h.ex
 exact ⟨h.bel.trans (hb.mono h.bel.size),⟨A,lv,dv,fun x hx=>by obtain ⟨a,b,c⟩:=hA x hx;exact ⟨a,Nat.lt_of_lt_of_le b hb.size,c⟩,h1.below hb,h2.later hb,h3.below hb,h4.later hb,h5.below hb⟩,h.a78,h.a79,h.a89⟩
theorem WrI.lt (h:WrI w0 dp v7 v8 v9 o7 o8 ps W):(∀ g,v7.ownBlock=some g→g<W.heap.size)∧(∀ g,v8.ownBlock=some g→g<W.heap.size)∧(∀ g,v9.ownBlock=some g→g<W.heap.size):=by
 obtain ⟨A,lv,dv,hA,h1,h2,h3,h4,h5⟩:=h.ex
 exact ⟨fun g hg=>(h1.lt g hg).2,fun g hg=>(h3.lt g hg).2,fun g hg=>(h5.lt g hg).2⟩
theorem WrI.log (h:WrI w0 dp v7 v8 v9 o7 o8 ps W) (hb:Below W.heap.size W W3) {us:List Value} {os:List DOp} (hs:StepsV (Fr W W3) dp W3 us os) :
 ∃ lv, Ownv W3 w0.heap.size 89 v7 lv ∧ lv.length = o7.length ∧ w0.heap.size ≤ W3.heap.size ∧
   ∀ v' W4,Ownv W4 w0.heap.size 89 v' (lv++us)→W3.grownBy W4 v7.ownBlock→(v'.ownBlock=v7.ownBlock∨v'.ownBlock=some W3.heap.size)→WrI w0 dp v' v8 v9 (o7++os) o8 ps W4:=by
 obtain ⟨A,lv,dv,hA,h1,h2,h3,h4,h5⟩:=h.ex
 refine ⟨lv,h1.below hb,h2.len,Nat.le_trans h.bel.size hb.size,fun v' W4 g1 g2 g3=>?_⟩
 have l7 : ∀ g,v7.ownBlock=some g→g<W.heap.size:=fun g hg=>(h1.lt g hg).2
 have l8 : ∀ g,v8.ownBlock=some g→g<W.heap.size:=fun g hg=>(h3.lt g hg).2
 have l9 : ∀ g,v9.ownBlock=some g→g<W.heap.size:=fun g hg=>(h5.lt g hg).2
 have hle:=hb.size
 have hA' : ∀ x,A x∨Fr W W3 x→x<W3.heap.size∧v7.ownBlock ≠ some x:=fun x hx=>by
  rcases hx with hx | hx
  · exact ⟨by have:=(hA x hx).2.1;omega,(hA x hx).2.2.1⟩
  · exact ⟨hx.2,fun e=>by have:=l7 x e;have:=hx.1;omega⟩
 have hk : ∀ x,A x∨Fr W W3 x→x<W3.heap.size→W4.heap[x]? = W3.heap[x]? := fun x hx hl=>g2.block x hl fun e=>(hA' x hx).2 e.symm
 refine ⟨(h.bel.trans (hb.mono h.bel.size)).grown g2 (Nat.le_trans h.bel.size hle) (fun g hg=>(h1.lt g hg).1),⟨fun x=>A x∨Fr W W3 x,lv++us,dv,fun x hx=>?_,g1,?_,?_,?_,?_⟩,?_,?_,h.a89⟩
 · have h8:=g2.size
   have h7:=hA' x hx
   have hn:v'.ownBlock ≠ some x:=by
    rcases g3 with e | e
    · rw [e];exact h7.2
    · rw [e];intro e;injection e with e;omega
   rcases hx with hx | hx
   · obtain ⟨a,b,c,d,e⟩:=hA x hx
     exact ⟨a,by omega,hn,d,e⟩
   · have:=h.bel.size
     exact ⟨by have:=hx.1;omega,by omega,hn,fun e=>by have:=l8 x e;have:=hx.1;omega,fun e=>by have:=l9 x e;have:=hx.1;omega⟩
 · exact ((h2.later hb).mono fun x h=>Or.inl h).app (hs.mono fun x h=>Or.inr h) |>.keep (fun _ h=>h) hk
 · exact (h3.below hb).grown g2 h.a78.symm.row
 · exact ((h4.later hb).mono fun x h=>Or.inl h).keep (fun _ h=>h) hk
 · exact (h5.below hb).grown g2 h.a79.symm.row
 · exact (h.a78.symm.put g3 fun g hg=>by have:=l8 g hg;omega).symm
 · exact (h.a79.symm.put g3 fun g hg=>by have:=l9 g hg;omega).symm
theorem WrI.data (h:WrI w0 dp v7 v8 v9 o7 o8 ps W) (hb:Below W.heap.size W W3) {us:List Value} {os:List DOp} (hs:StepsV (Fr W W3) dp W3 us os) :
 ∃ dv, Ownv W3 w0.heap.size 89 v8 dv ∧ dv.length = o8.length ∧ w0.heap.size ≤ W3.heap.size ∧
   ∀ v' W4,Ownv W4 w0.heap.size 89 v' (dv++us)→W3.grownBy W4 v8.ownBlock→(v'.ownBlock=v8.ownBlock∨v'.ownBlock=some W3.heap.size)→WrI w0 dp v7 v' v9 o7 (o8++os) ps W4:=by
 have h':WrI w0 dp v8 v7 v9 o8 o7 ps W:=by
  obtain ⟨A,lv,dv,hA,h1,h2,h3,h4,h5⟩:=h.ex
  exact ⟨h.bel,⟨A,dv,lv,fun x hx=>by obtain ⟨a,b,c,d,e⟩:=hA x hx;exact ⟨a,b,d,c,e⟩,h3,h4,h1,h2,h5⟩,h.a78.symm,h.a89,h.a79⟩
 obtain ⟨dv,h1,h2,h3,h4⟩:=h'.log hb hs
 refine ⟨dv,h1,h2,h3,fun v' W4 g1 g2 g3=>?_⟩
 have h5:=h4 v' W4 g1 g2 g3
 obtain ⟨A,lv,dv,hA,k1,k2,k3,k4,k5⟩:=h5.ex
 exact ⟨h5.bel,⟨A,dv,lv,fun x hx=>by obtain ⟨a,b,c,d,e⟩:=hA x hx;exact ⟨a,b,d,c,e⟩,k3,k4,k1,k2,k5⟩,h5.a78.symm,h5.a89,h5.a79⟩
theorem WrI.page (h:WrI w0 dp v7 v8 v9 o7 o8 ps W) (hb:Below W.heap.size W W3) (x:Nat) :
 Own W3 w0.heap.size 3 .i64 v9 (ints64 ps)∧w0.heap.size≤W3.heap.size ∧
  ∀ v' W4,Own W4 w0.heap.size 3 .i64 v' (ints64 ps++[(x:Int)])→W3.grownBy W4 v9.ownBlock→(v'.ownBlock=v9.ownBlock∨v'.ownBlock=some W3.heap.size)→WrI w0 dp v7 v8 v' o7 o8 (ps++[x]) W4:=by
 obtain ⟨A,lv,dv,hA,h1,h2,h3,h4,h5⟩:=h.ex
 refine ⟨h5.below hb,Nat.le_trans h.bel.size hb.size,fun v' W4 g1 g2 g3=>?_⟩
 have l7 : ∀ g,v7.ownBlock=some g→g<W.heap.size:=fun g hg=>(h1.lt g hg).2
 have l8 : ∀ g,v8.ownBlock=some g→g<W.heap.size:=fun g hg=>(h3.lt g hg).2
 have hle:=hb.size
 have hk : ∀ x,A x→x<W3.heap.size→W4.heap[x]? = W3.heap[x]? := fun x hx hl=>g2.block x hl fun e=>(hA x hx).2.2.2.2 e.symm
 refine ⟨(h.bel.trans (hb.mono h.bel.size)).grown g2 (Nat.le_trans h.bel.size hle) (fun g hg=>(h5.lt g hg).1),⟨A,lv,dv,fun x hx=>?_,?_,?_,?_,?_,?_⟩,h.a78,?_,?_⟩
 · have h8:=g2.size
   obtain ⟨a,b,c,d,e⟩:=hA x hx
   refine ⟨a,by omega,c,d,?_⟩
   rcases g3 with e' | e'
   · rw [e'];exact e
   · rw [e'];intro e;injection e with e;omega
 · exact (h1.below hb).grown g2 h.a79.row
 · exact (h2.later hb).keep (fun _ h=>h) hk
 · exact (h3.below hb).grown g2 h.a89.row
 · exact (h4.later hb).keep (fun _ h=>h) hk
 · rw [ints64_snoc] at g1;exact g1
 · exact h.a79.put g3 fun g hg=>by have:=l7 g hg;omega
 · exact h.a89.put g3 fun g hg=>by have:=l8 g hg;omega
end
def PutR (W0:World) (dp i:Nat) (s:List Int) (v:Value) (w:World):Prop:=W0.heap.size≤w.heap.size∧StepV (Fr W0 w) dp w v (.w i s)
theorem PutR.later {W0 w w':World} {dp i:Nat} {s:List Int} {v:Value} (h:PutR W0 dp i s v w) (hb:Below w.heap.size w w'):PutR W0 dp i s v w' :=
 ⟨Nat.le_trans h.1 hb.size,h.2.keep (fun x hx=>⟨hx.1,Nat.lt_of_lt_of_le hx.2 hb.size⟩) fun k _ hk=>hb.block k hk⟩
def OneR (W0:World) (dp i:Nat) (s:List Int) (v:Value) (w:World):Prop := ∃ h u,v = .slice (some ⟨h,0,none⟩) 1 1∧w.cell? ⟨h,0,none⟩=some u∧u.oneCell'=true∧PutR W0 dp i s u w
theorem OneR.later {W0 w w':World} {dp i:Nat} {s:List Int} {v:Value} (h:OneR W0 dp i s v w) (hb:Below w.heap.size w w'):OneR W0 dp i s v w':=by
 obtain ⟨k,u,h1,h2,h3,h4⟩:=h
 exact ⟨k,u,h1,cell_later hb h2,h3,h4.later hb⟩
theorem put_R (W0:World) (dp i:Nat) (s:List Int) (hs:s.length=128∧Byts s) (w:World) (hw:W0.heap.size≤w.heap.size) :
 Calls Tryd.prog 42 #[.pointer (some ⟨dp,0,none⟩),.int .i64 (i:Int),.string (strOfNums s)] w fun e w' => ∃ v,e = .returned v∧Below w.heap.size w w'∧PutR W0 dp i s v w' :=
 (put_any _ _ _ dp _ rfl rfl w).mono fun e w' h=>by
  obtain ⟨he,hb,h1,h2,h3⟩:=h
  exact ⟨_,he,hb,Nat.le_trans hw hb.size,hs,_,_,_,⟨⟨hw,Bk.lt h1⟩,⟨by omega,Bk.lt h2⟩,⟨by omega,Bk.lt h3⟩⟩,rfl,h1,h2,h3⟩
theorem wpList_append_vals {P:Program} {w:World} {ops:Array Oper} {rest:List Oper} {o:Oper} {a:Act} {Q:Exit→Act→World→Prop} (hgd:o.guard=none) (s x:Operand) (t:TypeId)
 (ho:o.op = .call { callee:=.builtin .append,args:=#[s,x],argTypes:=#[t,t] })
 (e:TypeId) (z:Value) (bytes:Nat) (hbz:bytes≤24) (ht:P.underlying t=some (.slice e))
 (hi:(P.info? e).map (fun i=>(i.zero,i.size,i.bytes))=some (some z,1,bytes)) (hzs:z.cells.size=1)
 (B:Nat) (v:Value) (vs:List Value) (hs:a.eval s=v) (hown:Ownv w B e v vs) (us:List Value) (hu1 : ∀ u∈us,u.oneCell'=true)
 (ad:Addr) (c:Nat) (hx:a.eval x = .slice (some ad) us.length c) (hcell : ∀ j u,us[j]? = some u→w.cell? (ad.add j)=some u) (hlen:vs.length+us.length≤1000000000) (hbase:B≤w.heap.size)
 (h : ∀ v' w',Ownv w' B e v' (vs++us)→w.grownBy w' v.ownBlock→(v'.ownBlock=v.ownBlock∨v'.ownBlock=some w.heap.size)→wpList P ops Q rest (a.put o.dst v') w') :
 wpList P ops Q (o::rest) a w:=by
 obtain ⟨i0,hi0,hz0,hz1,hz2⟩:=info_parts hi
 refine wpList_plain hgd fun K hK=>?_
 obtain ⟨v',w',hr,h2,h3,_,h4⟩:=run_append_own_at (P:=P) w B t o.type e i0 z 1 bytes ht hi0 hz0 hz1 hz2 hzs (by omega) v vs.length _ hown ad us.length c us (by omega) hcell hu1
  (by simp only [maxLen];omega) (by have:(vs.length+us.length) * bytes≤(vs.length+us.length) * 24:=Nat.mul_le_mul_left _ hbz;omega) hbase
 unfold Oper.wp execOp
 simp only [ho,resolve,invoke,builtin,Sem.run_bind,Sem.run_pure,Result.andThen_ok,List.map_toArray,List.map_cons,List.map_nil,hs,hx,hr]
 exact hK _ _ (h v' w' (by unfold Ownv;simpa using h2) h3 h4)
def TwoR (W0:World) (dp i:Nat) (s:List Int) (v:Value) (w:World):Prop := ∃ h u,v = .slice (some ⟨h,0,none⟩) 2 2∧w.cell? ⟨h,0,none⟩=some u∧w.cell? ⟨h,1,none⟩=some (flushV dp)∧u.oneCell'=true∧PutR W0 dp i s u w
theorem TwoR.later {W0 w w':World} {dp i:Nat} {s:List Int} {v:Value} (h:TwoR W0 dp i s v w) (hb:Below w.heap.size w w'):TwoR W0 dp i s v w':=by
 obtain ⟨k,u,h1,h2,h3,h4,h5⟩:=h
 exact ⟨k,u,h1,cell_later hb h2,cell_later hb h3,h4,h5.later hb⟩
def FlR (W0:World) (dp:Nat) (v:Value) (w:World):Prop := ∃ h,v = .slice (some ⟨h,0,none⟩) 1 1∧W0.heap.size≤h∧w.cell? ⟨h,0,none⟩=some (flushV dp)
theorem FlR.le {W0 w w':World} {dp:Nat} {v:Value} {g:Option Nat} {O:Obj} (hg : ∀ k,g=some k→k<W0.heap.size) (h:FlR W0 dp v w) (hl:LeA g O w w'):FlR W0 dp v w':=by
 obtain ⟨k,h1,h2,h3⟩:=h
 refine ⟨k,h1,h2,?_⟩
 rw [World.cell?_of_block (hl.block _ (World.block_lt_of_cell? w _ h3) fun e=>by have:=hg _ e;simp only at this;omega)]
 exact h3
theorem WrI.gather {w0 W:World} {dp:Nat} {v7 v8 v9:Value} {o7 o8:List DOp} {ps:List Nat} (h:WrI w0 dp v7 v8 v9 o7 o8 ps W) (h8:0<o8.length) (hlen:o7.length+o8.length≤1000) :
 ∃ lv dv g8 c8 O, v8 = .slice (some ⟨g8, 0, none⟩) dv.length c8 ∧ lv.length = o7.length ∧ dv.length = o8.length ∧
   (∀ w,LeA v7.ownBlock O W w → ∀ ty,∃ v' w',(Builtin.append_ #[87,87] ty #[v7,.slice (some ⟨g8,0,none⟩) dv.length c8]).run Tryd.prog w = .ok v' w'∧LeA v7.ownBlock O w w'∧AppR W w0.heap.size 89 v7.ownBlock O (lv++dv) v' w') ∧
   (∀ k,k<w0.heap.size→v7.ownBlock ≠ some k)∧(∀ k,v7.ownBlock=some k→k<W.heap.size) ∧
   (∀ w7,LeA v7.ownBlock O W w7 → ∀ v2,AppR W w0.heap.size 89 v7.ownBlock O (lv++dv) v2 w7→w0.heap.size≤w7.heap.size ∧
    ∀ v' w8, Ownv w8 w0.heap.size 89 v' (lv ++ dv ++ [flushV dp]) → w7.grownBy w8 v2.ownBlock →
      Below w0.heap.size w0 w8 ∧ ∃ (A:Nat→Prop) (gr cr:Nat),v' = .slice (some ⟨gr,0,none⟩) (o7++o8++[DOp.f]).length cr∧w0.heap.size≤gr∧(∀ k,A k→w0.heap.size≤k)∧StepsV A dp w8 (lv++dv++[flushV dp]) (o7++o8++[DOp.f]) ∧
       ∀ (k:Nat) v,(lv++dv++[flushV dp])[k]? = some v→w8.cell? ⟨gr,0+k,none⟩=some v):=by
 obtain ⟨A,lv,dv,hA,h1,h2,h3,h4,h5⟩:=h.ex
 obtain ⟨g8,c8,rfl,hs8,hg8,hl8⟩:=h3.form1 (by rw [h4.len];exact h8)
 have hone : ∀ y∈dv,y.oneCell'=true:=fun y hy=>by
  obtain ⟨k,hk⟩:=List.mem_iff_getElem?.1 hy
  have hko:k<o8.length:=by have:=(List.getElem?_eq_some_iff.1 hk).1;rw [h4.len] at this;exact this
  have hst:=h4.at_ k y _ hk (List.getElem?_eq_getElem hko)
  generalize o8[k]=o at hst
  cases o with
  | f=>obtain rfl:=hst;rfl
  | w i s=>obtain ⟨_,a,b,c,_,rfl,_⟩:=hst;rfl
 have hl7:=h2.len
 have hl8':=h4.len
 obtain ⟨O,hO⟩:=append_leA (P:=Tryd.prog) W w0.heap.size 87 89 .nilFunc 8 (by omega) Tryd.underlying87 (by kernel_rfl) rfl v7 lv h1 dv hone (by omega) h.bel.size
 have l7 : ∀ g,v7.ownBlock=some g→g<W.heap.size:=fun g hg=>(h1.lt g hg).2
 have hne8:v7.ownBlock ≠ some g8:=fun e=>h.a78 g8 e rfl
 refine ⟨lv,dv,g8,c8,O,rfl,hl7,hl8',fun w hw ty=>hO w hw ty ⟨g8,0,none⟩ c8 fun j u hu=>?_,fun k hk e=>by have:=(h1.lt k e).1;omega,l7,fun w7 hw7 v2 hv2=>⟨Nat.le_trans h.bel.size hw7.size,fun v' w8 g1 g2=>?_⟩⟩
 · obtain ⟨b,off,e,hc⟩:=hs8 j u hu
   simp only [Option.some.injEq,Addr.mk.injEq,and_true] at e
   obtain ⟨rfl,rfl⟩:=e
   rw [show (⟨g8,0,none⟩:Addr).add j=⟨g8,0+j,none⟩ by cases j <;> simp [Addr.add]]
   rw [World.cell?_of_block (hw.block _ hl8 hne8)]
   exact hc
 · have hk : ∀ x,A x→x<W.heap.size→w8.heap[x]? = W.heap[x]? := fun x hx hl=>by
    have h9:=hw7.block x hl (hA x hx).2.2.1
    rw [←h9]
    refine g2.block x (Nat.lt_of_lt_of_le hl hw7.size) fun e=>?_
    rcases hv2.at_ x e.symm with h10 | ⟨h10,_⟩
    · omega
    · exact (hA x hx).2.2.1 h10
   obtain ⟨gr,cr,rfl,hsr,hgr,_⟩:=g1.form1 (by simp;omega)
   refine ⟨(h.bel.grown hw7.grown h.bel.size fun g hg=>(h1.lt g hg).1).grown g2 (Nat.le_trans h.bel.size hw7.size) fun g hg=>(hv2.own.lt g hg).1,A,gr,cr,?_,hgr,fun k hk=>(hA k hk).1,?_,fun k v hv=>?_⟩
   · simp only [List.length_append,hl7,hl8',List.length_cons,List.length_nil]
   · exact ((h2.keep (fun _ h=>h) hk).app (h4.keep (fun _ h=>h) hk)).snoc (show flushV dp=flushV dp from rfl)
   · obtain ⟨b,off,e,hc⟩:=hsr k v hv
     simp only [Option.some.injEq,Addr.mk.injEq,and_true] at e
     obtain ⟨rfl,rfl⟩:=e
     exact hc
end
section
def qDk (im:List (List Int)):Dk:=⟨im.map fun x=>(x,none),false,-1⟩
def Calm (d:Dk):Prop:=d.off=false∧d.trip = -1
def nowI (d:Dk):List (List Int):=d.p.map Pg.now
def applyW (im:List (List Int)) (ws:List (Nat × List Int)):List (List Int):=ws.foldl (fun im w=>im.set w.1 w.2) im
theorem applyW_len (ws:List (Nat × List Int)) : ∀ im:List (List Int),(applyW im ws).length=im.length:=by
 induction ws with
 | nil=>intro im;rfl
 | cons w ws ih=>intro im;show (applyW (im.set w.1 w.2) ws).length=_;rw [ih,List.length_set]
theorem applyW_app (im:List (List Int)) (a b:List (Nat × List Int)):applyW im (a++b)=applyW (applyW im a) b:=List.foldl_append ..
theorem applyW_off {i:Nat} : ∀ (ws:List (Nat × List Int)) (im:List (List Int)),(∀ w∈ws,w.1 ≠ i)→(applyW im ws)[i]? = im[i]?
 | [],_,_=>rfl
 | w :: ws, im, h => by
   show (applyW (im.set w.1 w.2) ws)[i]? = _
   rw [applyW_off ws _ fun x hx=>h x (List.mem_cons_of_mem _ hx),List.getElem?_set_ne (h w (List.mem_cons_self ..))]
theorem applyW_at {i:Nat} {s:List Int} : ∀ (ws:List (Nat × List Int)) (im:List (List Int)),i<im.length→ws.Pairwise (fun a b=>a.1 ≠ b.1)→(i,s)∈ws→(applyW im ws)[i]? = some s
 | [],_,_,_,h=>by cases h
 | w :: ws, im, hi, hp, h => by
   show (applyW (im.set w.1 w.2) ws)[i]? = _
   rw [List.pairwise_cons] at hp
   rcases List.mem_cons.1 h with e | h
   · subst e
     rw [applyW_off ws _ (fun x hx=>(hp.1 x hx).symm),List.getElem?_set_self hi]
   · exact applyW_at ws _ (by rw [List.length_set];exact hi) hp.2 h
theorem calm_step {d:Dk} (h:Calm d):d.step=(d,true):=by
 unfold Dk.step
 rw [h.2]
 rw [if_neg (by decide),if_neg (by decide)]
theorem calm_write {d:Dk} (h:Calm d) {i:Nat} (hi:i<d.p.length) {s:List Int} (hs:s.length=128) (hok : ∀ x∈d.p,x.now.length=128) :
 (d.op (.w i s)).2=0∧Calm (d.op (.w i s)).1∧nowI (d.op (.w i s)).1=(nowI d).set i s:=by
 have e:d.op (.w i s)=({ d with p:=d.p.modify i fun x=>(x.1,some (put x.now 0 s)) },0):=by
  show d.write i 0 s=_
  unfold Dk.write
  rw [if_neg (by rw [h.1];decide),if_neg (by simp [Dk.is,hs];omega),calm_step h,if_neg (by simp)]
  rfl
 rw [e]
 refine ⟨rfl,⟨h.1,h.2⟩,?_⟩
 apply List.ext_getElem?
 intro j
 simp only [nowI,List.getElem?_map,List.getElem?_modify,List.getElem?_set]
 by_cases hj:i=j
 · subst hj
   have hn:=hok _ (List.getElem_mem hi)
   rw [List.getElem?_eq_getElem hi]
   simp only [if_true,List.length_map,if_pos hi,Option.map_some,Option.map_eq_map]
   have:put d.p[i].now 0 s=s:=by
    unfold put
    rw [List.take_zero,List.nil_append,List.drop_of_length_le (by omega),List.append_nil]
   rw [this];rfl
 · simp only [if_neg hj,Option.map_eq_map]
   cases d.p[j]? <;> rfl
theorem calm_flush {d:Dk} (h:Calm d):d.op .f=(qDk (nowI d),0):=by
 show d.flush=_
 unfold Dk.flush
 rw [if_neg (by rw [h.1];decide),calm_step h,if_neg (by simp)]
 unfold qDk nowI
 simp only [List.map_map]
 rw [show d.off=false from h.1,show d.trip = -1 from h.2]
 rfl
theorem now_q (im:List (List Int)):nowI (qDk im)=im:=by
 unfold nowI qDk
 simp only [List.map_map]
 exact List.map_id im
theorem calm_q (im:List (List Int)):Calm (qDk im):=⟨rfl,rfl⟩
theorem run_writes {ops:List DOp} : ∀ (ws:List (Nat × List Int)) (d:Dk),Calm d→(∀ x∈nowI d,x.length=128)→(∀ w∈ws,w.1<d.p.length∧w.2.length=128) →
 ∃ d',Calm d'∧nowI d'=applyW (nowI d) ws∧d.run ((ws.map fun w=>DOp.w w.1 w.2)++ops)=d'.run ops
 | [],d,h,_,_=>⟨d,h,rfl,rfl⟩
 | w :: ws, d, h, hok, hw => by
   have h1:=hw w (List.mem_cons_self ..)
   obtain ⟨e,hc,hn⟩:=calm_write h h1.1 h1.2 (fun x hx=>hok _ (List.mem_map.2 ⟨x,hx,rfl⟩))
   have hl:(d.op (.w w.1 w.2)).1.p.length=d.p.length:=by
    have:=congrArg List.length hn
    simpa [nowI] using this
   obtain ⟨d',a,b,c⟩:=run_writes ws (d.op (.w w.1 w.2)).1 hc (fun x hx=>by
    rw [hn] at hx
    rcases List.mem_or_eq_of_mem_set hx with hx | rfl
    · exact hok x hx
    · exact h1.2) (fun x hx=>by rw [hl];exact hw x (List.mem_cons_of_mem _ hx))
   refine ⟨d',a,by rw [b,hn];rfl,?_⟩
   rw [List.map_cons,List.cons_append]
   show (if (d.op (.w w.1 w.2)).2=0 then _ else _)=_
   rw [if_pos e];exact c
theorem run_flush {d:Dk} (h:Calm d) (ops:List DOp):d.run (.f::ops)=(qDk (nowI d)).run ops:=by
 show (if (d.op .f).2=0 then (d.op .f).1.run ops else d.op .f)=_
 rw [calm_flush h];rfl
def logW (t:Nat) (l:List (Nat × List Int)):List (Nat × List Int):=(l.mapIdx fun j x=>(1+j,sealP t x.2))++[(0,sealP t (recP (l.map (·.1))))]
def dataW (t:Nat) (l:List (Nat × List Int)):List (Nat × List Int):=l.map fun x=>(17+x.1,sealP t x.2)
theorem mapIdx_map {α β γ:Type} (l:List α) (f:Nat→α→β) (g:β→γ):(l.mapIdx f).map g=l.mapIdx fun i x=>g (f i x):=by
 apply List.ext_getElem
 · simp
 · intro i h1 h2;simp
theorem steps_eq (t:Nat) (l:List (Nat × List Int)):stepsP t l=((logW t l).map fun w=>DOp.w w.1 w.2)++(.f::(((dataW t l).map fun w=>DOp.w w.1 w.2)++[.f])):=by
 unfold stepsP logW dataW
 simp only [List.map_append,mapIdx_map,List.map_cons,List.map_nil,List.map_map,List.append_assoc,List.cons_append,List.nil_append,Function.comp_def]
structure BatchOk (n:Nat) (l:List (Nat × List Int)):Prop where
 one:1≤l.length
 few:l.length≤16
 low : ∀ x∈l,x.1+17<n
 data : ∀ x∈l,x.2.length=116∧Byts x.2
 sorted:(l.map (·.1)).Pairwise (· < ·)
theorem logW_in {t n:Nat} {l:List (Nat × List Int)} (hn:17<n) (h:BatchOk n l) : ∀ w∈logW t l,w.1<n∧w.2.length=128:=by
 intro w hw
 have hf:=h.few
 rcases List.mem_append.1 hw with hw | hw
 · obtain ⟨j,hj,rfl⟩:=List.mem_mapIdx.1 hw
   exact ⟨by simp only;omega,seal_len (h.data _ (List.getElem_mem hj)).1⟩
 · rw [List.mem_singleton] at hw;subst hw
   exact ⟨by simp only;omega,seal_len (rec_len (by rw [List.length_map];omega))⟩
theorem dataW_in {t n:Nat} {l:List (Nat × List Int)} (h:BatchOk n l) : ∀ w∈dataW t l,w.1<n∧w.2.length=128:=by
 intro w hw
 obtain ⟨x,hx,rfl⟩:=List.mem_map.1 hw
 exact ⟨by have:=h.low x hx;simp only;omega,seal_len (h.data x hx).1⟩
def wrote (t:Nat) (l:List (Nat × List Int)) (im:List (List Int)):List (List Int):=applyW (applyW im (logW t l)) (dataW t l)
theorem run_steps {t:Nat} {l:List (Nat × List Int)} {im:List (List Int)} (hn:17<im.length) (h:BatchOk im.length l) (hok : ∀ x∈im,x.length=128):(qDk im).run (stepsP t l)=(qDk (wrote t l im),0):=by
 rw [steps_eq]
 obtain ⟨d1,a1,b1,c1⟩:=run_writes (ops:=.f::(((dataW t l).map fun w=>DOp.w w.1 w.2)++[.f])) (logW t l) (qDk im) (calm_q im) (by rw [now_q];exact hok) (by simpa [qDk] using logW_in (t:=t) hn h)
 rw [now_q] at b1
 have hok1 : ∀ (ws:List (Nat × List Int)) (im:List (List Int)),(∀ x∈im,x.length=128)→(∀ w∈ws,w.2.length=128) → ∀ x∈applyW im ws,x.length=128:=by
  intro ws
  induction ws with
  | nil=>intro im h _ x hx;exact h x hx
  | cons w ws ih =>
    intro im h hw x hx
    refine ih (im.set w.1 w.2) (fun y hy=>?_) (fun y hy=>hw y (List.mem_cons_of_mem _ hy)) x hx
    rcases List.mem_or_eq_of_mem_set hy with hy | rfl
    · exact h y hy
    · exact hw w (List.mem_cons_self ..)
 rw [c1,run_flush a1,b1]
 obtain ⟨d2,a2,b2,c2⟩:=run_writes (ops:=[.f]) (dataW t l) (qDk (applyW im (logW t l))) (calm_q _) (by rw [now_q];exact hok1 _ _ hok fun w hw=>(logW_in (t:=t) hn h w hw).2) (by
  intro w hw
  have:=dataW_in (t:=t) h w hw
  simpa [qDk,applyW_len] using this)
 rw [now_q] at b2
 rw [c2,run_flush a2,b2]
 rfl
end
end Go.Proofs.YtajhkncolbgkbaaDoor
