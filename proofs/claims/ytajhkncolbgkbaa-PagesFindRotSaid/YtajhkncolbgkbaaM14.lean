/- Pwb, Pov, Pbt, Pal: joined by program, for one claim. -/
import Derived.Test.YtajhkncolbgkbaaM13
import Derived.ProofKit
import Derived.OpenShut
import Derived.ChangeArms
import Derived.ChangeSlices
import Derived.ChangeSame
import Derived.WideShapes
import Derived.Deep.Strs
import Derived.Deep.Slices
import Derived.Deep.Fields
import Derived.Test.YtajhkncolbgkbaaM10
import Derived.RangeFuncNested
import Derived.RangeFuncBound
import Derived.RangeFuncCalls
import Derived.RangeFuncLeaves
import Derived.Shelf.Abstract
import Derived.Shelf.RegionOpen
import Derived.WalkKit
import Derived.OwnWalkIn
import Derived.TacticsInMore
import Derived.LoopNIn
import Derived.LoopIn
import Derived.Test.YtajhkncolbgkbaaM9
set_option linter.unusedVariables false
set_option linter.unusedSimpArgs false
namespace Go.Proofs.Ytajhkncolbgkbaa
section
open Go.RowKit Go.Sort Go.Maps
set_option maxRecDepth 100000 in
set_option maxHeartbeats 1000000 in
theorem pwrite_bad (w:World) (pp dp N g mb cap m:Nat) (bv:Value) (cl:Bool) (d:Dk) (hp:PS w pp dp N bv cl) (h:DkIs w dp g mb cap m d) (a:Option Addr) (c:Nat) (l:List (Int × List Int)) (hl:l.length≤1000) (hs:SlP w a l) (hw64 : ∀ x∈l,(-9223372036854775808≤x.1∧x.1≤9223372036854775807)∧x.2.length≤10000)
 (hne:chkV cl N ((d.p.length:Int) - 17) l ≠ 0) :
 Calls Try.prog 24 #[.pointer (some ⟨pp,0,none⟩),.slice a l.length c] w fun e w'=>e = .returned (.int .i64 (chkV cl N ((d.p.length:Int) - 17) l))∧Below w.heap.size w w':=by
 have hck:=Bx.mk (pcheck_any w pp dp N g mb cap m bv cl d hp h a c l hl hs hw64)
 generalize chkV cl N ((d.p.length:Int) - 17) l=er at *
 have n1:(er != 0)=true:=by simpa using hne
 have n2:(er == 0)=false:=by simpa using hne
 clear hp h hl hs hw64 hne
 generalize l.length=n at *
 go_enter Try.func24,Try.ntmps24
 go_wp2_with fail
 refine hck.out.mono ?_
 rintro _ w1 ⟨rfl,hb1⟩
 have HB:=Bx.mk hb1
 clear hb1 hck
 go_wp2_with fail
 go_ret
 exact ⟨rfl,HB.out⟩
theorem chk_batch {cl:Bool} {N n:Nat} {l:List (Int × List Int)} (hb : ∀ x∈l,Byts x.2) (h:chkV cl N ((n:Int) - 17) l=0) :
 cl=false∧N<1073741824 ∧ ∃ L:List (Nat × List Int),l=L.map (fun x=>((x.1:Int),x.2))∧BatchOk n L:=by
 unfold chkV at h
 split at h
 · simp at h
 rename_i h1
 split at h
 · simp at h
 rename_i h2
 split at h
 · simp at h
 rename_i h3
 have hok:okTo ((n:Int) - 17) l l.length:=by
  apply Classical.byContradiction
  intro h'
  rw [okV_no h'] at h
  simp at h
 have hat : ∀ (i:Nat) x,l[i]? = some x→0≤x.1∧x.1<(n:Int) - 17∧x.2.length=116∧(0<i → ∀ y,l[i - 1]? = some y→y.1<x.1):=fun i x hx=>hok i x (List.getElem?_eq_some_iff.1 hx).1 hx
 refine ⟨by simpa using h1,by omega,l.map (fun x=>(x.1.toNat,x.2)),?_,?_⟩
 · rw [List.map_map]
   conv=>lhs;rw [←List.map_id l]
   apply List.map_congr_left
   intro x hx
   obtain ⟨i,hi⟩:=List.mem_iff_getElem?.1 hx
   obtain ⟨xp,xt⟩:=x
   have:=(hat i _ hi).1
   simp only [Function.comp,id,Prod.mk.injEq,and_true]
   simp only at this;omega
 · have hm : ∀ x∈l,0≤x.1∧x.1<(n:Int) - 17∧x.2.length=116:=fun x hx=>by
    obtain ⟨i,hi⟩:=List.mem_iff_getElem?.1 hx
    have:=hat i x hi
    exact ⟨this.1,this.2.1,this.2.2.1⟩
   refine ⟨by rw [List.length_map];omega,by rw [List.length_map];omega,fun x hx=>?_,fun x hx=>?_,?_⟩
   · obtain ⟨y,hy,rfl⟩:=List.mem_map.1 hx
     have:=hm y hy
     simp only;omega
   · obtain ⟨y,hy,rfl⟩:=List.mem_map.1 hx
     exact ⟨(hm y hy).2.2,hb y hy⟩
   · rw [List.map_map]
     -- the neighbours grow,so all do
     have key : ∀ (j i:Nat) x y,i<j→l[i]? = some x→l[j]? = some y→x.1<y.1:=by
      intro j
      induction j with
      | zero=>intro i x y h;omega
      | succ j ih =>
        intro i x y hij hx hy
        have hj:j<l.length:=by have:=(List.getElem?_eq_some_iff.1 hy).1;omega
        have hz:=List.getElem?_eq_getElem hj
        have h4:=(hat (j+1) y hy).2.2.2 (by omega) _ hz
        by_cases e:i=j
        · subst e;rw [hz] at hx;rw [←Option.some.inj hx];exact h4
        · have:=ih i x _ (by omega) hx hz
          omega
     rw [List.pairwise_iff_getElem]
     intro i j hi hj hij
     rw [List.length_map] at hi hj
     rw [List.getElem_map,List.getElem_map]
     have h5:=key j i _ _ hij (List.getElem?_eq_getElem hi) (List.getElem?_eq_getElem hj)
     have h6:=(hm _ (List.getElem_mem hi)).1
     simp only [Function.comp];omega
end
section
open Go.RowKit Go.ChangeShapes Go.WideShapes
theorem cellsOp14 : Try.prog.cellsOf 58=5:=by kernel_rfl
theorem cellsI14 : Try.prog.cellsOf 3=1:=by kernel_rfl
theorem cellsU14 : Try.prog.cellsOf 5=1:=by kernel_rfl
theorem cellsL14 : Try.prog.cellsOf 41=1:=by kernel_rfl
theorem list5 {α:Type} {l:List α} (h:l.length=5) : ∃ a b c d e,l=[a,b,c,d,e]:=by
 match l,h with
 | [a,b,c,d,e],_=>exact ⟨a,b,c,d,e,rfl⟩
section
variable {H:Type} {enc:TypeId × Value→H} {w:World} {base:Nat} {held:Bool}
theorem open_rowsL {S:Type} {t e:TypeId} {k:Nat} (f:S→List Value) (Pk:S→Prop) (ht : Try.prog.underlying t=some (.slice e)) (hk : Try.prog.cellsOf e=k) (hpos:0<k) (s0:S)
 (R : ∀ {n:Nat} {cs:List Value} {y:DataW H × List MemPlace},cs.length=k→DataW.trod enc Try.prog w base (fun _=>true) held n e cs=some y → ∃ s:S,cs=f s∧Pk s)
 {fuel:Nat} {x:DataW H × List MemPlace} {v:Value} (h:DataW.trod enc Try.prog w base (fun _=>true) held fuel t [v]=some x) :
 ∃ ha hcp,∃ L:List S,v = .slice ha L.length hcp∧(L.length≤hcp∧hcp≤maxLen) ∧ ∀ (i:Nat) (s:S),L[i]? = some s → ∃ b off,ha=some ⟨b,off,none⟩∧(∀ j u,(f s)[j]? = some u→w.cell? ⟨b,off+i * k+j,none⟩=some u)∧Pk s:=by
 rcases Go.Deep.open_slice ht h with ⟨h1,_⟩ | ⟨a,len,cap,m,n,D,Pl,h1,_,hl,hcm,hm,_,hi⟩
 · simp only [List.cons.injEq,and_true] at h1
   exact ⟨none,0,[],h1,⟨Nat.le_refl _,Nat.zero_le _⟩,fun i s h=>by simp at h⟩
 · simp only [List.cons.injEq,and_true] at h1
   simp only [if_true] at hm
   subst hm
   have key : ∀ i,i<len → ∃ s:S,(f s).length=k∧(∀ j u,(f s)[j]? = some u→w.cell? (a.add (i * k+j))=some u)∧Pk s:=by
    intro i hil
    obtain ⟨cs,hcs,ht'⟩:=hi i (by omega)
    rw [hk] at hcs
    obtain ⟨_,hlen,hat⟩:=World.cells?_some hcs
    obtain ⟨s,rfl,hP⟩:=R hlen ht'
    refine ⟨s,hlen,fun j u hu=>?_,hP⟩
    have hj:=(List.getElem?_eq_some_iff.1 hu).1
    have:=hat j (by omega)
    rw [Go.Deep.add_add] at this
    rw [this]
    simpa [List.getD] using hu
   have hf : ∃ g:Nat→S,∀ i,i<len→(f (g i)).length=k∧(∀ j u,(f (g i))[j]? = some u→w.cell? (a.add (i * k+j))=some u)∧Pk (g i) :=
    ⟨fun i=>if h:i<len then (key i h).choose else s0,fun i h=>by simp only [dif_pos h];exact (key i h).choose_spec⟩
   obtain ⟨g,hf⟩:=hf
   refine ⟨some a,m,(List.range len).map g,by simpa using h1,⟨by simpa using hl,hcm⟩,fun i s he=>?_⟩
   rw [List.getElem?_map] at he
   have hil:i<len:=by
    rcases Nat.lt_or_ge i len with h | h
    · exact h
    · rw [List.getElem?_eq_none (by simpa using h)] at he;cases he
   rw [List.getElem?_range hil] at he
   simp only [Option.map_some,Option.some.injEq] at he
   subst he
   obtain ⟨hlen,hc,hP⟩:=hf i hil
   obtain ⟨b,off,spot⟩:=a
   have hspot:spot=none:=by
    obtain ⟨hlen0,hc0,-⟩:=hf 0 (by omega)
    have h0:=hc0 0 _ (List.getElem?_eq_getElem (by omega))
    have h1:=World.cell?_spot h0
    rw [Nat.zero_mul] at h1
    exact h1
   subst hspot
   have ha : ∀ j,(⟨b,off,none⟩:Addr).add j=⟨b,off+j,none⟩:=fun j=>by unfold Addr.add;split <;> simp_all
   refine ⟨b,off,rfl,fun j u hu=>?_,hP⟩
   have:=hc j u hu
   rw [ha] at this
   rw [Nat.add_assoc]
   exact this
end
section
variable {H:Type} {enc:TypeId × Value→H} {w:World} {base:Nat} {spare:Nat→Bool} {held:Bool} {fuel:Nat} {x:DataW H × List MemPlace}
theorem trod_struct5 {P:Program} {t:TypeId} {f0 f1 f2 f3 f4:Field} {cs:List Value} (ht:P.underlying t=some (.struct #[f0,f1,f2,f3,f4])) (h:DataW.trod enc P w base spare held fuel t cs=some x) :
 ∃ y0 y1 y2 y3 y4 n, DataW.trod enc P w base spare held n f0.type ((cs.drop f0.offset).take (P.cellsOf f0.type)) = some y0 ∧ DataW.trod enc P w base spare held n f1.type ((cs.drop f1.offset).take (P.cellsOf f1.type)) = some y1 ∧
   DataW.trod enc P w base spare held n f2.type ((cs.drop f2.offset).take (P.cellsOf f2.type))=some y2∧DataW.trod enc P w base spare held n f3.type ((cs.drop f3.offset).take (P.cellsOf f3.type))=some y3∧DataW.trod enc P w base spare held n f4.type ((cs.drop f4.offset).take (P.cellsOf f4.type))=some y4:=by
 obtain ⟨xs,n,_,rfl,hl,hlen,hf⟩:=DataW.trod_struct ht h
 match xs,hlen with
 | [y0,y1,y2,y3,y4],_=>exact ⟨y0,y1,y2,y3,y4,n,by simpa using hf 0 f0 rfl,by simpa using hf 1 f1 rfl,by simpa using hf 2 f2 rfl,by simpa using hf 3 f3 rfl,by simpa using hf 4 f4 rfl⟩
theorem trod_int14 {v:Value} (h:DataW.trod enc Try.prog w base spare held fuel 3 [v]=some x) : ∃ n:Int,v = .int .i64 n∧(Lit.int .i64 n).wf=true:=by
 obtain ⟨n,h1,_,h2⟩:=DataW.trod_int Try.underlying3 h
 simp only [List.cons.injEq,and_true] at h1
 exact ⟨n,h1,h2⟩
theorem trod_u14 {v:Value} (h:DataW.trod enc Try.prog w base spare held fuel 5 [v]=some x) : ∃ n:Int,v = .int .u8 n∧(Lit.int .u8 n).wf=true:=by
 obtain ⟨n,h1,_,h2⟩:=DataW.trod_int Try.underlying5 h
 simp only [List.cons.injEq,and_true] at h1
 exact ⟨n,h1,h2⟩
theorem byte_wf {n:Int} (h:(Lit.int .u8 n).wf=true):0≤n∧n≤255:=by
 simp [Lit.wf,IntKind.min,IntKind.max,IntKind.signed,IntKind.bits] at h
 omega
theorem trod_ints14 {v:Value} (h:DataW.trod enc Try.prog w base (fun _=>true) held fuel 41 [v]=some x) :
 ∃ ha hcp,∃ xs:List Int,v = .slice ha xs.length hcp∧Sl w .i64 ha xs∧xs.length≤hcp∧hcp≤maxLen ∧ ∀ x∈xs,-9223372036854775808≤x∧x≤9223372036854775807:=by
 rcases open_ints Try.underlying41 Try.underlying3 cellsI14 h with ⟨h1,_⟩ | ⟨a,len,cap,zs,h1,_,hl,hm,hz,_,hc,hw⟩
 · simp only [List.cons.injEq,and_true] at h1
   exact ⟨none,0,[],h1,Sl.nil _ _ _,by simp,by simp [maxLen],by simp⟩
 · simp only [List.cons.injEq,and_true] at h1
   simp only [if_true] at hz
   refine ⟨some a,cap,zs.take len,by rw [h1,List.length_take];congr 1;omega,fun i y hy=>?_,by rw [List.length_take];omega,hm,fun y hy=>bounds_i64 (hw y (List.mem_of_mem_take hy))⟩
   rw [List.getElem?_take] at hy
   split at hy
   · rename_i hi
     have h1:=hc i (by omega)
     have h2:w.cell? (a.add i)=some (.int .i64 y):=by rw [h1];simp [List.getD,hy]
     obtain ⟨b,off,spot⟩:=a
     have hspot:spot=none:=by
      have h0:=hc 0 (by omega)
      simpa [Addr.add] using World.cell?_spot h0
     subst hspot
     refine ⟨b,off,rfl,?_⟩
     have:(⟨b,off,none⟩:Addr).add i=⟨b,off+i,none⟩:=by unfold Addr.add;split <;> simp_all
     rwa [this] at h2
   · cases hy
end
structure OpB where
 kind:Int
 pa:Option Addr
 pc:Nat
 pg:List Int
 by_:Int
 n:Int
 ka:Option Addr
 kc:Nat
 picks:List Int
def OpB.cells (s:OpB):List Value:=[.int .i64 s.kind,.slice s.pa s.pg.length s.pc,.int .u8 s.by_,.int .i64 s.n,.slice s.ka s.picks.length s.kc]
def OpB.agg (s:OpB):Value:=.agg #[.int .i64 s.kind,.slice s.pa s.pg.length s.pc,.int .u8 s.by_,.int .i64 s.n,.slice s.ka s.picks.length s.kc]
structure OpB.Ok (w:World) (s:OpB):Prop where
 sl:Sl w .i64 s.pa s.pg
 i64 : ∀ x∈s.pg,-9223372036854775808≤x∧x≤9223372036854775807
 len:s.pg.length≤9223372036854775807
 byt:0≤s.by_∧s.by_≤255
theorem OpB.Ok.later {w w':World} {s:OpB} (h:s.Ok w) (hb:Below w.heap.size w w'):s.Ok w':=⟨h.sl.below hb,h.i64,h.len,h.byt⟩
def OpsB (w:World) (a:Option Addr) (L:List OpB):Prop := ∀ (i:Nat) (s:OpB),L[i]? = some s → ∃ b off,a=some ⟨b,off,none⟩∧(∀ j u,s.cells[j]? = some u→w.cell? ⟨b,off+i * 5+j,none⟩=some u)∧s.Ok w
theorem OpsB.later {w w':World} {a:Option Addr} {L:List OpB} (h:OpsB w a L) (hb:Below w.heap.size w w'):OpsB w' a L:=fun i s hs=>by
 obtain ⟨b,off,e,hc,ho⟩:=h i s hs
 exact ⟨b,off,e,fun j u hu=>cell_later hb (hc j u hu),ho.later hb⟩
section
variable {H:Type} {enc:TypeId × Value→H} {w:World} {base:Nat} {held:Bool}
theorem trod_op14 {fuel:Nat} {cs:List Value} {x:DataW H × List MemPlace} (hl:cs.length=5) (h:DataW.trod enc Try.prog w base (fun _=>true) held fuel 58 cs=some x) :
 ∃ s:OpB,cs=s.cells∧s.Ok w:=by
 obtain ⟨c0,c1,c2,c3,c4,rfl⟩:=list5 hl
 obtain ⟨y0,y1,y2,y3,y4,n,h0,h1,h2,h3,h4⟩:=trod_struct5 Try.underlying58 h
 have h0:DataW.trod enc Try.prog w base (fun _=>true) held n 3 [c0]=some y0:=by simpa [cellsI14] using h0
 have h1:DataW.trod enc Try.prog w base (fun _=>true) held n 41 [c1]=some y1:=by simpa [cellsL14] using h1
 have h2:DataW.trod enc Try.prog w base (fun _=>true) held n 5 [c2]=some y2:=by simpa [cellsU14] using h2
 have h3:DataW.trod enc Try.prog w base (fun _=>true) held n 3 [c3]=some y3:=by simpa [cellsI14] using h3
 have h4:DataW.trod enc Try.prog w base (fun _=>true) held n 41 [c4]=some y4:=by simpa [cellsL14] using h4
 obtain ⟨k,e0,_⟩:=trod_int14 h0
 obtain ⟨pa,pc,pg,e1,hs,hc,hm,hw⟩:=trod_ints14 h1
 obtain ⟨b,e2,w2⟩:=trod_u14 h2
 obtain ⟨n,e3,_⟩:=trod_int14 h3
 obtain ⟨ka,kc,ks,e4,_⟩:=trod_ints14 h4
 subst e0 e1 e2 e3 e4
 exact ⟨⟨k,pa,pc,pg,b,n,ka,kc,ks⟩,rfl,hs,hw,by simp only [maxLen] at hm;show pg.length≤_;omega,byte_wf w2⟩
set_option maxRecDepth 100000 in
theorem open_ops {r:Reach} {b0:Nat} {v:Value} {d:DataW H} {p:List MemPlace} (hv:Value.okWide Try.prog w r b0 47 v) (h:DataW.Trod enc Try.prog w base (fun _=>true) held 47 v d p) :
 ∃ ha hcp,∃ xs:List OpB,v = .slice ha xs.length hcp∧OpsB w ha xs∧xs.length≤9223372036854775807:=by
 obtain ⟨a,n,cap,rfl⟩:=okWide_slice Try.underlying47 hv
 obtain ⟨fuel,hf⟩:=h
 obtain ⟨ha,hcp,L,e,⟨h1,h2⟩,h3⟩:=open_rowsL OpB.cells (OpB.Ok w) Try.underlying47 cellsOp14 (by decide) ⟨0,none,0,[],0,0,none,0,[]⟩ (fun hl ht=>trod_op14 hl ht) (by simpa [Value.cells] using hf)
 exact ⟨ha,hcp,L,e,h3,by simp only [maxLen] at h2;omega⟩
end
end
section
open Go.RowKit Go.Sort Go.Maps
def rowP (l:List (Int × List Int)):List Value:=l.flatMap fun x=>[.int .i64 x.1,.string (strOfNums x.2)]
theorem rowP_snoc (l:List (Int × List Int)) (x:Int) (s:List Int):rowP l++[.int .i64 x,.string (strOfNums s)]=rowP (l++[(x,s)]):=by simp [rowP]
theorem rowP_at : ∀ (l:List (Int × List Int)) (i:Nat) x,l[i]? = some x→(rowP l)[i * 2]? = some (.int .i64 x.1)∧(rowP l)[i * 2+1]? = some (.string (strOfNums x.2))
 | [],i,x,h=>by simp at h
 | y :: l, 0, x, h => by
   simp only [List.getElem?_cons_zero,Option.some.injEq] at h
   subst h
   exact ⟨rfl,rfl⟩
 | y :: l, i + 1, x, h => by
   have ih:=rowP_at l i x (by simpa using h)
   have e:rowP (y::l) = .int .i64 y.1 :: .string (strOfNums y.2)::rowP l:=rfl
   rw [e,show (i+1) * 2=i * 2+1+1 by omega,show i * 2+1+1+1=(i * 2+1)+1+1 by omega]
   simpa using ih
structure BatI (w1:World) (v:Value) (k:Nat) (W:World):Prop where
 bel:Below w1.heap.size w1 W
 ex : ∃ l:List (Int × List Int),l.length=k∧(∀ x∈l,(-9223372036854775808≤x.1∧x.1≤9223372036854775807)∧x.2.length=116∧Byts x.2)∧W.ownsRow w1.heap.size 69 2 v k (rowP l)
theorem BatI.start (w1:World):BatI w1 (.slice none 0 0) 0 w1:=⟨Below.refl _ _,[],rfl,by simp,World.ownsRow_nil _ _ _ _⟩
theorem BatI.later {w1 W W':World} {v:Value} {k:Nat} (h:BatI w1 v k W) (hb:Below W.heap.size W W'):BatI w1 v k W':=by
 obtain ⟨l,h1,h2,h3⟩:=h.ex
 exact ⟨h.bel.trans (hb.mono h.bel.size),l,h1,h2,ownsRow_below h3 hb⟩
theorem BatI.add {w1 W:World} {v:Value} {k:Nat} (h:BatI w1 v k W) {x:Int} {s:List Int} (hx : -9223372036854775808≤x∧x≤9223372036854775807) (hs:s.length=116∧Byts s) :
 ∃ xs,W.ownsRow w1.heap.size 69 2 v k xs∧w1.heap.size≤W.heap.size ∧ ∀ v' W',W'.ownsRow w1.heap.size 69 2 v' (k+1) (xs++[.int .i64 x,.string (strOfNums s)])→W.grownBy W' v.ownBlock→BatI w1 v' (k+1) W':=by
 obtain ⟨l,h1,h2,h3⟩:=h.ex
 refine ⟨rowP l,h3,h.bel.size,fun v' W' g1 g2=>⟨h.bel.grown g2 h.bel.size fun g hg=>?_,l++[(x,s)],by rw [List.length_append,h1];rfl,fun y hy=>?_,by rw [←rowP_snoc];exact g1⟩⟩
 · rcases h3.2 with ⟨rfl,_⟩ | ⟨g',cap,cur,rfl,hb,_⟩
   · cases hg
   · injection hg with hg
     subst hg
     exact hb
 · rcases List.mem_append.1 hy with hy | hy
   · exact h2 y hy
   · rw [List.mem_singleton] at hy;subst hy;exact ⟨hx,hs⟩
theorem BatI.done {w1 W:World} {v:Value} {k:Nat} (h:BatI w1 v k W) : ∃ a c l,v = .slice a l.length c∧SlP W a l∧l.length=k ∧ ∀ x∈l,(-9223372036854775808≤x.1∧x.1≤9223372036854775807)∧x.2.length=116∧Byts x.2:=by
 obtain ⟨l,h1,h2,h3⟩:=h.ex
 obtain ⟨a,c,rfl,_,_,hc⟩:=ownsRow_form h3
 refine ⟨a,c,l,by rw [h1],fun i x hx=>?_,h1,h2⟩
 obtain ⟨k1,k2⟩:=rowP_at l i x hx
 obtain ⟨g,rfl,c1⟩:=hc _ _ k1
 obtain ⟨g',e,c2⟩:=hc _ _ k2
 simp only [Option.some.injEq,Addr.mk.injEq,and_true] at e
 subst e
 exact ⟨g,0,rfl,by rw [Nat.zero_add];exact c1,by rw [Nat.zero_add];exact c2⟩
def WrR (x:Int) (s:List Int) (v:Value) (w:World):Prop := ∃ h,v = .slice (some ⟨h,0,none⟩) 1 1∧Bk w h #[.int .i64 x,.string (strOfNums s)] 69
theorem WrR.later {w w':World} {x:Int} {s:List Int} {v:Value} (h:WrR x s v w) (hb:Below w.heap.size w w'):WrR x s v w':=by
 obtain ⟨k,h1,h2⟩:=h
 exact ⟨k,h1,h2.later hb⟩
theorem WrR.src {w:World} {x:Int} {s:List Int} {g:Nat} (h:Bk w g #[.int .i64 x,.string (strOfNums s)] 69) : ∀ (j:Nat) u,[Value.int .i64 x,.string (strOfNums s)][j]? = some u → ∃ ad:Addr,some (⟨g,0,none⟩:Addr)=some ad∧w.cell? (ad.add j)=some u:=fun j u hj=>by
 match j,hj with
 | 0,hj=>obtain rfl:=Option.some.inj hj;exact ⟨_,rfl,h.cell 0 rfl⟩
 | 1,hj=>obtain rfl:=Option.some.inj hj;exact ⟨_,rfl,h.cell 1 rfl⟩
set_option maxRecDepth 100000 in
set_option maxHeartbeats 4000000 in
theorem batch_any (w:World) (s:OpB) (ho:s.Ok w) :
 Calls Try.prog 25 #[s.agg] w fun e w' => ∃ a c l,e = .returned (.slice a l.length c)∧SlP w' a l∧l.length≤20∧(∀ x∈l,(-9223372036854775808≤x.1∧x.1≤9223372036854775807)∧x.2.length=116∧Byts x.2)∧Below w.heap.size w w':=by
 obtain ⟨kind,pa,pc,pg,by_,n_,ka,kc,picks⟩:=s
 unfold OpB.agg
 have HO:=Bx.mk ho
 have hlen:=ho.len
 have hbyt:=ho.byt
 dsimp only at hlen hbyt
 obtain ⟨n,hn⟩ : ∃ n,n=pg.length:=⟨_,rfl⟩
 dsimp only
 rw [←hn] at hlen ⊢
 have Hn:=Bx.mk hn
 have Hbyt:=Bx.mk hbyt
 generalize picks.length=pl at *
 have hinf:=info_parts (show (Try.prog.info? 69).map (fun i=>(i.zero,i.size,i.bytes))=some (some (.agg #[.int .i64 0,.string ByteArray.empty]),2,24) by kernel_rfl)
 have HINF:=Bx.mk hinf
 clear hn ho hbyt hinf
 have hmk : ∀ W,(Instr.makeSlice 66 (.int .i64 (116:Int)) (.int .i64 (116:Int))).run Try.prog W = .ok (.slice (some ⟨W.heap.size,0,none⟩) 116 116) (W.alloc (.cells (madeCells #[.int .u8 0] 116) 5)) :=
  fun W=>run_make_row' (P:=Try.prog) 66 5 (.int .u8 0) 1 Try.underlying66 (by kernel_rfl) rfl .i64 .i64 116 (by omega) (by omega) W
 replace hmk:=Bx.mk hmk
 go_enter Try.func25,Try.ntmps25
 go_upto_region 1 with fail
 generalize hW:World.alloc w _=W
 have hb:=bl1 hW
 have hk:Bk W w.heap.size #[.int .i64 kind,.slice pa n pc,.int .u8 by_,.int .i64 n_,.slice ka pl kc] 58:=bk0 hW rfl
 have HK:=Bx.mk fun W' (h:Below W.heap.size W W')=>hk.later h
 have HSL:=Bx.mk fun W' (h:Below W.heap.size W W')=>HO.out.sl.below (hb.trans (h.mono hb.size))
 have HB:=Bx.mk hb
 obtain ⟨xb,hxb⟩ : ∃ xb,xb=w.heap.size:=⟨_,rfl⟩
 rw [←hxb] at HK ⊢
 clear hW hb hk hxb
 go_wp2_with fail
 go_loopw [3,4] (fun v3 v4 wr => ∃ (k:Nat) (q3:Value),k≤20∧v4 = .int .i64 k∧q3=v3∧Bx (BatI W q3 k wr)) (fun _ i _=>20 - (intOf i).toNat)
 case atStart=>exact ⟨0,_,Nat.zero_le _,rfl,rfl,⟨BatI.start W⟩⟩
 case round =>
  obtain ⟨k,q3,hk,rfl,rfl,HI⟩:=hrel
  generalize wr=wo at *
  have x1:=(HK.out wo HI.out.bel).cell 1 rfl
  have stop:Bx (∃ a c l,q3 = .slice a l.length c∧SlP wo a l∧l.length≤20∧(∀ x∈l,(-9223372036854775808≤x.1∧x.1≤9223372036854775807)∧x.2.length=116∧Byts x.2)∧Below w.heap.size w wo):=⟨by
   obtain ⟨a,c,l,h1,h2,h3,h4⟩:=HI.out.done
   exact ⟨a,c,l,h1,h2,by omega,h4,HB.out.trans (HI.out.bel.mono HB.out.size)⟩⟩
  by_cases hlt:k<n
  · have t0:decide ((k:Int)<(n:Int))=true:=by simp;omega
    have t0b:decide (k<n)=true:=by simpa using hlt
    by_cases h20:k<20
    · have t1:decide ((k:Int)<20)=true:=by simp;omega
      have t1b:decide (k<20)=true:=by simpa using h20
      have hm:=hmk.out wo
      have Hlt:=Bx.mk (And.intro hlt h20)
      clear hlt h20 stop
      go_wp2_with fail
      clear x1 t0 t0b t1 t1b hm
      go_loopw [6] (fun i wi => ∃ (j:Nat) (f:Nat→Int),j≤116∧i = .int .i64 j∧Bx (∀ a,0≤f a∧f a≤255)∧Bx (wi.rowIs wo.heap.size 5 116 (fun a=>.int .u8 (f a)))∧Bx (Below wo.heap.size wo wi)) (fun i _=>116 - (intOf i).toNat)
      case atStart=>exact ⟨0,fun _=>0,Nat.zero_le _,rfl,⟨fun _=>⟨Int.le_refl 0,(by decide:(0:Int)≤255)⟩⟩,⟨(World.rowIs_made _ _ _ _).congr (fun i _=>rfl)⟩,⟨(Below.refl _ _).alloc (Nat.le_refl _) _⟩⟩
      case round =>
       obtain ⟨j,f,hj,rfl,HF,hrow,hB⟩:=hrel
       generalize wr=wi at *
       have HI2:=Bx.mk (HI.out.later hB.out)
       by_cases hlt:j<116
       · have t0:decide ((j:Int)<116)=true:=by simp;omega
         have t0b:decide (j<116)=true:=by simpa using hlt
         have x2:=(HK.out wi HI2.out.bel).cell 2 rfl
         have hmul:k * j≤20 * 116:=Nat.mul_le_mul hk hj
         have e1:IntKind.i64.wrap ((k:Int) * (j:Int))=((k * j:Nat):Int):=by
          rw [IntWalk.i64_in _ (by rw [←Int.natCast_mul];omega)];exact (Int.natCast_mul k j).symm
         obtain ⟨kj,hkj⟩ : ∃ kj,kj=k * j:=⟨_,rfl⟩
         rw [←hkj] at e1
         obtain ⟨q,hq⟩ : ∃ q,q=IntKind.u8.wrap (kj:Int):=⟨_,rfl⟩
         have e2:IntKind.u8.wrap (kj:Int)=q:=hq.symm
         obtain ⟨z,hz⟩ : ∃ z,z=IntKind.u8.wrap (by_+q):=⟨_,rfl⟩
         have e3:IntKind.u8.wrap (by_+q)=z:=hz.symm
         have hzb:0≤z∧z≤255:=by rw [hz,IntKind.wrap_u8];omega
         have HZ:=Bx.mk hzb
         have Hlt:=Bx.mk hlt
         have b1:(0:Int)≤(j:Int):=by omega
         have b2:(j:Int)<116:=by omega
         have hcell:=hrow.out.cell hlt
         have hfr:=hrow.out.frozen j
         clear hmul hkj hq hz hzb hlt
         go_wp2_with fail
         have hrow2:=Bx.mk ((hrow.out.set j (.int .u8 z)).congr (g:=fun a=>.int .u8 (if a=j then z else f a)) (fun a ha=>by
          by_cases e:a=j
          · simp only [e,if_true]
          · simp only [e,if_false]))
         have hB2:=Bx.mk (show Below wo.heap.size wo (wi.setCell ⟨wo.heap.size,j,none⟩ (.int .u8 z)) from hB.out.setCell (Nat.le_refl _) _)
         clear hcell hfr
         go_roundw
         case rel=>exact ⟨j+1,fun a=>if a=j then z else f a,by have:=Hlt.out;omega,by go_num,⟨fun a=>by
          show 0≤(if a=j then z else f a)∧(if a=j then z else f a)≤255
          split
          · exact HZ.out
          · exact HF.out a⟩,hrow2,hB2⟩
         case measure=>have:=Hlt.out;simp [intOf];omega
       · obtain rfl:j=116:=by omega
         have t0:decide (((116:Nat):Int)<116)=false:=by simp
         have hsl:Sl wi .u8 (some ⟨wo.heap.size,0,none⟩) ((List.range 116).map f):=fun i x hx=>⟨wo.heap.size,0,rfl,by
          have hi:i<116:=by have:=(List.getElem?_eq_some_iff.1 hx).1;simpa using this
          have:=hrow.out.cell hi
          rw [Nat.zero_add,this]
          rw [List.getElem?_map,List.getElem?_range hi] at hx
          simp only [Option.map_some,Option.some.injEq] at hx
          rw [hx]⟩
         obtain ⟨sb,hsb⟩ : ∃ sb,sb=(List.range 116).map f:=⟨_,rfl⟩
         rw [←hsb] at hsl
         have Hsb:Bx (sb.length=116∧Byts sb):=⟨by rw [hsb];simp,by
          rw [hsb]
          intro x hx
          obtain ⟨i,_,rfl⟩:=List.mem_map.1 hx
          exact HF.out i⟩
         have HSB:=Bx.mk fun W' (h:Below wi.heap.size wi W')=>conv_str (P:=Try.prog) 66 5 9 Try.underlying66 Try.underlying5 Try.underlying9 (hsl.below h) 116 116 Hsb.out.1.symm
         obtain ⟨x,hx⟩ : ∃ x,pg[k]? = some x:=⟨_,List.getElem?_eq_getElem (by rw [←Hn.out];exact Hlt.out.1)⟩
         have HX:=Bx.mk (HO.out.i64 x (List.mem_of_getElem? hx))
         have HP:Bx (∃ b off,pa=some ⟨b,off,none⟩ ∧ ∀ W',Below wi.heap.size wi W'→W'.cell? ⟨b,off+k,none⟩=some (.int .i64 x)):=⟨by
          obtain ⟨b,off,e,hc⟩:=HSL.out wi HI2.out.bel k x hx
          exact ⟨b,off,e,fun W' h=>cell_later h hc⟩⟩
         have HKW:=Bx.mk fun W' (h:Below wi.heap.size wi W')=>HK.out W' (HI2.out.bel.trans (h.mono HI2.out.bel.size))
         obtain ⟨pb,po,rfl,hpc⟩:=HP.out
         have HPC:=Bx.mk hpc
         obtain ⟨sg,hsg⟩ : ∃ sg,sg=wo.heap.size:=⟨_,rfl⟩
         rw [←hsg] at HSB
         have b1:(0:Int)≤(k:Int):=by omega
         have b2:(k:Int)<(n:Int):=by have:=Hlt.out;omega
         clear hsl hrow hsb HF hx HP hpc HSL HI
         go_upto_region 10 with fail
         rw [←hsg]
         clear t0 hsg hB
         obtain ⟨S,hS⟩ : ∃ S,S=strOfNums sb:=⟨_,rfl⟩
         rw [←hS] at HSB
         have HS:=Bx.mk hS
         clear hS
         refine wp_region_relX 10 1 (fun ii v w'=>match ii with
          | 0=>v=q3
          | 1=>v = .pointer (some ⟨xb,1,none⟩)
          | 2=>v = .slice (some ⟨pb,po,none⟩) n pc
          | 3=>v = .int .i64 (k:Int)
          | 4=>v = .pointer (some ⟨pb,po+k,none⟩)
          | 5=>v = .int .i64 x
          | 6=>v = .slice (some ⟨sg,0,none⟩) 116 116
          | 7=>v = .string S
          | 8=>v = .agg #[.int .i64 x,.string S]
          | _=>WrR x sb v w') (by kernel_rfl) (by kernel_rfl) 45 (by kernel_rfl) (by rfl) ?_ ?_ ?_
         · intro ii hi v u1 u2 hb h
           match ii,hi with
           | 0,_=>exact h
           | 1,_=>exact h
           | 2,_=>exact h
           | 3,_=>exact h
           | 4,_=>exact h
           | 5,_=>exact h
           | 6,_=>exact h
           | 7,_=>exact h
           | 8,_=>exact h
           | 9,_=>exact h.later hb
         · intro ii o hi ho ρ wx hb hc1 hc2 hc3 hk
           match ii,hi with
           | 0, _ =>
             obtain rfl:=Option.some.inj ho
             have g0:ρ (.tmp 3)=q3:=hk 3 (by simp [Op.operands,Call.operands])
             clear hk hb HKW HPC HSB HO HI2 HK
             go_simp
             exact Below.refl _ _
           | 1, _ =>
             obtain rfl:=Option.some.inj ho
             have g0:ρ (.tmp 1) = .pointer (some ⟨xb,0,none⟩):=hk 1 (by simp [Op.operands,Call.operands])
             clear hk hb HKW HPC HSB HO HI2 HK
             go_simp
             exact Below.refl _ _
           | 2, _ =>
             obtain rfl:=Option.some.inj ho
             have g0:ρ (.tmp 34) = .pointer (some ⟨xb,1,none⟩):=hk 34 (by simp [Op.operands,Call.operands])
             have z1:=(HKW.out wx hb).cell 1 rfl
             clear hk hb HKW HPC HSB HO HI2 HK
             go_simp
             exact Below.refl _ _
           | 3, _ =>
             obtain rfl:=Option.some.inj ho
             have g0:ρ (.tmp 4) = .int .i64 (k:Int):=hk 4 (by simp [Op.operands,Call.operands])
             clear hk hb HKW HPC HSB HO HI2 HK
             go_simp
             exact Below.refl _ _
           | 4, _ =>
             obtain rfl:=Option.some.inj ho
             have g0:ρ (.tmp 35) = .slice (some ⟨pb,po,none⟩) n pc:=hk 35 (by simp [Op.operands,Call.operands])
             have g1:ρ (.tmp 36) = .int .i64 (k:Int):=hk 36 (by simp [Op.operands,Call.operands])
             clear hk hb HKW HPC HSB HO HI2 HK
             go_simp
             exact Below.refl _ _
           | 5, _ =>
             obtain rfl:=Option.some.inj ho
             have g0:ρ (.tmp 37) = .pointer (some ⟨pb,po+k,none⟩):=hk 37 (by simp [Op.operands,Call.operands])
             have z1:=HPC.out wx hb
             clear hk hb HKW HPC HSB HO HI2 HK
             go_simp
             exact Below.refl _ _
           | 6, _ =>
             obtain rfl:=Option.some.inj ho
             have g0:ρ (.tmp 5) = .slice (some ⟨sg,0,none⟩) 116 116:=hk 5 (by simp [Op.operands,Call.operands])
             clear hk hb HKW HPC HSB HO HI2 HK
             go_simp
             exact Below.refl _ _
           | 7, _ =>
             obtain rfl:=Option.some.inj ho
             have g0:ρ (.tmp 39) = .slice (some ⟨sg,0,none⟩) 116 116:=hk 39 (by simp [Op.operands,Call.operands])
             have hcv:=HSB.out wx hb
             clear hk hb HKW HPC HSB HO HI2 HK
             go_simp
             exact Below.refl _ _
           | 8, _ =>
             obtain rfl:=Option.some.inj ho
             have g0:ρ (.tmp 38) = .int .i64 x:=hk 38 (by simp [Op.operands,Call.operands])
             have g1:ρ (.tmp 40) = .string S:=hk 40 (by simp [Op.operands,Call.operands])
             clear hk hb HKW HPC HSB HO HI2 HK
             go_simp
             exact Below.refl _ _
           | 9, _ =>
             obtain rfl:=Option.some.inj ho
             have g0:ρ (.tmp 41) = .agg #[.int .i64 x,.string S]:=hk 41 (by simp [Op.operands,Call.operands])
             have Hn2:Bx (WrR x sb (.slice (some ⟨wx.heap.size,0,none⟩) 1 1) (wx.alloc (.cells #[.int .i64 x,.string S] 69))):=⟨_,rfl,by rw [←HS.out];exact Bk.new _ _ _⟩
             clear hk hb HKW HPC HSB HO HI2 HK
             go_simp
             exact ⟨(Below.refl _ _).alloc (Nat.le_refl _) _,Hn2.out⟩
         · intro vs w6 hlen hb hR
           match vs,hlen with
           | [v0, v1, v2, v3, v4, v5, v6, v7, v8, v9], _ =>
             have r0:v0=q3:=hR 0 v0 rfl
             have r1:v1 = .pointer (some ⟨xb,1,none⟩):=hR 1 v1 rfl
             have r2:v2 = .slice (some ⟨pb,po,none⟩) n pc:=hR 2 v2 rfl
             have r3:v3 = .int .i64 (k:Int):=hR 3 v3 rfl
             have r4:v4 = .pointer (some ⟨pb,po+k,none⟩):=hR 4 v4 rfl
             have r5:v5 = .int .i64 x:=hR 5 v5 rfl
             have r6:v6 = .slice (some ⟨sg,0,none⟩) 116 116:=hR 6 v6 rfl
             have r7:v7 = .string S:=hR 7 v7 rfl
             have r8:v8 = .agg #[.int .i64 x,.string S]:=hR 8 v8 rfl
             have r9:WrR x sb v9 w6:=hR 9 v9 rfl
             clear hR
             subst r0 r1 r2 r3 r4 r5 r6 r7 r8
             obtain ⟨hh,rfl,hbk⟩:=r9
             obtain ⟨xs,hown,hle,hpost⟩:=(HI2.out.later hb).add HX.out Hsb.out
             obtain ⟨i0,hi0,hz0,hz1,hz2⟩:=HINF.out
             have hln:(k+1)≤maxLen:=by have:=Hlt.out;simp only [maxLen];omega
             have hln2:(k+1) * 24≤140737488355328:=by have:=Hlt.out;omega
             replace hpost:=Bx.mk hpost
             clear hb HI2 HKW HPC HSB HO HK
             simp only [puts,List.take_succ_cons,List.take_zero,List.drop_succ_cons,List.drop_zero,List.map_cons,List.map_nil,List.zip_cons_cons,List.zip_nil_right,List.foldl_cons,List.foldl_nil]
             simp only [Act.put,List.setIfInBounds_toArray,List.set_cons_succ,List.set_cons_zero]
             at_builtin
             refine wpList_append_src rfl _ _ 55 rfl W.heap.size 69 i0 (.agg #[.int .i64 0,.string ByteArray.empty]) 2 24 Try.underlying55 hi0 hz0 hz1 hz2 rfl (by omega) _ k xs rfl hown (some ⟨hh,0,none⟩) 1 1 [.int .i64 x,.string (strOfNums sb)] rfl rfl (WrR.src hbk) (by simp only [List.mem_cons,List.not_mem_nil,or_false,forall_eq_or_imp,forall_eq];exact ⟨rfl,rfl⟩) hln hln2 hle ?_
             intro q3' w7 g1 g2
             have HI7:=Bx.mk (hpost.out q3' w7 g1 g2)
             clear hpost g1 g2 hown hln hln2 hle hbk hi0 hz0 hz1 hz2
             go_wp2_with fail
             go_roundw
             case rel=>exact ⟨k+1,_,by have:=Hlt.out;omega,by go_num,rfl,HI7⟩
             case measure=>have:=Hlt.out;simp [intOf];omega
    · have t1:decide ((k:Int)<20)=false:=by simp;omega
      have t1b:decide (k<20)=false:=by simpa using h20
      go_wp2_with fail
      go_ret
      obtain ⟨a,c,l,h1,h2⟩:=stop.out
      exact ⟨a,c,l,by rw [h1];rfl,h2⟩
  · have t0:decide ((k:Int)<(n:Int))=false:=by simp;omega
    have t0b:decide (k<n)=false:=by simpa using hlt
    go_wp2_with fail
    go_ret
    obtain ⟨a,c,l,h1,h2⟩:=stop.out
    exact ⟨a,c,l,by rw [h1];rfl,h2⟩
end
section
open Go.RowKit Go.Sort Go.Maps
attribute [local go_sem] Oper.semAt_some
theorem pg_room (k:Nat):Fence.wide.room k:=fun d h=>by cases h
theorem pg_round {m m':Nat} {P:Program} {l:Nat} {f:FuncId} {tmps:Array Value} {assign body:Code} {w:World} {R:Ending→World→Prop}
 (h:RoundIn Fence.wide m P l f tmps assign body w R):RoundIn Fence.wide m' P l f tmps assign body w R:=⟨h.1,fun c cs _=>h.2 c cs (pg_room _)⟩
theorem pg_yield {m:Nat} (m':Nat) {P:Program} {l:Nat} {args:Array Value} {W:World} {R:Ending→World→Prop} (h:YieldAt Fence.wide m P l args W R):YieldAt Fence.wide m' P l args W R:=by
 obtain ⟨fn,tmps,assign,body,hy,hR⟩:=h
 exact ⟨fn,tmps,assign,body,hy,pg_round hR⟩
def rdsP (d:Dk):List (List Int × Int):=(List.range d.p.length).map fun (i:Nat)=>d.read (i:Int)
theorem rdsP_len (d:Dk):(rdsP d).length=d.p.length:=by simp [rdsP]
theorem rdsP_at (d:Dk) {k:Nat} (h:k<d.p.length):(rdsP d)[k]? = some (d.read (k:Int)):=by simp [rdsP,h]
theorem rdsP_succ (d:Dk) {k:Nat} (h:k<d.p.length):(rdsP d).take (k+1)=(rdsP d).take k++[d.read (k:Int)]:=by
 have hk:k<(rdsP d).length:=by rw [rdsP_len];exact h
 rw [List.take_succ_eq_append_getElem hk]
 have:=rdsP_at d h
 rw [List.getElem?_eq_getElem hk] at this
 rw [Option.some.inj this]
abbrev rdArgs (x:List Int × Int):Array Value:=#[.string (strOfNums x.1),.int .i64 x.2]
set_option maxRecDepth 100000 in
set_option maxHeartbeats 4000000 in
theorem all1_any (l bd dp g mb cap m:Nat) (d:Dk) (S:Nat→Prop) (hS : ∀ k,In3 dp g mb k → ¬S k) (hSb : ¬S bd) (J Jx:List (List Int × Int)→World→Prop) (hJ : ∀ s W W',J s W→Below W.heap.size W W'→J s W')
 (W:World) (kd:Bk W bd #[.pointer (some ⟨dp,0,none⟩)] 31) (hd:DkIs W dp g mb cap m d)
 (hY : ∀ n pre x W,x∈rdsP d→J pre W→pre.length<d.p.length→YieldAt Fence.wide n Try.prog l (rdArgs x) W fun e W'=>(e = .returned (.bool true)∧J (pre++[x]) W'∧Chg S W W')∨(e = .returned (.bool false)∧Jx (pre++[x]) W')) (h0:J [] W) :
 Calls Try.prog 49 #[.func (.yield l) #[] #[],.pointer (some ⟨bd,0,none⟩)] W fun e W'=>(∃ v,e = .returned v)∧(J (rdsP d) W' ∨ ∃ q,q <+: rdsP d∧Jx q W'):=by
 have HKD:=Bx.mk fun W' (h:Chg S W W')=>kd.chg h hSb
 have HD:=Bx.mk fun W' (h:Chg S W W')=>hd.chg h hS
 have hl:=Bx.mk (dklen_any W dp g mb cap m d hd)
 have HR:=Bx.mk fun W' (h:Chg S W W') i=>read_any W' dp g mb cap m d (HD.out W' h) i
 have HY:=Bx.mk hY
 have HJ:=Bx.mk hJ
 have H0:=Bx.mk h0
 have c0:=kd.cell 0 rfl
 have hfew:=hd.ok.few
 obtain ⟨n,hn⟩ : ∃ n,n=d.p.length:=⟨_,rfl⟩
 have Hn:=Bx.mk hn
 rw [←hn] at hl hfew
 clear hS hSb kd hd hY h0 hJ HD hn
 refine (callsIn_wide (n:=3)).1 ?_
 refine callsIn_of_wp Try.func49 rfl trivial ?_ rfl
 simp only [Try.ntmps49,List.size_toArray,List.length_cons,List.length_nil,Nat.reduceAdd,Nat.reduceSub,Array.replicate_succ,Array.replicate_zero,List.push_toArray,List.append_toArray,List.nil_append,List.cons_append]
 gi_wp2_with ((try refine ⟨trivial,?_⟩);gi_at_call 36;refine (callsIn_wide.2 hl.out).mono ?_;rintro _ _ ⟨rfl,rfl⟩)
 clear c0
 gi_loopw [6] (fun v6 wr => ∃ k:Nat,k≤n∧v6 = .int .i64 k∧Bx (J ((rdsP d).take k) wr)∧Bx (Chg S W wr)) (fun i _=>n - (intOf i).toNat)
 case atStart=>exact ⟨0,Nat.zero_le _,rfl,⟨by simpa using H0.out⟩,⟨Chg.refl _ _⟩⟩
 case round =>
  obtain ⟨k,hk,rfl,HI,HC⟩:=hrel
  by_cases hlt:k<n
  · have t0:decide ((k:Int)<(n:Int))=true:=by simp;omega
    have c0:=(HKD.out wr HC.out).cell 0 rfl
    have hr:=Bx.mk (HR.out wr HC.out (k:Int))
    have hsu:=Bx.mk (rdsP_succ d (show k<d.p.length by rw [←Hn.out];exact hlt))
    have hxm:=Bx.mk (List.mem_of_getElem? (rdsP_at d (show k<d.p.length by rw [←Hn.out];exact hlt)))
    generalize hx:d.read (k:Int)=x at *
    have hlen:((rdsP d).take k).length<d.p.length:=by rw [List.length_take,rdsP_len,←Hn.out];omega
    have HLn:=Bx.mk hlen
    clear hlen hx
    gi_upto_region 3 with fail
    gi_wp2_with ((try refine ⟨trivial,?_⟩);gi_at_call 41;refine (callsIn_wide.2 hr.out).mono ?_;rintro _ w2 ⟨rfl,hb2⟩;obtain ⟨fn,tmps,assign,body,hy,hYr⟩:=HY.out 3 _ x w2 hxm.out (HJ.out _ _ _ HI.out hb2) HLn.out;replace hYr:=Bx.mk hYr;have HB2:=Bx.mk hb2;clear hb2)
    refine (pg_round hYr.out).mono ?_
    rintro e w3 (⟨rfl,hj,hc⟩ | ⟨rfl,hj⟩)
    · rw [←hsu.out] at hj
      have HJ3:=Bx.mk hj
      have HC3:=Bx.mk ((HC.out.trans (.ofBelow HB2.out S) fun _ _ h=>h).trans hc fun _ _ h=>h)
      clear hj hc hYr hy hr c0 HB2 HI HC hsu HLn
      gi_wp2
      go_roundw
      case rel=>exact ⟨k+1,by omega,by go_num,HJ3,HC3⟩
      case measure=>simp [intOf];omega
    · rw [←hsu.out] at hj
      have HJ3:=Bx.mk hj
      clear hj hYr hy hr c0 HB2 HI HC hsu HLn
      gi_wp2
      exact ⟨rfl,_,results_none rfl _ _ _,⟨_,rfl⟩,.inr ⟨_,List.take_prefix _ _,HJ3.out⟩⟩
  · obtain rfl:k=n:=by omega
    have t0:decide ((k:Int)<(k:Int))=false:=by simp
    have hall:(rdsP d).take k=rdsP d:=by rw [List.take_of_length_le (by rw [rdsP_len,←Hn.out];omega)]
    rw [hall] at HI
    clear hall
    gi_wp2
    go_end0
    exact ⟨⟨_,rfl⟩,.inl HI.out⟩
theorem all_any (dp:Nat) (w:World):Calls Try.prog 37 #[.pointer (some ⟨dp,0,none⟩)] w fun e w'=>e = .returned (.func (.func 49) #[] #[.pointer (some ⟨w.heap.size,0,none⟩)])∧w'=w.alloc (.cells #[.pointer (some ⟨dp,0,none⟩)] 31):=by
 go_enter Try.func37,Try.ntmps37
 go_wp2_with fail
 go_ret
 exact ⟨rfl,rfl⟩
theorem all_stops (bd dp g mb cap m:Nat) (d:Dk) (S:Nat→Prop) (hS : ∀ k,In3 dp g mb k → ¬S k) (hSb : ¬S bd) (n:Nat) (w:World) (kd:Bk w bd #[.pointer (some ⟨dp,0,none⟩)] 31) (hd:DkIs w dp g mb cap m d) :
 SeqStopsK Fence.wide n Try.prog 49 #[.pointer (some ⟨bd,0,none⟩)] (fun x:{ x // x∈rdsP d }=>rdArgs x.1) (Chg S) (fun xs=>xs.map (·.1)=rdsP d) (fun xs=>xs.map (·.1) <+: rdsP d) d.p.length w:=by
 intro l J Jx W hW hJ hJx hY h0
 refine callsIn_wide.2 ?_
 refine (all1_any l bd dp g mb cap m d S hS hSb (fun s W' => ∃ ys:List { x // x∈rdsP d },ys.map (·.1)=s∧J ys W') (fun s W' => ∃ ys:List { x // x∈rdsP d },ys.map (·.1)=s∧Jx ys W') ?_ W (kd.later hW) (hd.later hW) ?_ ⟨[],rfl,h0⟩).mono ?_
 · rintro s A B ⟨ys,hy,hj⟩ hb
   exact ⟨ys,hy,hJ _ _ _ none hj (grown_of_below hb) (fun r e=>by cases e)⟩
 · rintro m' pre x W1 hx ⟨ys,rfl,hj⟩ hl
   rw [List.length_map] at hl
   refine YieldAt.mono (pg_yield m' (hY ys ⟨x,hx⟩ W1 hj hl)) ?_
   rintro e W' (⟨rfl,h1,h2⟩ | ⟨rfl,h1⟩)
   · exact .inl ⟨rfl,⟨_,by simp,h1⟩,h2⟩
   · exact .inr ⟨rfl,⟨_,by simp,h1⟩⟩
 · rintro e W' ⟨hv,⟨ys,hy,hj⟩ | ⟨q,hq,ys,rfl,hj⟩⟩
   · exact ⟨hv,.inl ⟨ys,hy,hj⟩⟩
   · exact ⟨hv,.inr ⟨ys,hq,hj⟩⟩
end
end Go.Proofs.Ytajhkncolbgkbaa
