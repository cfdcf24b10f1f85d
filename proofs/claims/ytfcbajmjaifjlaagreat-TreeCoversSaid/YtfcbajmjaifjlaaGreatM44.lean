/- Cv3, Opn, Opt: joined by program, for one claim. -/
import Derived.Test.YtfcbajmjaifjlaaGreatM43
import Derived.Test.YtfcbajmjaifjlaaGreatM17
import Derived.ProofKit
import Derived.OpenShut
import Derived.ChangeArms
import Derived.ChangeSlices
import Derived.WideShapes
import Derived.Deep.Strs
import Derived.Test.YtfcbajmjaifjlaaGreatM40
import Derived.Deep.Slices
import Derived.Deep.Fields
set_option linter.unusedVariables false
set_option linter.unusedSimpArgs false
namespace Go.Proofs.YtfcbajmjaifjlaaGreat
section
open Go.RowKit Go.Sort Go.Maps
open Oct
theorem tree_covers_true (a b c d e f dd px py pz:Int) (ha la:Option Addr) (hcp lc:Nat) (xs:List Int) (L:List Stp) (hcap:xs.length≤hcp) (w:World) (hsl:Sl w .i64 ha xs) (hse:SlS w la L) :
 Calls Tryz.prog 8 #[.agg #[a,b,c,d,e,f,.slice ha xs.length hcp],dd,.slice la L.length lc,.agg #[px,py,pz]] w fun e' w'=>e' = .returned (.bool true)∧Below w.heap.size w w':=by
 by_cases hfw:xs.length≤300∧L.length≤8∧fromE ⟨⟨a,b,c⟩,⟨d,e,f⟩⟩ xs dd=0
 · obtain ⟨h1,h2,hE⟩:=hfw
   obtain ⟨n,hn,rfl,hV,hC⟩:=fromE_zero hE
   have HX:=goodG_of hV h1 hcap
   cases hall:L.all (fewS n) with
   | true =>
     cases hin:inB ⟨px,py,pz⟩ (cubeB (2 ^ (n+2))) with
     | true=>exact cv_on a b c d e f ha la hcp lc xs L ⟨px,py,pz⟩ w h1 h2 hsl hse n hn HX hE hV hC hall hin
     | false =>
       refine cv_out a b c d e f px py pz n hn hin ha la _ hcp _ lc w fun W hb=>?_
       have h:=few10_yes a b c d e f ha hcp xs h1 n hn hE la lc L h2 W (hsl.below hb) (hse.below hb)
       rw [hall] at h
       exact h
   | false =>
     refine cv_off a b c d e f _ px py pz ha la _ hcp _ lc w fun W hb=>?_
     have h:=few10_yes a b c d e f ha hcp xs h1 n hn hE la lc L h2 W (hsl.below hb) (hse.below hb)
     rw [hall] at h
     exact h
 · exact cv_off a b c d e f dd px py pz ha la _ hcp _ lc w fun W hb=>few10_no a b c d e f dd ha hcp xs la L.length lc hfw W (hsl.below hb)
end
section
open Go.RowKit Go.ChangeShapes Go.WideShapes
open Oct
theorem cellsPt : Tryz.prog.cellsOf 23=3:=by kernel_rfl
theorem cellsBox : Tryz.prog.cellsOf 25=6:=by kernel_rfl
theorem cellsGrid : Tryz.prog.cellsOf 28=7:=by kernel_rfl
theorem cellsIntT : Tryz.prog.cellsOf 3=1:=by kernel_rfl
theorem cellsInts : Tryz.prog.cellsOf 26=1:=by kernel_rfl
theorem row_sl {k:IntKind} {w:World} {a:Option Addr} {len cap:Nat} {zs:List Int}
 (h:(a=none∧len=0∧cap=0∧zs=[]) ∨ ∃ x,a=some x∧len≤cap∧cap≤maxLen∧zs.length=cap∧(∀ i,i<zs.length→w.cell? (x.add i)=some (.int k (zs.getD i 0))) ∧ ∀ n∈zs,(Lit.int k n).wf=true) :
 ∃ xs:List Int,len=xs.length∧Sl w k a xs:=by
 rcases h with ⟨rfl,rfl,rfl,rfl⟩ | ⟨x,rfl,hl,hm,hz,hc,hw⟩
 · exact ⟨[],rfl,Sl.nil _ _ _⟩
 · refine ⟨zs.take len,by simp;omega,fun i y hy=>?_⟩
   rw [List.getElem?_take] at hy
   split at hy
   · rename_i hi
     have h1:=hc i (by omega)
     have h2:w.cell? (x.add i)=some (.int k y):=by rw [h1];simp [List.getD,hy]
     obtain ⟨b,off,spot⟩:=x
     have hspot:spot=none:=by
      have h0:=hc 0 (by omega)
      simpa [Addr.add] using World.cell?_spot h0
     subst hspot
     refine ⟨b,off,rfl,?_⟩
     have:(⟨b,off,none⟩:Addr).add i=⟨b,off+i,none⟩:=by unfold Addr.add;split <;> simp_all
     rwa [this] at h2
   · cases hy
section
variable {H:Type} {enc:TypeId × Value→H} {w:World} {base:Nat} {spare:Nat→Bool} {held:Bool} {fuel:Nat} {x:DataW H × List MemPlace}
theorem trod_int1 {v:Value} (h:DataW.trod enc Tryz.prog w base spare held fuel 3 [v]=some x) : ∃ n:Int,v = .int .i64 n∧(Lit.int .i64 n).wf=true:=by
 obtain ⟨n,h1,_,h2⟩:=DataW.trod_int Tryz.underlying3 h
 simp only [List.cons.injEq,and_true] at h1
 exact ⟨n,h1,h2⟩
theorem trod_pt {c0 c1 c2:Value} (h:DataW.trod enc Tryz.prog w base spare held fuel 23 [c0,c1,c2]=some x) :
 ∃ a b c:Int,c0 = .int .i64 a∧c1 = .int .i64 b∧c2 = .int .i64 c:=by
 obtain ⟨y0,y1,y2,n,_,_,h0,h1,h2⟩:=Go.Deep.trod_struct3 Tryz.underlying23 h
 have h0:DataW.trod enc Tryz.prog w base spare held n 3 [c0]=some y0:=by simpa [cellsIntT] using h0
 have h1:DataW.trod enc Tryz.prog w base spare held n 3 [c1]=some y1:=by simpa [cellsIntT] using h1
 have h2:DataW.trod enc Tryz.prog w base spare held n 3 [c2]=some y2:=by simpa [cellsIntT] using h2
 obtain ⟨a,e0,_⟩:=trod_int1 h0
 obtain ⟨b,e1,_⟩:=trod_int1 h1
 obtain ⟨c,e2,_⟩:=trod_int1 h2
 exact ⟨a,b,c,e0,e1,e2⟩
theorem trod_box {c0 c1 c2 c3 c4 c5:Value} (h:DataW.trod enc Tryz.prog w base spare held fuel 25 [c0,c1,c2,c3,c4,c5]=some x) :
 ∃ a b c d e f:Int,c0 = .int .i64 a∧c1 = .int .i64 b∧c2 = .int .i64 c∧c3 = .int .i64 d∧c4 = .int .i64 e∧c5 = .int .i64 f:=by
 obtain ⟨y0,y1,n,_,_,h0,h1⟩:=trod_struct2 Tryz.underlying25 h
 have h0:DataW.trod enc Tryz.prog w base spare held n 23 [c0,c1,c2]=some y0:=by simpa [cellsPt] using h0
 have h1:DataW.trod enc Tryz.prog w base spare held n 23 [c3,c4,c5]=some y1:=by simpa [cellsPt] using h1
 obtain ⟨a,b,c,e0,e1,e2⟩:=trod_pt h0
 obtain ⟨d,e,f,e3,e4,e5⟩:=trod_pt h1
 exact ⟨a,b,c,d,e,f,e0,e1,e2,e3,e4,e5⟩
theorem trod_ints {v:Value} (h:DataW.trod enc Tryz.prog w base (fun _=>true) held fuel 26 [v]=some x) :
 ∃ ha hcp,∃ xs:List Int,v = .slice ha xs.length hcp∧Sl w .i64 ha xs∧xs.length≤hcp:=by
 rcases open_ints Tryz.underlying26 Tryz.underlying3 cellsIntT h with ⟨h1,_⟩ | ⟨a,len,cap,zs,h1,_,hl,hm,hz,_,hc,hw⟩
 · simp only [List.cons.injEq,and_true] at h1
   exact ⟨none,0,[],h1,Sl.nil _ _ _,by simp⟩
 · simp only [List.cons.injEq,and_true] at h1
   simp only [if_true] at hz
   obtain ⟨xs,e,hs⟩:=row_sl (k:=.i64) (w:=w) (a:=some a) (len:=len) (cap:=cap) (zs:=zs) (Or.inr ⟨a,rfl,hl,hm,hz,hc,hw⟩)
   exact ⟨some a,cap,xs,by rw [h1,e],hs,by omega⟩
theorem list7 {α:Type} {l:List α} (h:l.length=7) : ∃ a b c d e f g,l=[a,b,c,d,e,f,g]:=by
 match l,h with
 | [a,b,c,d,e,f,g],_=>exact ⟨a,b,c,d,e,f,g,rfl⟩
theorem list3 {α:Type} {l:List α} (h:l.length=3) : ∃ a b c,l=[a,b,c]:=by
 match l,h with
 | [a,b,c],_=>exact ⟨a,b,c,rfl⟩
set_option maxRecDepth 100000 in
theorem open_grid {r:Reach} {b0:Nat} {v:Value} {d:DataW H} {p:List MemPlace} (hv:Value.okWide Tryz.prog w r b0 28 v) (h:DataW.Trod enc Tryz.prog w base (fun _=>true) held 28 v d p) :
 ∃ (a b c d e f:Int) (ha:Option Addr) (hcp:Nat) (xs:List Int),v = .agg #[a,b,c,d,e,f,.slice ha xs.length hcp]∧Sl w .i64 ha xs∧xs.length≤hcp:=by
 obtain ⟨cs,rfl,hsz⟩:=okWide_struct Tryz.underlying28 hv
 obtain ⟨l⟩:=cs
 have hl:l.length=7:=by rw [cellsGrid] at hsz;exact hsz
 obtain ⟨c0,c1,c2,c3,c4,c5,c6,rfl⟩:=list7 hl
 obtain ⟨fuel,hf⟩:=h
 obtain ⟨y0,y1,n,_,_,h0,h1⟩:=trod_struct2 Tryz.underlying28 hf
 have h0:DataW.trod enc Tryz.prog w base (fun _=>true) held n 25 [c0,c1,c2,c3,c4,c5]=some y0:=by simpa [Value.cells,cellsBox] using h0
 have h1:DataW.trod enc Tryz.prog w base (fun _=>true) held n 26 [c6]=some y1:=by simpa [Value.cells,cellsInts] using h1
 obtain ⟨a,b,c,d,e,f,rfl,rfl,rfl,rfl,rfl,rfl⟩:=trod_box h0
 obtain ⟨ha,hcp,xs,rfl,hs,hc⟩:=trod_ints h1
 exact ⟨a,b,c,d,e,f,ha,hcp,xs,rfl,hs,hc⟩
set_option maxRecDepth 100000 in
theorem open_pt {r:Reach} {b0:Nat} {v:Value} {d:DataW H} {p:List MemPlace} (hv:Value.okWide Tryz.prog w r b0 23 v) (h:DataW.Trod enc Tryz.prog w base spare held 23 v d p) :
 ∃ a b c:Int,v = .agg #[a,b,c]:=by
 obtain ⟨cs,rfl,hsz⟩:=okWide_struct Tryz.underlying23 hv
 obtain ⟨l⟩:=cs
 have hl:l.length=3:=by rw [cellsPt] at hsz;exact hsz
 obtain ⟨c0,c1,c2,rfl⟩:=list3 hl
 obtain ⟨fuel,hf⟩:=h
 obtain ⟨a,b,c,rfl,rfl,rfl⟩:=trod_pt (by simpa [Value.cells] using hf)
 exact ⟨a,b,c,rfl⟩
end
end
section
open Go.RowKit Go.ChangeShapes Go.WideShapes
open Oct
theorem cellsChg : Tryz.prog.cellsOf 96=5:=by kernel_rfl
theorem cellsChgs : Tryz.prog.cellsOf 37=1:=by kernel_rfl
theorem cellsCub : Tryz.prog.cellsOf 39=4:=by kernel_rfl
theorem cellsStp : Tryz.prog.cellsOf 41=24:=by kernel_rfl
theorem list5 {α:Type} {l:List α} (h:l.length=5) : ∃ a b c d e,l=[a,b,c,d,e]:=by
 match l,h with
 | [a,b,c,d,e],_=>exact ⟨a,b,c,d,e,rfl⟩
theorem list6 {α:Type} {l:List α} (h:l.length=6) : ∃ a b c d e f,l=[a,b,c,d,e,f]:=by
 match l,h with
 | [a,b,c,d,e,f],_=>exact ⟨a,b,c,d,e,f,rfl⟩
theorem list24 {α:Type} {l:List α} (h:l.length=24) : ∃ a0 a1 a2 a3 a4 a5 a6 a7 a8 a9 a10 a11 a12 a13 a14 a15 a16 a17 a18 a19 a20 a21 a22 a23,l=[a0,a1,a2,a3,a4,a5,a6,a7,a8,a9,a10,a11,a12,a13,a14,a15,a16,a17,a18,a19,a20,a21,a22,a23]:=by
 obtain ⟨a0,a1,a2,a3,a4,a5,e0⟩:=list6 (l:=l.take 6) (by simp;omega)
 obtain ⟨b0,b1,b2,b3,b4,b5,e1⟩:=list6 (l:=(l.drop 6).take 6) (by simp;omega)
 obtain ⟨c0,c1,c2,c3,c4,c5,e2⟩:=list6 (l:=(l.drop 12).take 6) (by simp;omega)
 obtain ⟨d0,d1,d2,d3,d4,d5,e3⟩:=list6 (l:=l.drop 18) (by simp;omega)
 have h0:l=l.take 6++((l.drop 6).take 6++((l.drop 12).take 6++l.drop 18)):=by
  rw [show l.drop 18=(l.drop 12).drop 6 from by rw [List.drop_drop],List.take_append_drop,show l.drop 12=(l.drop 6).drop 6 from by rw [List.drop_drop],List.take_append_drop,List.take_append_drop]
 rw [e0,e1,e2,e3] at h0
 exact ⟨a0,a1,a2,a3,a4,a5,b0,b1,b2,b3,b4,b5,c0,c1,c2,c3,c4,c5,d0,d1,d2,d3,d4,d5,h0⟩
section
variable {H:Type} {enc:TypeId × Value→H} {w:World} {base:Nat} {held:Bool}
theorem open_rows {S:Type} {t e:TypeId} {k:Nat} (f:S→List Value) (Pk:S→Prop) (ht : Tryz.prog.underlying t=some (.slice e)) (hk : Tryz.prog.cellsOf e=k) (hpos:0<k) (s0:S)
 (R : ∀ {n:Nat} {cs:List Value} {y:DataW H × List MemPlace},cs.length=k→DataW.trod enc Tryz.prog w base (fun _=>true) held n e cs=some y → ∃ s:S,cs=f s∧Pk s)
 {fuel:Nat} {x:DataW H × List MemPlace} {v:Value} (h:DataW.trod enc Tryz.prog w base (fun _=>true) held fuel t [v]=some x) :
 ∃ ha hcp,∃ L:List S,v = .slice ha L.length hcp∧L.length≤hcp ∧ ∀ (i:Nat) (s:S),L[i]? = some s → ∃ b off,ha=some ⟨b,off,none⟩∧(∀ j u,(f s)[j]? = some u→w.cell? ⟨b,off+i * k+j,none⟩=some u)∧Pk s:=by
 rcases Go.Deep.open_slice ht h with ⟨h1,_⟩ | ⟨a,len,cap,m,n,D,Pl,h1,_,hl,_,hm,_,hi⟩
 · simp only [List.cons.injEq,and_true] at h1
   exact ⟨none,0,[],h1,Nat.le_refl _,fun i s h=>by simp at h⟩
 · simp only [List.cons.injEq,and_true] at h1
   simp only [if_true] at hm
   subst hm
   have key : ∀ i,i<len → ∃ s:S,(f s).length=k∧(∀ j u,(f s)[j]? = some u→w.cell? (a.add (i * k+j))=some u)∧Pk s:=by
    intro i hil
    obtain ⟨cs,hcs,ht'⟩:=hi i (by omega)
    rw [hk] at hcs
    obtain ⟨_,hlen,hat⟩:=World.cells?_some hcs
    obtain ⟨s,rfl,hP⟩:=R hlen ht'
    refine ⟨s,hlen,fun j u hu=>?_,hP⟩
    have hj:=(List.getElem?_eq_some_iff.1 hu).1
    have:=hat j (by omega)
    rw [Go.Deep.add_add] at this
    rw [this]
    simpa [List.getD] using hu
   have hf : ∃ g:Nat→S,∀ i,i<len→(f (g i)).length=k∧(∀ j u,(f (g i))[j]? = some u→w.cell? (a.add (i * k+j))=some u)∧Pk (g i) :=
    ⟨fun i=>if h:i<len then (key i h).choose else s0,fun i h=>by simp only [dif_pos h];exact (key i h).choose_spec⟩
   obtain ⟨g,hf⟩:=hf
   refine ⟨some a,m,(List.range len).map g,by simpa using h1,by simpa using hl,fun i s he=>?_⟩
   rw [List.getElem?_map] at he
   have hil:i<len:=by
    rcases Nat.lt_or_ge i len with h | h
    · exact h
    · rw [List.getElem?_eq_none (by simpa using h)] at he;cases he
   rw [List.getElem?_range hil] at he
   simp only [Option.map_some,Option.some.injEq] at he
   subst he
   obtain ⟨hlen,hc,hP⟩:=hf i hil
   obtain ⟨b,off,spot⟩:=a
   have hspot:spot=none:=by
    obtain ⟨hlen0,hc0,-⟩:=hf 0 (by omega)
    have h0:=hc0 0 _ (List.getElem?_eq_getElem (by omega))
    have h1:=World.cell?_spot h0
    rw [Nat.zero_mul] at h1
    exact h1
   subst hspot
   have ha : ∀ j,(⟨b,off,none⟩:Addr).add j=⟨b,off+j,none⟩:=fun j=>by unfold Addr.add;split <;> simp_all
   refine ⟨b,off,rfl,fun j u hu=>?_,hP⟩
   have:=hc j u hu
   rw [ha] at this
   rw [Nat.add_assoc]
   exact this
set_option maxRecDepth 100000 in
theorem trod_chgs {fuel:Nat} {x:DataW H × List MemPlace} {v:Value} (h:DataW.trod enc Tryz.prog w base (fun _=>true) held fuel 37 [v]=some x) :
 ∃ ha hcp,∃ cs:List Chg,v = .slice ha cs.length hcp∧SlC w ha cs∧cs.length≤hcp:=by
 obtain ⟨ha,hcp,L,e1,e2,e3⟩:=open_rows (S:=Chg) Chg.cells (fun _=>True) Tryz.underlying37 cellsChg (by omega) ⟨0,0,0,0,0⟩ (by
  intro n cs y hl hy
  obtain ⟨c0,c1,c2,c3,c4,rfl⟩:=list5 hl
  obtain ⟨y0,y1,y2,m,_,_,h0,h1,h2⟩:=Go.Deep.trod_struct3 Tryz.underlying96 hy
  have h0:DataW.trod enc Tryz.prog w base (fun _=>true) held m 23 [c0,c1,c2]=some y0:=by simpa [cellsPt] using h0
  have h1:DataW.trod enc Tryz.prog w base (fun _=>true) held m 3 [c3]=some y1:=by simpa [cellsIntT] using h1
  have h2:DataW.trod enc Tryz.prog w base (fun _=>true) held m 3 [c4]=some y2:=by simpa [cellsIntT] using h2
  obtain ⟨a,b,c,rfl,rfl,rfl⟩:=trod_pt h0
  obtain ⟨d,rfl,_⟩:=trod_int1 h1
  obtain ⟨e,rfl,_⟩:=trod_int1 h2
  exact ⟨⟨a,b,c,d,e⟩,rfl,trivial⟩) h
 refine ⟨ha,hcp,L,e1,fun i c hc=>?_,e2⟩
 obtain ⟨b,off,rfl,hj,_⟩:=e3 i c hc
 exact ⟨b,off,rfl,hj 0 _ rfl,hj 1 _ rfl,hj 2 _ rfl,hj 3 _ rfl,hj 4 _ rfl⟩
set_option maxRecDepth 100000 in
theorem trod_cube {spare:Nat→Bool} {fuel:Nat} {x:DataW H × List MemPlace} {c0 c1 c2 c3:Value} (h:DataW.trod enc Tryz.prog w base spare held fuel 39 [c0,c1,c2,c3]=some x) :
 ∃ a b c d:Int,c0 = .int .i64 a∧c1 = .int .i64 b∧c2 = .int .i64 c∧c3 = .int .i64 d:=by
 obtain ⟨y0,y1,n,_,_,h0,h1⟩:=trod_struct2 Tryz.underlying39 h
 have h0:DataW.trod enc Tryz.prog w base spare held n 23 [c0,c1,c2]=some y0:=by simpa [cellsPt] using h0
 have h1:DataW.trod enc Tryz.prog w base spare held n 3 [c3]=some y1:=by simpa [cellsIntT] using h1
 obtain ⟨a,b,c,e0,e1,e2⟩:=trod_pt h0
 obtain ⟨d,e3,_⟩:=trod_int1 h1
 exact ⟨a,b,c,d,e0,e1,e2,e3⟩
set_option maxRecDepth 100000 in
theorem trod_gridc {fuel:Nat} {x:DataW H × List MemPlace} {c0 c1 c2 c3 c4 c5 c6:Value} (h:DataW.trod enc Tryz.prog w base (fun _=>true) held fuel 28 [c0,c1,c2,c3,c4,c5,c6]=some x) :
 ∃ (a b c d e f:Int) (ha:Option Addr) (hcp:Nat) (xs:List Int),[c0,c1,c2,c3,c4,c5,c6]=[.int .i64 a,.int .i64 b,.int .i64 c,.int .i64 d,.int .i64 e,.int .i64 f,.slice ha xs.length hcp]∧Sl w .i64 ha xs∧xs.length≤hcp:=by
 obtain ⟨y0,y1,n,_,_,h0,h1⟩:=trod_struct2 Tryz.underlying28 h
 have h0:DataW.trod enc Tryz.prog w base (fun _=>true) held n 25 [c0,c1,c2,c3,c4,c5]=some y0:=by simpa [cellsBox] using h0
 have h1:DataW.trod enc Tryz.prog w base (fun _=>true) held n 26 [c6]=some y1:=by simpa [cellsInts] using h1
 obtain ⟨a,b,c,d,e,f,rfl,rfl,rfl,rfl,rfl,rfl⟩:=trod_box h0
 obtain ⟨ha,hcp,xs,rfl,hs,hc⟩:=trod_ints h1
 exact ⟨a,b,c,d,e,f,ha,hcp,xs,rfl,hs,hc⟩
theorem trod_struct7 {P:Program} {spare:Nat→Bool} {t:TypeId} {f0 f1 f2 f3 f4 f5 f6:Field} {fuel:Nat} {cs:List Value} {x:DataW H × List MemPlace} (ht:P.underlying t=some (.struct #[f0,f1,f2,f3,f4,f5,f6])) (h:DataW.trod enc P w base spare held fuel t cs=some x) :
 ∃ y0 y1 y2 y3 y4 y5 y6 n, DataW.trod enc P w base spare held n f0.type ((cs.drop f0.offset).take (P.cellsOf f0.type)) = some y0 ∧ DataW.trod enc P w base spare held n f1.type ((cs.drop f1.offset).take (P.cellsOf f1.type)) = some y1 ∧
   DataW.trod enc P w base spare held n f2.type ((cs.drop f2.offset).take (P.cellsOf f2.type))=some y2∧DataW.trod enc P w base spare held n f3.type ((cs.drop f3.offset).take (P.cellsOf f3.type))=some y3 ∧
   DataW.trod enc P w base spare held n f4.type ((cs.drop f4.offset).take (P.cellsOf f4.type))=some y4∧DataW.trod enc P w base spare held n f5.type ((cs.drop f5.offset).take (P.cellsOf f5.type))=some y5 ∧
   DataW.trod enc P w base spare held n f6.type ((cs.drop f6.offset).take (P.cellsOf f6.type))=some y6:=by
 obtain ⟨xs,n,_,rfl,hl,hlen,hf⟩:=DataW.trod_struct ht h
 match xs,hlen with
 | [y0,y1,y2,y3,y4,y5,y6],_=>exact ⟨y0,y1,y2,y3,y4,y5,y6,n,by simpa using hf 0 f0 rfl,by simpa using hf 1 f1 rfl,by simpa using hf 2 f2 rfl,by simpa using hf 3 f3 rfl,by simpa using hf 4 f4 rfl,by simpa using hf 5 f5 rfl,by simpa using hf 6 f6 rfl⟩
set_option maxRecDepth 100000 in
set_option maxHeartbeats 1000000 in
theorem trod_stp {fuel:Nat} {x:DataW H × List MemPlace} {cs:List Value} (hl:cs.length=24) (h:DataW.trod enc Tryz.prog w base (fun _=>true) held fuel 41 cs=some x) :
 ∃ s:Stp,cs=s.arr.toList∧StpOk w s:=by
 obtain ⟨a0,a1,a2,a3,a4,a5,a6,a7,a8,a9,a10,a11,a12,a13,a14,a15,a16,a17,a18,a19,a20,a21,a22,a23,rfl⟩:=list24 hl
 obtain ⟨y0,y1,y2,y3,y4,y5,y6,n,h0,h1,h2,h3,h4,h5,h6⟩:=trod_struct7 Tryz.underlying41 h
 have h0:DataW.trod enc Tryz.prog w base (fun _=>true) held n 3 [a0]=some y0:=by simpa [cellsIntT] using h0
 have h1:DataW.trod enc Tryz.prog w base (fun _=>true) held n 25 [a1,a2,a3,a4,a5,a6]=some y1:=by simpa [cellsBox] using h1
 have h2:DataW.trod enc Tryz.prog w base (fun _=>true) held n 3 [a7]=some y2:=by simpa [cellsIntT] using h2
 have h3:DataW.trod enc Tryz.prog w base (fun _=>true) held n 28 [a8,a9,a10,a11,a12,a13,a14]=some y3:=by simpa [cellsGrid] using h3
 have h4:DataW.trod enc Tryz.prog w base (fun _=>true) held n 37 [a15]=some y4:=by simpa [cellsChgs] using h4
 have h5:DataW.trod enc Tryz.prog w base (fun _=>true) held n 39 [a16,a17,a18,a19]=some y5:=by simpa [cellsCub] using h5
 have h6:DataW.trod enc Tryz.prog w base (fun _=>true) held n 39 [a20,a21,a22,a23]=some y6:=by simpa [cellsCub] using h6
 obtain ⟨kd,rfl,_⟩:=trod_int1 h0
 obtain ⟨b0,b1,b2,b3,b4,b5,rfl,rfl,rfl,rfl,rfl,rfl⟩:=trod_box h1
 obtain ⟨cell,rfl,_⟩:=trod_int1 h2
 obtain ⟨g0,g1,g2,g3,g4,g5,ga,gc,ys,e3,hys,hgc⟩:=trod_gridc h3
 obtain ⟨la,lc,chs,rfl,hcs,hlc⟩:=trod_chgs h4
 obtain ⟨p0,p1,p2,p3,rfl,rfl,rfl,rfl⟩:=trod_cube h5
 obtain ⟨q0,q1,q2,q3,rfl,rfl,rfl,rfl⟩:=trod_cube h6
 simp only [List.cons.injEq,and_true] at e3
 obtain ⟨rfl,rfl,rfl,rfl,rfl,rfl,rfl⟩:=e3
 exact ⟨⟨kd,⟨⟨b0,b1,b2⟩,⟨b3,b4,b5⟩⟩,cell,⟨⟨g0,g1,g2⟩,⟨g3,g4,g5⟩⟩,ga,ys,gc,la,chs,lc,⟨p0,p1,p2⟩,p3,⟨q0,q1,q2⟩,q3⟩,rfl,⟨hys,hgc,hcs,hlc⟩⟩
set_option maxRecDepth 100000 in
theorem open_stps {r:Reach} {b0:Nat} {v:Value} {d:DataW H} {p:List MemPlace} (hv:Value.okWide Tryz.prog w r b0 29 v) (h:DataW.Trod enc Tryz.prog w base (fun _=>true) held 29 v d p) :
 ∃ ha hcp,∃ L:List Stp,v = .slice ha L.length hcp∧SlS w ha L∧L.length≤hcp:=by
 obtain ⟨a,n,cap,rfl⟩:=okWide_slice Tryz.underlying29 hv
 obtain ⟨fuel,hf⟩:=h
 obtain ⟨ha,hcp,L,e1,e2,e3⟩:=open_rows (S:=Stp) (fun s=>s.arr.toList) (StpOk w) Tryz.underlying29 cellsStp (by omega) ⟨0,⟨⟨0,0,0⟩,⟨0,0,0⟩⟩,0,⟨⟨0,0,0⟩,⟨0,0,0⟩⟩,none,[],0,none,[],0,⟨0,0,0⟩,0,⟨0,0,0⟩,0⟩ (fun hl hy=>trod_stp hl hy) (by simpa [Value.cells] using hf)
 refine ⟨ha,hcp,L,e1,fun i s hs=>?_,e2⟩
 obtain ⟨b,off,rfl,hj,ho⟩:=e3 i s hs
 exact ⟨b,off,rfl,fun j v hv=>hj j v (by simpa using hv),ho⟩
end
end
end Go.Proofs.YtfcbajmjaifjlaaGreat
