/- Lop, Lou: joined by program, for one claim. -/
import Derived.Test.YtgnfgblkpnfcnaaGreatDoorM27
import Derived.Laws.IdiomArrays
import Derived.Test.YtgnfgblkpnfcnaaGreatDoorM26
set_option linter.unusedVariables false
set_option linter.unusedSimpArgs false
namespace Go.Proofs.YtgnfgblkpnfcnaaGreatDoor
section
open Go.RowKit Go.ChangeShapes Go.WideShapes
open Oct
theorem list8 {α:Type} {l:List α} (h:l.length=8) : ∃ a b c d e f g i,l=[a,b,c,d,e,f,g,i]:=by
 match l,h with
 | [a,b,c,d,e,f,g,i],_=>exact ⟨a,b,c,d,e,f,g,i,rfl⟩
section
variable {H:Type} {enc:TypeId × Value→H} {w:World} {base:Nat} {held:Bool}
theorem open_rowsL {S:Type} {t e:TypeId} {k:Nat} (f:S→List Value) (Pk:S→Prop) (ht : Tryz.prog.underlying t=some (.slice e)) (hk : Tryz.prog.cellsOf e=k) (hpos:0<k) (s0:S)
 (R : ∀ {n:Nat} {cs:List Value} {y:DataW H × List MemPlace},cs.length=k→DataW.trod enc Tryz.prog w base (fun _=>true) held n e cs=some y → ∃ s:S,cs=f s∧Pk s)
 {fuel:Nat} {x:DataW H × List MemPlace} {v:Value} (h:DataW.trod enc Tryz.prog w base (fun _=>true) held fuel t [v]=some x) :
 ∃ ha hcp,∃ L:List S,v = .slice ha L.length hcp∧(L.length≤hcp∧hcp≤maxLen) ∧ ∀ (i:Nat) (s:S),L[i]? = some s → ∃ b off,ha=some ⟨b,off,none⟩∧(∀ j u,(f s)[j]? = some u→w.cell? ⟨b,off+i * k+j,none⟩=some u)∧Pk s:=by
 rcases Go.Deep.open_slice ht h with ⟨h1,_⟩ | ⟨a,len,cap,m,n,D,Pl,h1,_,hl,hcm,hm,_,hi⟩
 · simp only [List.cons.injEq,and_true] at h1
   exact ⟨none,0,[],h1,⟨Nat.le_refl _,Nat.zero_le _⟩,fun i s h=>by simp at h⟩
 · simp only [List.cons.injEq,and_true] at h1
   simp only [if_true] at hm
   subst hm
   have key : ∀ i,i<len → ∃ s:S,(f s).length=k∧(∀ j u,(f s)[j]? = some u→w.cell? (a.add (i * k+j))=some u)∧Pk s:=by
    intro i hil
    obtain ⟨cs,hcs,ht'⟩:=hi i (by omega)
    rw [hk] at hcs
    obtain ⟨_,hlen,hat⟩:=World.cells?_some hcs
    obtain ⟨s,rfl,hP⟩:=R hlen ht'
    refine ⟨s,hlen,fun j u hu=>?_,hP⟩
    have hj:=(List.getElem?_eq_some_iff.1 hu).1
    have:=hat j (by omega)
    rw [Go.Deep.add_add] at this
    rw [this]
    simpa [List.getD] using hu
   have hf : ∃ g:Nat→S,∀ i,i<len→(f (g i)).length=k∧(∀ j u,(f (g i))[j]? = some u→w.cell? (a.add (i * k+j))=some u)∧Pk (g i) :=
    ⟨fun i=>if h:i<len then (key i h).choose else s0,fun i h=>by simp only [dif_pos h];exact (key i h).choose_spec⟩
   obtain ⟨g,hf⟩:=hf
   refine ⟨some a,m,(List.range len).map g,by simpa using h1,⟨by simpa using hl,hcm⟩,fun i s he=>?_⟩
   rw [List.getElem?_map] at he
   have hil:i<len:=by
    rcases Nat.lt_or_ge i len with h | h
    · exact h
    · rw [List.getElem?_eq_none (by simpa using h)] at he;cases he
   rw [List.getElem?_range hil] at he
   simp only [Option.map_some,Option.some.injEq] at he
   subst he
   obtain ⟨hlen,hc,hP⟩:=hf i hil
   obtain ⟨b,off,spot⟩:=a
   have hspot:spot=none:=by
    obtain ⟨hlen0,hc0,-⟩:=hf 0 (by omega)
    have h0:=hc0 0 _ (List.getElem?_eq_getElem (by omega))
    have h1:=World.cell?_spot h0
    rw [Nat.zero_mul] at h1
    exact h1
   subst hspot
   have ha : ∀ j,(⟨b,off,none⟩:Addr).add j=⟨b,off+j,none⟩:=fun j=>by unfold Addr.add;split <;> simp_all
   refine ⟨b,off,rfl,fun j u hu=>?_,hP⟩
   have:=hc j u hu
   rw [ha] at this
   rw [Nat.add_assoc]
   exact this
theorem trod_struct6 {P:Program} {spare:Nat→Bool} {t:TypeId} {f0 f1 f2 f3 f4 f5:Field} {fuel:Nat} {cs:List Value} {x:DataW H × List MemPlace} (ht:P.underlying t=some (.struct #[f0,f1,f2,f3,f4,f5])) (h:DataW.trod enc P w base spare held fuel t cs=some x) :
 ∃ y0 y1 y2 y3 y4 y5 n, DataW.trod enc P w base spare held n f0.type ((cs.drop f0.offset).take (P.cellsOf f0.type)) = some y0 ∧ DataW.trod enc P w base spare held n f1.type ((cs.drop f1.offset).take (P.cellsOf f1.type)) = some y1 ∧
   DataW.trod enc P w base spare held n f2.type ((cs.drop f2.offset).take (P.cellsOf f2.type))=some y2∧DataW.trod enc P w base spare held n f3.type ((cs.drop f3.offset).take (P.cellsOf f3.type))=some y3 ∧
   DataW.trod enc P w base spare held n f4.type ((cs.drop f4.offset).take (P.cellsOf f4.type))=some y4∧DataW.trod enc P w base spare held n f5.type ((cs.drop f5.offset).take (P.cellsOf f5.type))=some y5:=by
 obtain ⟨xs,n,_,rfl,hl,hlen,hf⟩:=DataW.trod_struct ht h
 match xs,hlen with
 | [y0,y1,y2,y3,y4,y5],_=>exact ⟨y0,y1,y2,y3,y4,y5,n,by simpa using hf 0 f0 rfl,by simpa using hf 1 f1 rfl,by simpa using hf 2 f2 rfl,by simpa using hf 3 f3 rfl,by simpa using hf 4 f4 rfl,by simpa using hf 5 f5 rfl⟩
theorem trod_boolL {spare:Nat→Bool} {fuel:Nat} {x:DataW H × List MemPlace} {v:Value} (h:DataW.trod enc Tryz.prog w base spare held fuel 4 [v]=some x) : ∃ b,v = .bool b:=by
 obtain ⟨b,h1,_⟩:=DataW.trod_bool Tryz.underlying4 h
 simp only [List.cons.injEq,and_true] at h1
 exact ⟨b,h1⟩
theorem trod_strL {spare:Nat→Bool} {fuel:Nat} {x:DataW H × List MemPlace} {v:Value} (h:DataW.trod enc Tryz.prog w base spare held fuel 9 [v]=some x) : ∃ s,v = .string s:=by
 obtain ⟨s,h1,_⟩:=DataW.trod_string Tryz.underlying9 h
 simp only [List.cons.injEq,and_true] at h1
 exact ⟨s,h1⟩
theorem trod_intL {spare:Nat→Bool} {fuel:Nat} {x:DataW H × List MemPlace} {v:Value} (h:DataW.trod enc Tryz.prog w base spare held fuel 3 [v]=some x) : ∃ n:Int,v = .int .i64 n:=by
 obtain ⟨n,h1,_⟩:=DataW.trod_int Tryz.underlying3 h
 simp only [List.cons.injEq,and_true] at h1
 exact ⟨n,h1⟩
theorem cellsIntL : Tryz.prog.cellsOf 3=1:=by kernel_rfl
set_option maxRecDepth 100000 in
theorem trod_mat {fuel:Nat} {x:DataW H × List MemPlace} {cs:List Value} (hl:cs.length=8) (h:DataW.trod enc Tryz.prog w base (fun _=>true) held fuel 95 cs=some x) : ∃ m:Mat,cs=m.cells∧True:=by
 obtain ⟨a0,a1,a2,a3,a4,a5,a6,a7,rfl⟩:=list8 hl
 obtain ⟨y0,y1,y2,y3,y4,y5,n,h0,h1,h2,h3,h4,h5⟩:=trod_struct6 Tryz.underlying95 h
 have h0:DataW.trod enc Tryz.prog w base (fun _=>true) held n 9 [a0]=some y0:=by simpa [cellsStr] using h0
 have h1:DataW.trod enc Tryz.prog w base (fun _=>true) held n 4 [a1]=some y1:=by simpa [cellsBool] using h1
 have h2:DataW.trod enc Tryz.prog w base (fun _=>true) held n 4 [a2]=some y2:=by simpa [cellsBool] using h2
 have h3:DataW.trod enc Tryz.prog w base (fun _=>true) held n 4 [a3]=some y3:=by simpa [cellsBool] using h3
 have h4:DataW.trod enc Tryz.prog w base (fun _=>true) held n 3 [a4]=some y4:=by simpa [cellsIntL] using h4
 have h5:DataW.trod enc Tryz.prog w base (fun _=>true) held n 93 [a5,a6,a7]=some y5:=by simpa [cellsEmit] using h5
 obtain ⟨s,rfl⟩:=trod_strL h0
 obtain ⟨b1,rfl⟩:=trod_boolL h1
 obtain ⟨b2,rfl⟩:=trod_boolL h2
 obtain ⟨b3,rfl⟩:=trod_boolL h3
 obtain ⟨fd,rfl⟩:=trod_intL h4
 obtain ⟨z0,z1,z2,m,-,g0,g1,g2⟩:=trod_array3 Tryz.underlying93 cellsIntL h5
 obtain ⟨e0,rfl⟩:=trod_intL g0
 obtain ⟨e1,rfl⟩:=trod_intL g1
 obtain ⟨e2,rfl⟩:=trod_intL g2
 exact ⟨⟨s,b1,b2,b3,fd,e0,e1,e2⟩,rfl,trivial⟩
set_option maxRecDepth 100000 in
theorem open_mats {r:Reach} {b0:Nat} {v:Value} {d:DataW H} {p:List MemPlace} (hv:Value.okWide Tryz.prog w r b0 29 v) (h:DataW.Trod enc Tryz.prog w base (fun _=>true) held 29 v d p) :
 ∃ ha hcp,∃ L:List Mat,v = .slice ha L.length hcp∧SlM w ha L∧L.length≤hcp∧hcp≤maxLen:=by
 obtain ⟨a,n,cap,rfl⟩:=okWide_slice Tryz.underlying29 hv
 obtain ⟨fuel,hf⟩:=h
 obtain ⟨ha,hcp,L,e1,e2,e3⟩:=open_rowsL (S:=Mat) Mat.cells (fun _=>True) Tryz.underlying29 cellsMat (by omega) ⟨ByteArray.empty,false,false,false,0,0,0,0⟩ (fun hl hy=>trod_mat hl hy) (by simpa [Value.cells] using hf)
 refine ⟨ha,hcp,L,e1,fun i m hm=>?_,e2⟩
 obtain ⟨b,off,rfl,hj,-⟩:=e3 i m hm
 exact ⟨b,off,rfl,hj⟩
end
end
section
open Go.RowKit Go.ChangeShapes Go.WideShapes
open Oct
section
variable {H:Type} {enc:TypeId × Value→H} {w:World} {base:Nat} {held:Bool}
theorem len_le {n m:Nat} (h:n≤m∧m≤maxLen):n≤9223372036854775807:=by unfold maxLen at h;omega
end
end
end Go.Proofs.YtgnfgblkpnfcnaaGreatDoor
