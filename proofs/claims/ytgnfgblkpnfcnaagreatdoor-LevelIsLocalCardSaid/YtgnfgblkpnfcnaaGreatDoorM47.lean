/- Lop, Lou, Lip, Lil: joined by program, for one claim. -/
import Derived.Test.YtgnfgblkpnfcnaaGreatDoorMr
import Derived.Test.YtgnfgblkpnfcnaaGreatDoorM28
import Derived.Laws.IdiomArrays
import Derived.Test.YtgnfgblkpnfcnaaGreatDoorM27
import Derived.Test.YtgnfgblkpnfcnaaGreatDoorM39
import Derived.Test.YtgnfgblkpnfcnaaGreatDoorM45
set_option linter.unusedVariables false
set_option linter.unusedSimpArgs false
namespace Go.Proofs.YtgnfgblkpnfcnaaGreatDoor
section
open Go.RowKit Go.ChangeShapes Go.WideShapes
open Oct
theorem list8 {α:Type} {l:List α} (h:l.length=8) : ∃ a b c d e f g i,l=[a,b,c,d,e,f,g,i]:=by
 match l,h with
 | [a,b,c,d,e,f,g,i],_=>exact ⟨a,b,c,d,e,f,g,i,rfl⟩
section
variable {H:Type} {enc:TypeId × Value→H} {w:World} {base:Nat} {held:Bool}
theorem open_rowsL {S:Type} {t e:TypeId} {k:Nat} (f:S→List Value) (Pk:S→Prop) (ht : Tryz.prog.underlying t=some (.slice e)) (hk : Tryz.prog.cellsOf e=k) (hpos:0<k) (s0:S)
 (R : ∀ {n:Nat} {cs:List Value} {y:DataW H × List MemPlace},cs.length=k→DataW.trod enc Tryz.prog w base (fun _=>true) held n e cs=some y → ∃ s:S,cs=f s∧Pk s)
 {fuel:Nat} {x:DataW H × List MemPlace} {v:Value} (h:DataW.trod enc Tryz.prog w base (fun _=>true) held fuel t [v]=some x) :
 ∃ ha hcp,∃ L:List S,v = .slice ha L.length hcp∧(L.length≤hcp∧hcp≤maxLen) ∧ ∀ (i:Nat) (s:S),L[i]? = some s → ∃ b off,ha=some ⟨b,off,none⟩∧(∀ j u,(f s)[j]? = some u→w.cell? ⟨b,off+i * k+j,none⟩=some u)∧Pk s:=by
 rcases Go.Deep.open_slice ht h with ⟨h1,_⟩ | ⟨a,len,cap,m,n,D,Pl,h1,_,hl,hcm,hm,_,hi⟩
 · simp only [List.cons.injEq,and_true] at h1
   exact ⟨none,0,[],h1,⟨Nat.le_refl _,Nat.zero_le _⟩,fun i s h=>by simp at h⟩
 · simp only [List.cons.injEq,and_true] at h1
   simp only [if_true] at hm
   subst hm
   have key : ∀ i,i<len → ∃ s:S,(f s).length=k∧(∀ j u,(f s)[j]? = some u→w.cell? (a.add (i * k+j))=some u)∧Pk s:=by
    intro i hil
    obtain ⟨cs,hcs,ht'⟩:=hi i (by omega)
    rw [hk] at hcs
    obtain ⟨_,hlen,hat⟩:=World.cells?_some hcs
    obtain ⟨s,rfl,hP⟩:=R hlen ht'
    refine ⟨s,hlen,fun j u hu=>?_,hP⟩
    have hj:=(List.getElem?_eq_some_iff.1 hu).1
    have:=hat j (by omega)
    rw [Go.Deep.add_add] at this
    rw [this]
    simpa [List.getD] using hu
   have hf : ∃ g:Nat→S,∀ i,i<len→(f (g i)).length=k∧(∀ j u,(f (g i))[j]? = some u→w.cell? (a.add (i * k+j))=some u)∧Pk (g i) :=
    ⟨fun i=>if h:i<len then (key i h).choose else s0,fun i h=>by simp only [dif_pos h];exact (key i h).choose_spec⟩
   obtain ⟨g,hf⟩:=hf
   refine ⟨some a,m,(List.range len).map g,by simpa using h1,⟨by simpa using hl,hcm⟩,fun i s he=>?_⟩
   rw [List.getElem?_map] at he
   have hil:i<len:=by
    rcases Nat.lt_or_ge i len with h | h
    · exact h
    · rw [List.getElem?_eq_none (by simpa using h)] at he;cases he
   rw [List.getElem?_range hil] at he
   simp only [Option.map_some,Option.some.injEq] at he
   subst he
   obtain ⟨hlen,hc,hP⟩:=hf i hil
   obtain ⟨b,off,spot⟩:=a
   have hspot:spot=none:=by
    obtain ⟨hlen0,hc0,-⟩:=hf 0 (by omega)
    have h0:=hc0 0 _ (List.getElem?_eq_getElem (by omega))
    have h1:=World.cell?_spot h0
    rw [Nat.zero_mul] at h1
    exact h1
   subst hspot
   have ha : ∀ j,(⟨b,off,none⟩:Addr).add j=⟨b,off+j,none⟩:=fun j=>by unfold Addr.add;split <;> simp_all
   refine ⟨b,off,rfl,fun j u hu=>?_,hP⟩
   have:=hc j u hu
   rw [ha] at this
   rw [Nat.add_assoc]
   exact this
theorem trod_struct6 {P:Program} {spare:Nat→Bool} {t:TypeId} {f0 f1 f2 f3 f4 f5:Field} {fuel:Nat} {cs:List Value} {x:DataW H × List MemPlace} (ht:P.underlying t=some (.struct #[f0,f1,f2,f3,f4,f5])) (h:DataW.trod enc P w base spare held fuel t cs=some x) :
 ∃ y0 y1 y2 y3 y4 y5 n, DataW.trod enc P w base spare held n f0.type ((cs.drop f0.offset).take (P.cellsOf f0.type)) = some y0 ∧ DataW.trod enc P w base spare held n f1.type ((cs.drop f1.offset).take (P.cellsOf f1.type)) = some y1 ∧
   DataW.trod enc P w base spare held n f2.type ((cs.drop f2.offset).take (P.cellsOf f2.type))=some y2∧DataW.trod enc P w base spare held n f3.type ((cs.drop f3.offset).take (P.cellsOf f3.type))=some y3 ∧
   DataW.trod enc P w base spare held n f4.type ((cs.drop f4.offset).take (P.cellsOf f4.type))=some y4∧DataW.trod enc P w base spare held n f5.type ((cs.drop f5.offset).take (P.cellsOf f5.type))=some y5:=by
 obtain ⟨xs,n,_,rfl,hl,hlen,hf⟩:=DataW.trod_struct ht h
 match xs,hlen with
 | [y0,y1,y2,y3,y4,y5],_=>exact ⟨y0,y1,y2,y3,y4,y5,n,by simpa using hf 0 f0 rfl,by simpa using hf 1 f1 rfl,by simpa using hf 2 f2 rfl,by simpa using hf 3 f3 rfl,by simpa using hf 4 f4 rfl,by simpa using hf 5 f5 rfl⟩
theorem trod_boolL {spare:Nat→Bool} {fuel:Nat} {x:DataW H × List MemPlace} {v:Value} (h:DataW.trod enc Tryz.prog w base spare held fuel 4 [v]=some x) : ∃ b,v = .bool b:=by
 obtain ⟨b,h1,_⟩:=DataW.trod_bool Tryz.underlying4 h
 simp only [List.cons.injEq,and_true] at h1
 exact ⟨b,h1⟩
theorem trod_strL {spare:Nat→Bool} {fuel:Nat} {x:DataW H × List MemPlace} {v:Value} (h:DataW.trod enc Tryz.prog w base spare held fuel 9 [v]=some x) : ∃ s,v = .string s:=by
 obtain ⟨s,h1,_⟩:=DataW.trod_string Tryz.underlying9 h
 simp only [List.cons.injEq,and_true] at h1
 exact ⟨s,h1⟩
theorem trod_intL {spare:Nat→Bool} {fuel:Nat} {x:DataW H × List MemPlace} {v:Value} (h:DataW.trod enc Tryz.prog w base spare held fuel 3 [v]=some x) : ∃ n:Int,v = .int .i64 n:=by
 obtain ⟨n,h1,_⟩:=DataW.trod_int Tryz.underlying3 h
 simp only [List.cons.injEq,and_true] at h1
 exact ⟨n,h1⟩
theorem cellsIntL : Tryz.prog.cellsOf 3=1:=by kernel_rfl
set_option maxRecDepth 100000 in
theorem trod_mat {fuel:Nat} {x:DataW H × List MemPlace} {cs:List Value} (hl:cs.length=8) (h:DataW.trod enc Tryz.prog w base (fun _=>true) held fuel 95 cs=some x) : ∃ m:Mat,cs=m.cells∧True:=by
 obtain ⟨a0,a1,a2,a3,a4,a5,a6,a7,rfl⟩:=list8 hl
 obtain ⟨y0,y1,y2,y3,y4,y5,n,h0,h1,h2,h3,h4,h5⟩:=trod_struct6 Tryz.underlying95 h
 have h0:DataW.trod enc Tryz.prog w base (fun _=>true) held n 9 [a0]=some y0:=by simpa [cellsStr] using h0
 have h1:DataW.trod enc Tryz.prog w base (fun _=>true) held n 4 [a1]=some y1:=by simpa [cellsBool] using h1
 have h2:DataW.trod enc Tryz.prog w base (fun _=>true) held n 4 [a2]=some y2:=by simpa [cellsBool] using h2
 have h3:DataW.trod enc Tryz.prog w base (fun _=>true) held n 4 [a3]=some y3:=by simpa [cellsBool] using h3
 have h4:DataW.trod enc Tryz.prog w base (fun _=>true) held n 3 [a4]=some y4:=by simpa [cellsIntL] using h4
 have h5:DataW.trod enc Tryz.prog w base (fun _=>true) held n 93 [a5,a6,a7]=some y5:=by simpa [cellsEmit] using h5
 obtain ⟨s,rfl⟩:=trod_strL h0
 obtain ⟨b1,rfl⟩:=trod_boolL h1
 obtain ⟨b2,rfl⟩:=trod_boolL h2
 obtain ⟨b3,rfl⟩:=trod_boolL h3
 obtain ⟨fd,rfl⟩:=trod_intL h4
 obtain ⟨z0,z1,z2,m,-,g0,g1,g2⟩:=trod_array3 Tryz.underlying93 cellsIntL h5
 obtain ⟨e0,rfl⟩:=trod_intL g0
 obtain ⟨e1,rfl⟩:=trod_intL g1
 obtain ⟨e2,rfl⟩:=trod_intL g2
 exact ⟨⟨s,b1,b2,b3,fd,e0,e1,e2⟩,rfl,trivial⟩
set_option maxRecDepth 100000 in
theorem open_mats {r:Reach} {b0:Nat} {v:Value} {d:DataW H} {p:List MemPlace} (hv:Value.okWide Tryz.prog w r b0 29 v) (h:DataW.Trod enc Tryz.prog w base (fun _=>true) held 29 v d p) :
 ∃ ha hcp,∃ L:List Mat,v = .slice ha L.length hcp∧SlM w ha L∧L.length≤hcp∧hcp≤maxLen:=by
 obtain ⟨a,n,cap,rfl⟩:=okWide_slice Tryz.underlying29 hv
 obtain ⟨fuel,hf⟩:=h
 obtain ⟨ha,hcp,L,e1,e2,e3⟩:=open_rowsL (S:=Mat) Mat.cells (fun _=>True) Tryz.underlying29 cellsMat (by omega) ⟨ByteArray.empty,false,false,false,0,0,0,0⟩ (fun hl hy=>trod_mat hl hy) (by simpa [Value.cells] using hf)
 refine ⟨ha,hcp,L,e1,fun i m hm=>?_,e2⟩
 obtain ⟨b,off,rfl,hj,-⟩:=e3 i m hm
 exact ⟨b,off,rfl,hj⟩
end
end
section
open Go.RowKit Go.ChangeShapes Go.WideShapes
open Oct
theorem wf_i64w {n:Int} (h:(Lit.int .i64 n).wf=true):W64 n:=by
 simp [Lit.wf,IntKind.min,IntKind.max,IntKind.bits,IntKind.signed] at h
 unfold W64
 omega
section
variable {H:Type} {enc:TypeId × Value→H} {w:World} {base:Nat} {held:Bool}
theorem len_le {n m:Nat} (h:n≤m∧m≤maxLen):n≤9223372036854775807:=by unfold maxLen at h;omega
theorem wf3 {x y z:Int} (hx:W64 x) (hy:W64 y) (hz:W64 z):W64 x∧W64 y∧W64 z:=⟨hx,hy,hz⟩
set_option maxRecDepth 100000 in
theorem open_ptW {r:Reach} {b0:Nat} {v:Value} {d:DataW H} {p:List MemPlace} (hv:Value.okWide Tryz.prog w r b0 23 v) (h:DataW.Trod enc Tryz.prog w base (fun _=>true) held 23 v d p) :
 ∃ x y z:Int,v = .agg #[x,y,z]∧W64 x∧W64 y∧W64 z:=by
 obtain ⟨cs,rfl,hsz⟩:=okWide_struct Tryz.underlying23 hv
 obtain ⟨l⟩:=cs
 have hl:l.length=3:=by rw [cellsPt] at hsz;exact hsz
 obtain ⟨fuel,hf⟩:=h
 have hf:DataW.trod enc Tryz.prog w base (fun _=>true) held fuel 23 l=some (d,p):=by simpa [Value.cells] using hf
 match l,hl with
 | [c0, c1, c2], _ =>
   obtain ⟨y0,y1,y2,m,_,_,h0,h1,h2⟩:=Go.Deep.trod_struct3 Tryz.underlying23 hf
   have h0:DataW.trod enc Tryz.prog w base (fun _=>true) held m 3 [c0]=some y0:=by simpa [cellsIntT] using h0
   have h1:DataW.trod enc Tryz.prog w base (fun _=>true) held m 3 [c1]=some y1:=by simpa [cellsIntT] using h1
   have h2:DataW.trod enc Tryz.prog w base (fun _=>true) held m 3 [c2]=some y2:=by simpa [cellsIntT] using h2
   obtain ⟨x,e0,_,w0⟩:=DataW.trod_int Tryz.underlying3 h0
   obtain ⟨y,e1,_,w1⟩:=DataW.trod_int Tryz.underlying3 h1
   obtain ⟨z,e2,_,w2⟩:=DataW.trod_int Tryz.underlying3 h2
   simp only [List.cons.injEq,and_true] at e0 e1 e2
   subst e0 e1 e2
   exact ⟨x,y,z,rfl,wf_i64w w0,wf_i64w w1,wf_i64w w2⟩
end
end
section
open Go.RowKit
open Oct
theorem few_own {n:Nat} {F:Pt→Int} {ts:List Tr} (hn:n≤12) (hF:FnC n F) (hG:Good ts):(addn n F []).length≤(addn n F ts).length:=by
 have hw:=wf_can hF.range n ⟨0,0,0⟩ (by omega)
 refine nodup_le3 _ _ (addn_good hn hF good_nil).closed.1 fun x hx=>?_
 rcases sub_of_add _ _ hx with h | h
 · cases h
 · exact add_of_sub hG hw h
theorem lvS_there {s:Int→Bool} {N:Nat} {f:Pt→Int} {S:List Tr} (h : ∀ j,j≤N→trF (N - j) (lvlF s f j)∈S) : ∀ k,k≤N→lvS s N f S k=S
 | 0,_=>rfl
 | k + 1, hk => by
   show addn (N - (k+1)) (lvlF s f (k+1)) (lvS s N f S k)=S
   rw [lvS_there h k (by omega)]
   exact Tr.add_same _ _ (h (k+1) hk)
structure TwoL (s:Int→Bool) (N:Nat) (F G:Pt→Int) (t0 t1 s1 s2:List Tr):Prop where
 e1:t1=addn N G t0
 es1:s1=lvS s N F t1 N
 es2:s2=lvS s N G s1 N
 g1:Good t1
 g2:Good s1
 g3:Good s2
 m1:trF N F∈t1
 m2:trF N G∈t1
 m3:trF N G∈s1
 m4:trF N F∈s2
 l1:t1.length≤4000
 l2:s1.length≤51000
 l3:s2.length≤98000
 i1:idn t0 N F=idn t1 N F
 i2:idn t1 N G=idn s1 N G
 all:lvS s N F s2 N=s2
 xs : ∀ i,i≤N→lvX s N F s2 i=lvX s N F t1 i
theorem twoL {s:Int→Bool} {N:Nat} {F:Pt→Int} (hN:N≤12) (hF:FnC N F) (hfew:(addn N F []).length≤3901) {p:Pt} (hI:inB p (cubeB (2 ^ (N+2)))=true) {c:Int} (hc:0≤c∧c≤255) :
 ∃ t1 s1 s2,TwoL s N F (Tr.upd F p c) (addn N F []) t1 s1 s2:=by
 have hFG:=hF.upd hI hc
 have hG0:=addn_good hN hF good_nil
 have hm0:trF N F∈addn N F []:=addn_mem _ _ _
 have hl0:=addn_len hN hI hc hG0 hm0
 have hG1:=addn_good hN hFG hG0
 have hm1:trF N F∈addn N (Tr.upd F p c) (addn N F []):=(addn_pre _ _ _).subset hm0
 have hm2:trF N (Tr.upd F p c)∈addn N (Tr.upd F p c) (addn N F []):=addn_mem _ _ _
 have hk1:=lvS_len (s:=s) hN hF hG1 N (Nat.le_refl N)
 have hGs1:=lvS_good (s:=s) hN hF hG1 N (Nat.le_refl N)
 have hk2:=lvS_len (s:=s) hN hFG hGs1 N (Nat.le_refl N)
 have ho:=few_own hN hFG hG0
 have hms : ∀ j,j≤N→trF (N - j) (lvlF s F j)∈lvS s N F (addn N (Tr.upd F p c) (addn N F [])) N:=fun j hj=>lvS_mem hm1 hj
 have hp1:addn N (Tr.upd F p c) (addn N F []) <+: lvS s N F (addn N (Tr.upd F p c) (addn N F [])) N:=lvS_pre (s:=s) (N:=N) (f:=F) (j:=0) (k:=N) (Nat.zero_le N)
 have hp2:lvS s N F (addn N (Tr.upd F p c) (addn N F [])) N <+: lvS s N (Tr.upd F p c) (lvS s N F (addn N (Tr.upd F p c) (addn N F [])) N) N:=lvS_pre (s:=s) (N:=N) (f:=Tr.upd F p c) (j:=0) (k:=N) (Nat.zero_le N)
 have hall:lvS s N F (lvS s N (Tr.upd F p c) (lvS s N F (addn N (Tr.upd F p c) (addn N F [])) N) N) N=lvS s N (Tr.upd F p c) (lvS s N F (addn N (Tr.upd F p c) (addn N F [])) N) N:=lvS_there (fun j hj=>hp2.subset (hms j hj)) N (Nat.le_refl N)
 have h1:N * (addn N F []).length≤12 * 3901:=Nat.mul_le_mul hN hfew
 have h2:N * (addn N (Tr.upd F p c) []).length≤12 * 3914:=Nat.mul_le_mul hN (by omega)
 refine ⟨_,_,_,rfl,rfl,rfl,hG1,hGs1,lvS_good (s:=s) hN hFG hGs1 N (Nat.le_refl N),hm1,hm2,hp1.subset hm2,(hp1.trans hp2).subset hm1,by omega,by omega,by omega,?_,?_,hall,fun i hi=>?_⟩
 · unfold idn;rw [idT_prefix (addn_pre _ _ _) hm0]
 · unfold idn;rw [idT_prefix hp1 hm2]
 · rw [lvX_all ((hp1.trans hp2).subset hm1) hi,lvX_all hm1 hi,hall,idT_prefix hp2 (hms i hi)]
theorem TwoL.same {s:Int→Bool} {N:Nat} {F:Pt→Int} {p:Pt} {c:Int} {t0 t1 s1 s2:List Tr} (h:TwoL s N F (Tr.upd F p c) t0 t1 s1 s2) (hI:inB p (cubeB (2 ^ (N+2)))=true) (e:idn t1 N F=idn t1 N (Tr.upd F p c)) :
 ∀ i,i≤N→lvX s N F t1 i=lvX s N (Tr.upd F p c) s1 i:=by
 have e1:trF N F=trF N (Tr.upd F p c):=idT_inj h.m1 h.m2 (by unfold idn at e;omega)
 have e2:F p=c:=by
  have h1:=get_tr (f:=F) hI
  rw [e1,get_tr hI] at h1
  rw [←h1];unfold Tr.upd;rw [if_pos rfl]
 rw [upd_same e2] at h ⊢
 intro i hi
 have hm : ∀ j,j≤N→trF (N - j) (lvlF s F j)∈s1:=fun j hj=>by rw [h.es1];exact lvS_mem h.m1 hj
 have hp:s1 <+: lvS s N F s1 N:=lvS_pre (s:=s) (N:=N) (f:=F) (ts:=s1) (j:=0) (k:=N) (Nat.zero_le N)
 rw [lvX_all h.m1 hi,lvX_all (show trF N F∈s1 from hm 0 (Nat.zero_le N)) hi,←h.es1,idT_prefix hp (hm i hi)]
theorem cell_apart (s:Int→Bool) (N j:Nat) (F:Pt→Int) (px py pz qx qy qz c:Int) (hI:inB ⟨px,py,pz⟩ (cubeB (2 ^ (N+2)))=true)
 (h:px.tdiv (2 ^ j) ≠ qx.tdiv (2 ^ j)∨py.tdiv (2 ^ j) ≠ qy.tdiv (2 ^ j)∨pz.tdiv (2 ^ j) ≠ qz.tdiv (2 ^ j)) :
 cellL s N F (j:Int) ⟨qx,qy,qz⟩=cellL s N (Tr.upd F ⟨px,py,pz⟩ c) (j:Int) ⟨qx,qy,qz⟩:=by
 unfold cellL
 split
 · rename_i hc
   obtain ⟨_,_,hq⟩:=hc
   have h1:=inB_iff.1 hI
   have h2:=inB_iff.1 hq
   simp only [cubeB,Pt.zero] at h1 h2
   rw [Int.toNat_natCast]
   refine lvl_congr j _ fun r r1 r2 r3=>?_
   simp only at r1 r2 r3
   unfold Tr.upd
   rw [if_neg]
   intro e
   rw [e] at r1 r2 r3
   simp only at r1 r2 r3
   rw [Int.tdiv_eq_ediv_of_nonneg (by omega),Int.tdiv_eq_ediv_of_nonneg (by omega),Int.tdiv_eq_ediv_of_nonneg (by omega),Int.tdiv_eq_ediv_of_nonneg (by omega),Int.tdiv_eq_ediv_of_nonneg (by omega),Int.tdiv_eq_ediv_of_nonneg (by omega)] at h
   omega
 · rfl
end
section
open Go.RowKit Go.Sort Go.Maps
open Oct
attribute [local go_sem] Oper.semAt_some
set_option maxRecDepth 100000 in
set_option maxHeartbeats 8000000 in
theorem local_on (kc:List Int) (hk:kc.length=64) (a b c d e f:Int) (ha:Option Addr) (hcp:Nat) (xs:List Int) (hl:xs.length≤300) (N:Nat) (hN:N≤12) (HX:GoodG ⟨⟨a,b,c⟩,⟨d,e,f⟩⟩ xs hcp) (hE:fromE ⟨⟨a,b,c⟩,⟨d,e,f⟩⟩ xs ((N:Int)+2)=0) (hV:validG ⟨⟨a,b,c⟩,⟨d,e,f⟩⟩ xs=true) (hC:emptyB ⟨⟨a,b,c⟩,⟨d,e,f⟩⟩=true∨containsB ⟨⟨0,0,0⟩,⟨2 ^ (N+2),2 ^ (N+2),2 ^ (N+2)⟩⟩ ⟨⟨a,b,c⟩,⟨d,e,f⟩⟩=true)
 (ta:Option Addr) (tc:Nat) (L:List Mat) (hL:L.length≤300) (j:Nat) (hj:j≤N) (px py pz qx qy qz r:Int) (hr:0≤r∧r≤255) (hp3:W64 px∧W64 py∧W64 pz) (hq3:W64 qx∧W64 qy∧W64 qz) (w:World) (hsl:Sl w .i64 ha xs) (hT:SlM w ta L) (hK:Krow w 1 kc) :
 Calls Tryz.prog 7 #[.agg #[a,b,c,d,e,f,.slice ha xs.length hcp],.int .i64 ((N:Int)+2),.slice ta L.length tc,(j:Int),.agg #[px,py,pz],.agg #[qx,qy,qz],.int .u8 r] w fun E w'=>E = .returned (.bool true)∧Below w.heap.size w w':=by
 have hf:=grid_fn HX hC
 have hfew:=addn_few HX hN
 have hG0:=addn_good hN hf good_nil
 have hmem:trF N (cellG ⟨⟨a,b,c⟩,⟨d,e,f⟩⟩ xs)∈addn N (cellG ⟨⟨a,b,c⟩,⟨d,e,f⟩⟩ xs) []:=addn_mem _ _ _
 have HS:=Bx.mk fun W (hb:Below w.heap.size w W)=>sanity12_true kc hk W (krow_below hK hb)
 have hbu:=Bx.mk fun W (h:Sl W .i64 ha xs)=>built12_yes 100000 (by omega) a b c d e f ha hcp xs hl N hN HX hE hV hC W h
 generalize (cellG ⟨⟨a,b,c⟩,⟨d,e,f⟩⟩ xs)=F at *
 have hlt:L ≠ [] → ∀ b,ta.map (·.block)=some b→b<w.heap.size:=fun hx b hb=>by
  obtain ⟨m,r,rfl⟩:=List.exists_cons_of_ne_nil hx
  obtain ⟨b',off,h1,h2⟩:=hT 0 m rfl
  rw [h1] at hb
  simp only [Option.map_some,Option.some.injEq] at hb
  rw [←hb]
  exact World.block_lt_of_cell? w _ (h2 0 _ rfl)
 have Hlt:=Bx.mk hlt
 have HT:=Bx.mk hT
 have hSL:=Bx.mk hsl
 have t0:decide (((L.length:Nat):Int) > 300)=false:=by simp;omega
 have t1:decide ((j:Int)<0)=false:=by simp
 have hw:IntKind.i64.wrap ((N:Int)+2 - 2)=(N:Int):=by rw [show (N:Int)+2 - 2=(N:Int) by omega];exact IntWalk.i64_in _ (by omega)
 have hw':IntKind.i64.wrap (N:Int)=(N:Int):=IntWalk.i64_in _ (by omega)
 have hwr:IntKind.i64.wrap r=r:=IntWalk.i64_in _ (by omega)
 have t3:decide ((j:Int) > (N:Int))=false:=by simp;omega
 have t3b:decide (N<j)=false:=by simp;omega
 obtain ⟨mo,hmo⟩ : ∃ m:Int,m=((addn N F []).length:Int)+((100000:Nat):Int):=⟨_,rfl⟩
 rw [←hmo] at hbu
 have hl0:(addn N F []).length≤3901:=hfew
 have hsz:=Bx.mk fun W=>lv_rsize (j:Int) W
 have hsv:sizeV (j:Int)=((2 ^ j:Nat):Int):=by unfold sizeV;rw [if_pos (by omega),Int.toNat_natCast];simp
 rw [hsv] at hsz
 by_cases hI:inB ⟨px,py,pz⟩ (cubeB (2 ^ (N+2)))=true
 · obtain ⟨l1,s1,s2,TL⟩:=twoL (s:=solT L) hN hf hfew hI hr
   have hfG:=hf.upd hI hr
   have hset:=Bx.mk fun W Far sb lt st=>m_set_fits W Far sb mo (addn N F []) N F hN hG0 (by omega) hmem px py pz r ⟨hI,hr⟩ (.inr (by rw [←TL.e1];have:=TL.l1;omega)) lt st
   have hpy1:=Bx.mk fun W Far sb st lt tb ft=>lv_Pyramid W Far sb ta tc L (by omega) mo l1 st lt tb ft TL.g1 N hN F hf TL.m1 (by rw [←TL.es1];have:=TL.l2;omega)
   have hpy2:=Bx.mk fun W Far sb st lt tb ft=>lv_Pyramid W Far sb ta tc L (by omega) mo s1 st lt tb ft TL.g2 N hN _ hfG TL.m3 (by rw [←TL.es2];have:=TL.l3;omega)
   have hsame:=Bx.mk (TL.same hI)
   have hce1:=Bx.mk fun sb Far A cp W st hs=>lv_Cell_any (solT L) N hN F hf sb mo Far s2 TL.g3 TL.m4 (by rw [TL.all];have:=TL.l3;omega) A cp (j:Int) qx qy qz hq3.1 hq3.2.1 hq3.2.2 W st hs
   have hce2:=Bx.mk fun sb Far A cp W st hs=>lv_Cell_any (solT L) N hN _ hfG sb mo Far s1 TL.g2 TL.m3 (by rw [←TL.es2];have:=TL.l3;omega) A cp (j:Int) qx qy qz hq3.1 hq3.2.1 hq3.2.2 W st hs
   rw [TL.all] at hce1
   rw [←TL.es2] at hce2
   have HE1:=Bx.mk TL.es1
   have HE2:=Bx.mk TL.es2
   have hap:=Bx.mk (cell_apart (solT L) N j F px py pz qx qy qz r hI)
   have hxs:=Bx.mk TL.xs
   have hi1:=TL.i1
   have hi2:=TL.i2
   rw [←hi2] at hpy2
   rw [←hi1] at hpy1 hsame
   rw [←TL.e1] at hset
   have hft1:Bx (Tr.Fits mo l1 s1):=⟨.inr (by have:=TL.l2;omega)⟩
   have hft2:Bx (Tr.Fits mo s1 s2):=⟨.inr (by have:=TL.l3;omega)⟩
   clear TL hfG
   generalize Tr.upd F ⟨px,py,pz⟩ r=G at *
   obtain ⟨i0,hi0⟩ : ∃ i,i=idn (addn N F []) N F:=⟨_,rfl⟩
   rw [←hi0] at hset hpy1 hsame hbu
   obtain ⟨nx,hnx⟩ : ∃ i,i=idn l1 N G:=⟨_,rfl⟩
   rw [←hnx] at hset hpy2 hsame
   obtain ⟨c1v,hc1v⟩ : ∃ v,v=cellL (solT L) N F (j:Int) ⟨qx,qy,qz⟩:=⟨_,rfl⟩
   obtain ⟨c2v,hc2v⟩ : ∃ v,v=cellL (solT L) N G (j:Int) ⟨qx,qy,qz⟩:=⟨_,rfl⟩
   rw [←hc1v] at hce1 hap
   rw [←hc2v] at hce2 hap
   obtain ⟨m,hm⟩ : ∃ m,m=2 ^ j:=⟨_,rfl⟩
   have hcast:(m:Int)=(2:Int) ^ j:=by rw [hm];simp
   rw [←hcast] at hap
   rw [←hm] at hsz
   have hm1:1≤m:=by rw [hm];exact Nat.one_le_two_pow
   have dv : ∀ x:Int,W64 x→IntKind.i64.wrap (x.tdiv (m:Int))=x.tdiv (m:Int):=fun x hx=>by
    unfold W64 at hx
    have hpos : ∀ y:Int,0≤y→0≤y.tdiv (m:Int)∧y.tdiv (m:Int)≤y:=fun y hy=>by
     rw [Int.tdiv_eq_ediv_of_nonneg hy]
     exact ⟨Int.ediv_nonneg hy (by omega),Int.ediv_le_self _ hy⟩
    by_cases h0:0≤x
    · have:=hpos x h0
      exact IntWalk.i64_in _ (by omega)
    · have h1:=hpos (-x) (by omega)
      rw [Int.neg_tdiv] at h1
      exact IntWalk.i64_in _ (by omega)
   have Q:=Bx.mk (And.intro (And.intro (dv px hp3.1) (dv py hp3.2.1)) (And.intro (dv pz hp3.2.2) (And.intro (dv qx hq3.1) (And.intro (dv qy hq3.2.1) (dv qz hq3.2.2)))))
   have Hmz:Bx (¬(m:Int)=0∧((m:Int) == 0)=false ∧ ¬m=0):=⟨by omega,by simp;omega,by omega⟩
   clear hK hsl hT hlt HX hE hV hC hl hmem hG0 hfew hp3 hq3 hf hc1v hc2v hi0 hnx hi1 hi2 hm hcast hsv dv hl0 hmo hI
   generalize xs.length=nl at *
   go_enter Tryz.func7,Tryz.ntmps7
   go_upto_region 1 with fail
   generalize hW:World.alloc (World.alloc (World.alloc w _) _) _=W
   have hB:=bl3 hW
   have kg:Bk W w.heap.size #[a,b,c,d,e,f,.slice ha nl hcp] 28:=bk2 hW
   have kp:Bk W (w.heap.size+1) #[px,py,pz] 23:=bk1 hW
   have kq:Bk W (w.heap.size+1+1) #[qx,qy,qz] 23:=bk0 hW
   clear hW
   go_wp2_with fail
   refine (HS.out _ hB).mono ?_
   rintro _ w1 ⟨rfl,hb⟩
   have HB1:=Bx.mk (hB.trans (hb.mono hB.size))
   have KG1:=Bx.mk (kg.later hb)
   have KP1:=Bx.mk (kp.later hb)
   have KQ1:=Bx.mk (kq.later hb)
   clear hb HS hB kg kp kq
   obtain ⟨c0,c1,c2,c3,c4,c5,c6⟩:=KG1.out.c7
   go_wp2_with fail
   refine (hbu.out _ (hSL.out.below HB1.out)).mono ?_
   rintro _ w2 ⟨sb,rfl,st2,hb2⟩
   have HB2:=Bx.mk (HB1.out.trans (hb2.mono HB1.out.size))
   have KP2:=Bx.mk (KP1.out.later hb2)
   have KQ2:=Bx.mk (KQ1.out.later hb2)
   have ST2:=Bx.mk st2
   have h12:=Bx.mk hb2.size
   have hkp1:=Bx.mk KP1.out.lt
   have hkq1:=Bx.mk KQ1.out.lt
   clear hb2 st2 hbu c0 c1 c2 c3 c4 c5 c6 KG1 KP1 KQ1
   obtain ⟨p0,p1,p2⟩:=KP2.out.c3
   go_wp2_with fail
   refine (hset.out w2 _ sb (fun k hk=>Nat.lt_of_lt_of_le hk h12.out) ST2.out).mono ?_
   rintro _ w3 ⟨rfl,st3,hk3⟩
   have K13:=Bx.mk hk3
   have HB3:=Bx.mk (below_of_keeps HB2.out hk3 fun x hx=>Nat.lt_of_lt_of_le hx HB1.out.size)
   have hpy1:=Bx.mk (hpy1.out w3 _ sb st3 (fun k hk=>Nat.lt_of_lt_of_le hk (Nat.le_trans h12.out hk3.size)) (HT.out.below HB3.out) (fun h b hb=>Nat.lt_of_lt_of_le (Hlt.out h b hb) HB1.out.size))
   clear st3 hset ST2 hk3 p0 p1 p2 hwr
   go_wp2_with fail
   refine hpy1.out.mono ?_
   rintro _ w4 ⟨hk4,(⟨-,v4,rfl,own4,st4⟩ | ⟨hft,-⟩)⟩
   rotate_left
   · rw [←HE1.out] at hft;exact absurd hft1.out hft
   rw [←HE1.out] at st4
   have HB4:=Bx.mk (below_of_keeps HB3.out hk4 fun x hx=>Nat.lt_of_lt_of_le hx HB1.out.size)
   have HS34:=Bx.mk hk4.size
   have HS23:=Bx.mk K13.out.size
   have K14:=Bx.mk (K13.out.trans hk4)
   have LT4:=Bx.mk own4.lt
   have O4:=Bx.mk own4
   have hpy2:=Bx.mk (hpy2.out w4 _ sb st4 (fun k hk=>by
    rcases hk with hk | hk
    · have:=h12.out;have:=HS34.out;have:=HS23.out;omega
    · exact (LT4.out k hk).2) (HT.out.below HB4.out) (fun h b hb=>.inl (Nat.lt_of_lt_of_le (Hlt.out h b hb) HB1.out.size)))
   obtain ⟨g4,cap4,rfl,-,-,hcl4,-,-⟩:=own4.at (by simp)
   have hcl4:=Bx.mk hcl4
   have hlen4:((List.range (N+1)).map (lvX (solT L) N F l1)).length=N+1:=by simp
   rw [hlen4] at hpy2 ⊢
   clear own4 st4 hk4 hlen4 hpy1 O4 LT4
   go_wp2_with fail
   refine hpy2.out.mono ?_
   rintro _ w5 ⟨hk5,(⟨-,v5,rfl,own5,st5⟩ | ⟨hft,-⟩)⟩
   rotate_left
   · rw [←HE2.out] at hft;exact absurd hft2.out hft
   rw [←HE2.out] at st5
   have HB5:=Bx.mk (below_of_keeps HB4.out hk5 fun x hx=>.inl (Nat.lt_of_lt_of_le hx HB1.out.size))
   obtain ⟨g5,cap5,rfl,-,-,hcl5,-,-⟩:=own5.at (by simp)
   have hcl5:=Bx.mk hcl5
   have K15:=Bx.mk (K14.out.trans (hk5.less fun x hx=>.inl hx))
   have HC4:Bx (∀ i,i<N+1→w5.cell? ⟨g4,i,none⟩=some (.int .i64 (lvX (solT L) N F l1 i))):=⟨fun i hi=>cell_keepsL hk5 (.inr rfl) (hcl4.out i _ (by rw [List.getElem?_map,List.getElem?_range hi];rfl))⟩
   have HC5:Bx (∀ i,i<N+1→w5.cell? ⟨g5,i,none⟩=some (.int .i64 (lvX (solT L) N G s1 i))):=⟨fun i hi=>hcl5.out i _ (by rw [List.getElem?_map,List.getElem?_range hi];rfl)⟩
   have hlen5:((List.range (N+1)).map (lvX (solT L) N G s1)).length=N+1:=by simp
   rw [hlen5] at st5 ⊢
   have ST5:=Bx.mk st5
   have KP5:=Bx.mk (KP2.out.far K15.out hkp1.out)
   have KQ5:=Bx.mk (KQ2.out.far K15.out hkq1.out)
   have hca1:Bx (∀ W,Below w5.heap.size w5 W→Calls Tryz.prog 17 #[.pointer (some ⟨sb,0,none⟩),.slice (some ⟨g4,0,none⟩) (N+1) cap4,(j:Int),.agg #[qx,qy,qz]] W fun e w'=>e = .returned (.int .i64 c1v)∧Below W.heap.size W w'):=⟨fun W hb=>hce1.out sb _ (some ⟨g4,0,none⟩) cap4 W (ST5.out.later hb) (fun i x hx=>by
    have hi:i<N+1:=by have:=(List.getElem?_eq_some_iff.1 hx).1;simpa using this
    rw [List.getElem?_map,List.getElem?_range hi] at hx
    obtain rfl:=Option.some.inj hx
    refine ⟨g4,0,rfl,?_⟩
    rw [Nat.zero_add,hxs.out i (by omega)]
    exact cell_later hb (HC4.out i hi))⟩
   have hca2:Bx (∀ W,Below w5.heap.size w5 W→Calls Tryz.prog 17 #[.pointer (some ⟨sb,0,none⟩),.slice (some ⟨g5,0,none⟩) (N+1) cap5,(j:Int),.agg #[qx,qy,qz]] W fun e w'=>e = .returned (.int .i64 c2v)∧Below W.heap.size W w'):=⟨fun W hb=>hce2.out sb _ (some ⟨g5,0,none⟩) cap5 W (ST5.out.later hb) (fun i x hx=>by
    have hi:i<N+1:=by have:=(List.getElem?_eq_some_iff.1 hx).1;simpa using this
    rw [List.getElem?_map,List.getElem?_range hi] at hx
    obtain rfl:=Option.some.inj hx
    refine ⟨g5,0,rfl,?_⟩
    rw [Nat.zero_add]
    exact cell_later hb (HC5.out i hi))⟩
   have hfin:=Bx.mk fun W (hb:Below w5.heap.size w5 W)=>HB5.out.trans (hb.mono HB5.out.size)
   have hsm:Bx (i0=nx → ∀ i,i<N+1→lvX (solT L) N F l1 i=lvX (solT L) N G s1 i):=⟨fun e i hi=>hsame.out e i (by omega)⟩
   generalize lvX (solT L) N F l1=X at *
   generalize lvX (solT L) N G s1=Y at *
   have e1:IntKind.i64.wrap ((N:Int)+2 - 1)=(N:Int)+1:=by rw [show (N:Int)+2 - 1=(N:Int)+1 by omega];exact IntWalk.i64_in _ (by omega)
   clear own5 st5 hk5 hlen5 hpy2 hcl4 hcl5 hxs hce1 hce2 ST5 HB1 HB2 HB3 HB4 K13 K14 K15 HT Hlt hft1 hft2 HS34 HS23 h12 hsame KP2 KQ2 hkp1 hkq1 HB5 HE1 HE2
   go_wp2_with fail
   refine (hsz.out _).mono ?_
   rintro _ _ ⟨rfl,rfl⟩
   go_upto_region 13 with fail
   clear e1 hsz
   obtain ⟨p0,p1,p2⟩:=KP5.out.r3
   obtain ⟨q0,q1,q2⟩:=KQ5.out.r3
   obtain ⟨⟨d1,d2⟩,d3,d4,d5,d6⟩:=Q.out
   obtain ⟨z1,z2,z3⟩:=Hmz.out
   obtain ⟨ax,hax⟩ : ∃ x,x=px.tdiv (m:Int):=⟨_,rfl⟩
   obtain ⟨ay,hay⟩ : ∃ x,x=py.tdiv (m:Int):=⟨_,rfl⟩
   obtain ⟨az,haz⟩ : ∃ x,x=pz.tdiv (m:Int):=⟨_,rfl⟩
   obtain ⟨bx,hbx⟩ : ∃ x,x=qx.tdiv (m:Int):=⟨_,rfl⟩
   obtain ⟨by',hby⟩ : ∃ x,x=qy.tdiv (m:Int):=⟨_,rfl⟩
   obtain ⟨bz,hbz⟩ : ∃ x,x=qz.tdiv (m:Int):=⟨_,rfl⟩
   replace d1:IntKind.i64.wrap (px.tdiv (m:Int))=ax:=by rw [hax];exact d1
   replace d2:IntKind.i64.wrap (py.tdiv (m:Int))=ay:=by rw [hay];exact d2
   replace d3:IntKind.i64.wrap (pz.tdiv (m:Int))=az:=by rw [haz];exact d3
   replace d4:IntKind.i64.wrap (qx.tdiv (m:Int))=bx:=by rw [hbx];exact d4
   replace d5:IntKind.i64.wrap (qy.tdiv (m:Int))=by':=by rw [hby];exact d5
   replace d6:IntKind.i64.wrap (qz.tdiv (m:Int))=bz:=by rw [hbz];exact d6
   rw [←hax,←hay,←haz,←hbx,←hby,←hbz] at hap
   have hcs : ∃ ap:Bool,(ap=true→c1v=c2v)∧((ap=true∧(ax != bx)=true)∨(ap=true∧(ax != bx)=false∧(ay != by')=true)∨((ax != bx)=false∧(ay != by')=false∧(az != bz)=ap)):=by
    by_cases h1:ax=bx
    · by_cases h2:ay=by'
      · by_cases h3:az=bz
        · exact ⟨false,(fun h=>by cases h),.inr (.inr ⟨by simpa using h1,by simpa using h2,by simpa using h3⟩)⟩
        · exact ⟨true,fun _=>hap.out (.inr (.inr h3)),.inr (.inr ⟨by simpa using h1,by simpa using h2,by simpa using h3⟩)⟩
      · exact ⟨true,fun _=>hap.out (.inr (.inl h2)),.inr (.inl ⟨rfl,by simpa using h1,by simpa using h2⟩)⟩
    · exact ⟨true,fun _=>hap.out (.inl h1),.inl ⟨rfl,by simpa using h1⟩⟩
   obtain ⟨ap,hap2,hcs⟩:=hcs
   have Hap:=Bx.mk hap2
   clear hax hay haz hbx hby hbz hap hap2 Q Hmz KP5
   rcases hcs with ⟨rfl,n1⟩ | ⟨rfl,n1,n2⟩ | ⟨n1,n2,n3⟩
   all_goals
    refine wp_region_quiet_below (by kernel_rfl) (by kernel_rfl) ?_
    repeat (first
     | go_big_quiet_step (fail)
     | quiet_step (fail))
    refine wpQuiet_nil ?_
    rintro _ ⟨⟨dq,osq⟩,rfl⟩
    clear p0 p1 p2 q0 q1 q2 z1 z2 z3 d1 d2 d3 d4 d5 d6
    have HC6:=Bx.mk (below_regrown w5 dq osq)
    generalize grow (redrawn w5 dq) osq=w6 at *
    go_wp2_with fail
    go_loopw [27] (fun v27 wr => ∃ k:Nat,k≤N+1∧v27 = .int .i64 k∧Bx (Below w5.heap.size w5 wr)) (fun i _=>N+1 - (intOf i).toNat)
    case atStart=>exact ⟨0,Nat.zero_le _,rfl,HC6⟩
    case round =>
     clear HC6
     obtain ⟨k,hk2,rfl,HI⟩:=hrel
     by_cases hlt:k<N+1
     · have t0:decide ((k:Int)<((N+1:Nat):Int))=true:=by simp;omega
       have t0b:decide ((k:Int)<(N:Int)+1)=true:=by simp;omega
       have t0c:decide (k<N+1)=true:=by simpa using hlt
       go_upto_region 17 with fail
       clear t0 t0b t0c
       have b1:(0:Int)≤(k:Int)∧(k:Int)<((N+1:Nat):Int):=by omega
       have b1b:(0:Int)≤(k:Int)∧(k:Int)<(N:Int)+1:=by omega
       have b2:(0:Int)≤(k:Int):=by omega
       have hx:i0=nx→X k=Y k:=fun e=>hsm.out e k hlt
       have x0 : ∀ dk osk,(grow (redrawn wr dk) osk).cell? ⟨g4,k,none⟩=some (.int .i64 (X k)):=cell_regrown (cell_later HI.out (HC4.out k hlt))
       have x1 : ∀ dk osk,(grow (redrawn wr dk) osk).cell? ⟨g5,k,none⟩=some (.int .i64 (Y k)):=cell_regrown (cell_later HI.out (HC5.out k hlt))
       generalize X k=xv at *
       generalize Y k=yv at *
       by_cases hid:i0=nx
       · obtain rfl:=hx hid
         obtain rfl:=hid
         have n9:(xv != xv)=false:=by simp
         have n8:(i0 == i0)=true:=by simp
         refine wp_region_quiet_below (by kernel_rfl) (by kernel_rfl) ?_
         repeat (first
          | go_big_quiet_step (fail)
          | quiet_step (fail))
         refine wpQuiet_nil ?_
         rintro _ ⟨⟨dq,osq⟩,rfl⟩
         have hbq:=below_regrown wr dq osq
         clear x0 x1
         generalize grow (redrawn wr dq) osq=wq at *
         have HJ:=Bx.mk (HI.out.trans (hbq.mono HI.out.size))
         clear hbq
         go_wp2_with fail
         go_roundw
         case rel=>exact ⟨k+1,by omega,by go_num,HJ⟩
         case measure=>simp [intOf];omega
       · have n8:(i0 == nx)=false:=by simpa using hid
         refine wp_region_quiet_below (by kernel_rfl) (by kernel_rfl) ?_
         repeat (first
          | go_big_quiet_step (fail)
          | quiet_step (fail))
         refine wpQuiet_nil ?_
         rintro _ ⟨⟨dq,osq⟩,rfl⟩
         have hbq:=below_regrown wr dq osq
         clear x0 x1
         generalize grow (redrawn wr dq) osq=wq at *
         have HJ:=Bx.mk (HI.out.trans (hbq.mono HI.out.size))
         clear hbq hx
         go_wp2_with fail
         go_roundw
         case rel=>exact ⟨k+1,by omega,by go_num,HJ⟩
         case measure=>simp [intOf];omega
     · obtain rfl:k=N+1:=by omega
       have t0:decide (((N+1:Nat):Int)<((N+1:Nat):Int))=false:=by simp
       have t0b:decide (((N+1:Nat):Int)<(N:Int)+1)=false:=by simp
       have t0c:decide (N+1<N+1)=false:=by simp
       have kq:=KQ5.out.later HI.out
       go_upto_region 19 with fail
       clear t0 t0b t0c
       obtain ⟨p0,p1,p2⟩:=kq.r3
       have q0:=Bx.mk fun dk osk=>Calls.regrown_of (hca1.out (grow (redrawn wr dk) osk) (HI.out.trans ((below_regrown wr dk osk).mono HI.out.size)))
       have q1:=Bx.mk fun dk osk=>Calls.regrown_of (hca2.out (grow (redrawn wr dk) osk) (HI.out.trans ((below_regrown wr dk osk).mono HI.out.size)))
       clear kq hca1 hca2
       first
       | (obtain rfl := Hap.out (by first | rfl | trivial)
          refine wp_region_quiet_below (by kernel_rfl) (by kernel_rfl) ?_
          repeat (first
           | go_big_quiet_step (first | with_reducible exact q0.out _ _ | with_reducible exact q1.out _ _)
           | quiet_step (first | with_reducible exact q0.out _ _ | with_reducible exact q1.out _ _))
          refine wpQuiet_nil ?_
          rintro _ ⟨⟨dq,osq⟩,rfl⟩
          have hbq:=below_regrown wr dq osq
          clear p0 p1 p2 q0 q1
          generalize grow (redrawn wr dq) osq=wq at *
          have HJ:=Bx.mk (hfin.out wq (HI.out.trans (hbq.mono HI.out.size)))
          clear hbq
          go_wp2_with fail
          go_ret
          exact ⟨by simp,HJ.out⟩)
       | (cases ap with
          | true =>
            obtain rfl:=Hap.out (by first | rfl | trivial)
            refine wp_region_quiet_below (by kernel_rfl) (by kernel_rfl) ?_
            repeat (first
             | go_big_quiet_step (first | with_reducible exact q0.out _ _ | with_reducible exact q1.out _ _)
             | quiet_step (first | with_reducible exact q0.out _ _ | with_reducible exact q1.out _ _))
            refine wpQuiet_nil ?_
            rintro _ ⟨⟨dq,osq⟩,rfl⟩
            have hbq:=below_regrown wr dq osq
            clear p0 p1 p2 q0 q1
            generalize grow (redrawn wr dq) osq=wq at *
            have HJ:=Bx.mk (hfin.out wq (HI.out.trans (hbq.mono HI.out.size)))
            clear hbq
            go_wp2_with fail
            go_ret
            exact ⟨by simp,HJ.out⟩
          | false =>
            refine wp_region_quiet_below (by kernel_rfl) (by kernel_rfl) ?_
            repeat (first
             | go_big_quiet_step (first | with_reducible exact q0.out _ _ | with_reducible exact q1.out _ _)
             | quiet_step (first | with_reducible exact q0.out _ _ | with_reducible exact q1.out _ _))
            refine wpQuiet_nil ?_
            rintro _ ⟨⟨dq,osq⟩,rfl⟩
            have hbq:=below_regrown wr dq osq
            clear p0 p1 p2 q0 q1
            generalize grow (redrawn wr dq) osq=wq at *
            have HJ:=Bx.mk (hfin.out wq (HI.out.trans (hbq.mono HI.out.size)))
            clear hbq
            go_wp2_with fail
            go_ret
            exact ⟨by simp,HJ.out⟩)
 · have hset:=Bx.mk fun W Far sb i st=>m_set_no W Far sb mo (addn N F []) N hN i px py pz r (fun h=>hI h.1) st
   clear hK hsl hT hlt HX hE hV hC hl hmem hG0 hfew hp3 hq3 hf hsv hl0 hmo hI hsz
   generalize xs.length=nl at *
   go_enter Tryz.func7,Tryz.ntmps7
   go_upto_region 1 with fail
   generalize hW:World.alloc (World.alloc (World.alloc w _) _) _=W
   have hB:=bl3 hW
   have kg:Bk W w.heap.size #[a,b,c,d,e,f,.slice ha nl hcp] 28:=bk2 hW
   have kp:Bk W (w.heap.size+1) #[px,py,pz] 23:=bk1 hW
   have kq:Bk W (w.heap.size+1+1) #[qx,qy,qz] 23:=bk0 hW
   clear hW
   go_wp2_with fail
   refine (HS.out _ hB).mono ?_
   rintro _ w1 ⟨rfl,hb⟩
   have HB1:=Bx.mk (hB.trans (hb.mono hB.size))
   have KG1:=Bx.mk (kg.later hb)
   have KP1:=Bx.mk (kp.later hb)
   have KQ1:=Bx.mk (kq.later hb)
   clear hb HS hB kg kp kq
   obtain ⟨c0,c1,c2,c3,c4,c5,c6⟩:=KG1.out.c7
   go_wp2_with fail
   refine (hbu.out _ (hSL.out.below HB1.out)).mono ?_
   rintro _ w2 ⟨sb,rfl,st2,hb2⟩
   have HB2:=Bx.mk (HB1.out.trans (hb2.mono HB1.out.size))
   have KP2:=Bx.mk (KP1.out.later hb2)
   have KQ2:=Bx.mk (KQ1.out.later hb2)
   have ST2:=Bx.mk st2
   have h12:=Bx.mk hb2.size
   have hkp1:=Bx.mk KP1.out.lt
   have hkq1:=Bx.mk KQ1.out.lt
   clear hb2 st2 hbu c0 c1 c2 c3 c4 c5 c6 KG1 KP1 KQ1
   obtain ⟨p0,p1,p2⟩:=KP2.out.c3
   go_wp2_with fail
   refine (hset.out w2 _ sb _ ST2.out).mono ?_
   rintro _ w3 ⟨rfl,st3,hk3⟩
   have HB3:=Bx.mk (below_of_keeps HB2.out hk3 fun x hx=>Nat.lt_of_lt_of_le hx HB1.out.size)
   go_wp2_with fail
   go_ret
   exact ⟨rfl,HB3.out⟩
theorem local_true (kc:List Int) (hk:kc.length=64) (a b c d e f dd kk px py pz qx qy qz r:Int) (hr:0≤r∧r<256) (ha:Option Addr) (hcp:Nat) (xs:List Int) (hcap:xs.length≤hcp) (ta:Option Addr) (tc:Nat) (L:List Mat) (_hL:L.length≤9223372036854775807) (w:World) (hsl:Sl w .i64 ha xs) (hT:SlM w ta L) (hK:Krow w 1 kc) (hp:W64 px∧W64 py∧W64 pz) (hq:W64 qx∧W64 qy∧W64 qz) :
 Calls Tryz.prog 7 #[.agg #[a,b,c,d,e,f,.slice ha xs.length hcp],dd,.slice ta L.length tc,kk,.agg #[px,py,pz],.agg #[qx,qy,qz],.int .u8 r] w fun E w'=>E = .returned (.bool true)∧Below w.heap.size w w':=by
 have hb:=fun bi hbi=>built12_any a b c d e f dd 100000 ha hcp xs hcap (by omega) w hsl bi hbi
 by_cases h:xs.length≤300∧fromE ⟨⟨a,b,c⟩,⟨d,e,f⟩⟩ xs dd=0
 · obtain ⟨h1,h2⟩:=h
   obtain ⟨n,hn,rfl,hV,hC⟩:=fromE_zero h2
   have hbt:=hb true (decide_eq_true ⟨h1,h2⟩).symm
   have hd2:2≤(n:Int)+2∧(n:Int)+2≤14:=by omega
   by_cases h3:L.length≤300
   · by_cases h4:kk<0
     · exact li_off kc hk a b c d e f _ ha hcp xs.length ta L.length tc kk px py pz qx qy qz r w hK true hbt (.inr (.inr (.inl ⟨rfl,h3,h4⟩)))
     · by_cases h6:(n:Int)+2 - 2<kk
       · exact li_off kc hk a b c d e f _ ha hcp xs.length ta L.length tc kk px py pz qx qy qz r w hK true hbt (.inr (.inr (.inr ⟨rfl,h3,by omega,hd2,h6⟩)))
       · obtain ⟨j,rfl⟩ : ∃ j:Nat,kk=(j:Int):=⟨kk.toNat,by omega⟩
         exact local_on kc hk a b c d e f ha hcp xs h1 n hn (goodG_of hV h1 hcap) h2 hV hC ta tc L h3 j (by omega) px py pz qx qy qz r ⟨hr.1,by omega⟩ hp hq w hsl hT hK
   · exact li_off kc hk a b c d e f _ ha hcp xs.length ta L.length tc kk px py pz qx qy qz r w hK true hbt (.inr (.inl ⟨rfl,by omega⟩))
 · exact li_off kc hk a b c d e f dd ha hcp xs.length ta L.length tc kk px py pz qx qy qz r w hK false (hb false (decide_eq_false h).symm) (.inl rfl)
end
end Go.Proofs.YtgnfgblkpnfcnaaGreatDoor
