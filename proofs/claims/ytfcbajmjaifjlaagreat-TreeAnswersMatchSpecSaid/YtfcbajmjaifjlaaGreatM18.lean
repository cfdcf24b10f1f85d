/- M53, M54: joined by program. -/
import Derived.Test.YtfcbajmjaifjlaaGreatM17
import Derived.ProofKit
import Derived.OpenShut
import Derived.ChangeArms
import Derived.ChangeSlices
import Derived.WideShapes
import Derived.Deep.Strs
import Derived.Deep.Slices
import Derived.Deep.Fields
set_option maxHeartbeats 8000000
set_option maxRecDepth 100000
set_option linter.all false
attribute [local simp] Go.Op.operands Go.Call.operands
namespace Go.Proofs.YtfcbajmjaifjlaaGreat
section
open Go.RowKit Go.Sort Go.Maps
open Oct
attribute [local go_sem] Oper.semAt_some
structure TaI (w:World) (Fr:Nat→Prop) (sb n:Nat) (F0 F:Pt→Int) (Uj ts:List Tr) (b0 b1 b2 b3 b4 b5 stop:Int) (sB:Nat) (wr:World):Prop where
 mi:MatI w Fr sb 1000000 n F ts [] (.slice none 0 0) wr
 pre:Uj <+: ts
 kb:Bk wr (w.heap.size+1) #[b0,b1,b2,b3,b4,b5] 25
 kt:Bk wr (w.heap.size+1+1) #[stop] 3
 kr:Bk wr (w.heap.size+1+1+1) #[.bool false] 4
 ks:Bk wr sB #[.pointer (some ⟨sb,0,none⟩)] 32
 fr:Fr (w.heap.size+1)∧Fr (w.heap.size+1+1)∧Fr (w.heap.size+1+1+1)∧Fr sB
 ge:w.heap.size+1+1+1<sB
section
variable {w wr w':World} {Fr:Nat→Prop} {sb n:Nat} {F0 F F':Pt→Int} {Uj ts ts':List Tr} {b0 b1 b2 b3 b4 b5 stop:Int} {sB:Nat}
theorem TaI.la (h:TaI w Fr sb n F0 F Uj ts b0 b1 b2 b3 b4 b5 stop sB wr) (hb:Below wr.heap.size wr w'):TaI w Fr sb n F0 F Uj ts b0 b1 b2 b3 b4 b5 stop sB w' :=
 ⟨h.mi.la hb,h.pre,h.kb.la hb,h.kt.la hb,h.kr.la hb,h.ks.la hb,h.fr,h.ge⟩
theorem TaI.wide (h:TaI w Fr sb n F0 F Uj ts b0 b1 b2 b3 b4 b5 stop sB wr) (hb:Below wr.heap.size wr w') (x:Nat) (h1:wr.heap.size≤x) (h2:x<w'.heap.size):TaI w (fun k=>Fr k∨k=x) sb n F0 F Uj ts b0 b1 b2 b3 b4 b5 stop sB w' :=
 ⟨⟨(h.mi.st.widen (fun k hk => hk.imp (fun h => h) (fun (e : k = x) => by omega))).la hb, fun j hj => (by
   rcases hj with hj | rfl
   · exact nll (h.mi.far j hj) hb.size
   · exact h2),fun j hj=>.inl (h.mi.old j hj),tr h.mi.bel hb,h.mi.good,h.mi.mem,h.mi.fn,h.mi.own.below hb,fun g hg=>.inl (h.mi.row g hg)⟩,h.pre,h.kb.la hb,h.kt.la hb,h.kr.la hb,h.ks.la hb,⟨.inl h.fr.1,.inl h.fr.2.1,.inl h.fr.2.2.1,.inl h.fr.2.2.2⟩,h.ge⟩
theorem TaI.made (h:TaI w Fr sb n F0 F Uj ts b0 b1 b2 b3 b4 b5 stop sB wr) (hk:Keeps Fr wr w') (hs:StoreIs w' Fr sb 1000000 ts') (hg:Good ts') (hm:trF n F'∈ts') (hf:FnC n F') (hp:ts <+: ts'):TaI w Fr sb n F0 F' Uj ts' b0 b1 b2 b3 b4 b5 stop sB w' :=
 ⟨h.mi.made hk hs hg hm hf,h.pre.trans hp,(hk.block _ h.fr.1 h.kb.lt).trans h.kb,(hk.block _ h.fr.2.1 h.kt.lt).trans h.kt,(hk.block _ h.fr.2.2.1 h.kr.lt).trans h.kr,(hk.block _ h.fr.2.2.2 h.ks.lt).trans h.ks,h.fr,h.ge⟩
end
structure TaL (W6:World) (r:Nat) (Ds:List Nat) (w':World):Prop where
 bel:Below W6.heap.size W6 w'
 nd:Ds.Nodup
 dfd : ∀ D∈Ds,W6.heap.size≤D∧w'.heap[D]? = some (.deferred (some []))
theorem TaL.la {W6 w' V0:World} {r:Nat} {Ds:List Nat} (h:TaL W6 r Ds w') (hb:Below w'.heap.size w' V0):TaL W6 r Ds V0 :=
 ⟨tr h.bel hb,h.nd,fun D hD=>⟨(h.dfd D hD).1,(hb.block D (Array.getElem?_eq_some_iff.1 (h.dfd D hD).2).1).trans (h.dfd D hD).2⟩⟩
theorem zHP {m n₀:Nat} {E:Nat→Prop} {A B C:World} (h:Below m A B) (hk:KpE E n₀ B C) (hE : ∀ k,k<m → ¬E k) (hn:m≤n₀) (hm:m≤A.heap.size):Below m A C:=by
 refine ⟨hk.os.trans h.os,hk.tape.trans h.tape,hk.output.trans h.output,nlt h.size hk.size,fun k hlt=>?_⟩;rw [←h.block k hlt];have hb:k<B.heap.size:=by have:=h.size;omega
 have e:B.heap[k]? = some B.heap[k]:=Array.getElem?_eq_getElem hb;rw [e];exact hk.blk k _ e (hE k hlt) (.inl (by omega))
theorem TaL.round {W6 W7 W:World} {r D:Nat} {Ds:List Nat} {E:Nat→Prop} (h:TaL W6 r Ds W7) (hk:KpE E W7.heap.size W7 W) (hD:W7.heap.size≤D) (hK:W.heap[D]? = some (.deferred (some []))) (IQ : ∀ k,k<W6.heap.size → ¬E k) (hE : ∀ k∈Ds,¬E k):TaL W6 (r+1) (D::Ds) W:=by
 refine ⟨zHP h.bel hk IQ h.bel.size nlr,List.nodup_cons.2 ⟨fun hm=>?_,h.nd⟩,fun k hk'=>?_⟩
 · have:=(Array.getElem?_eq_some_iff.1 (h.dfd D hm).2).1;omega
 · rcases List.mem_cons.1 hk' with rfl | hk'
   · exact ⟨nlt h.bel.size hD,hK⟩
   · have hd:=h.dfd k hk';exact ⟨hd.1,hk.blk k _ hd.2 (hE k hk') (.inl (Array.getElem?_eq_some_iff.1 hd.2).1)⟩
theorem zBJ {L:List (Pt × Nat × Tr)} {f g:(Pt × Nat × Tr)→Bool} (h : ∀ x∈L,f x=g x):L.any f=L.any g:=by
 induction L with
 | nil=>rfl
 | cons y L ih=>rw [List.any_cons,List.any_cons,h y (List.mem_cons_self ..),ih fun x hx=>h x (List.mem_cons_of_mem _ hx)]
theorem ta_on (a b c d e f b0 b1 b2 b3 b4 b5 stop:Int) (ha la ca:Option Addr) (hcp lc cc:Nat) (xs cs:List Int) (L:List Stp) (w:World) (hl:xs.length≤300) (hL:L.length≤8) (LZ:cs.length≤300) (Rn:Sl w .i64 ha xs) (Rf:SlS w la L) (Lr:Sl w .i64 ca cs) (QZ:okP ⟨b0,b1,b2⟩=true) (Qb:okP ⟨b3,b4,b5⟩=true) (n:Nat) (hn:n≤12) (HX:GoodG ⟨⟨a,b,c⟩,⟨d,e,f⟩⟩ xs hcp) (hE:zFd ⟨⟨a,b,c⟩,⟨d,e,f⟩⟩ xs ((n:Int)+2)=0) (hV:zN6 ⟨⟨a,b,c⟩,⟨d,e,f⟩⟩ xs=true) (hC:zS ⟨⟨a,b,c⟩,⟨d,e,f⟩⟩=true∨zL ⟨⟨0,0,0⟩,⟨2 ^ (n+2),2 ^ (n+2),2 ^ (n+2)⟩⟩ ⟨⟨a,b,c⟩,⟨d,e,f⟩⟩=true) (Mn:L.all (zE0 n)=true) :
 Calls Tryz.prog 4 #[.agg #[a,b,c,d,e,f,.slice ha xs.length hcp],((n:Int)+2:Int),.slice la L.length lc,.agg #[b0,b1,b2,b3,b4,b5],.slice ca cs.length cc,stop] w fun e' w'=>e' = .returned (.bool true)∧Below w.heap.size w w':=by
 have DZ:=Bx.mk Rf;have Ch:=Bx.mk Lr;have Cd:=Bx.mk LZ;have Cs:=Bx.mk fun W h1 h2=>zEz a b c d e f ha hcp xs hl n hn hE la lc L hL W h1 h2;rw [Mn] at Cs;have CW:=Bx.mk fun W h1=>zBv 1000000 a b c d e f ha hcp xs hl n hn HX hE hV hC (.inr (by have:=zAw HX hn;omega)) W h1
 have D7:=Bx.mk (zAw HX hn);have Cr:=Bx.mk (zF2 HX hC);have Db:=Bx.mk Rn;have Hn:=Bx.mk hn;have CQ:=Bx.mk Mn;have R8:=Bx.mk fun W=>zw b0 b1 b2 W;have R9:=Bx.mk fun W=>zw b3 b4 b5 W;rw [QZ] at R8;rw [Qb] at R9;have Uh:decide ((cs.length:Int) > 300)=false:=by simp;omega
 clear Rn HX hV hC hE hn Rf Mn QZ Qb Lr LZ;generalize zE ⟨⟨a,b,c⟩,⟨d,e,f⟩⟩ xs=F0 at *;obtain ⟨cn,Le⟩ : ∃ cn,cn=cs.length:=⟨_,rfl⟩;rw [←Le] at Uh ⊢;have Cf:=Bx.mk Le;clear Le;refine (callsIn_wide (n:=5)).1 ?_;refine callsIn_of_wp_marks Tryz.func4 rfl trivial ?_ rfl;simp only [Tryz.ntmps4,List.size_toArray,List.length_cons,List.length_nil,Nat.reduceAdd,Nat.reduceSub,Array.replicate_succ,Array.replicate_zero,List.push_toArray,List.append_toArray,List.nil_append,List.cons_append];refine (wpIn_wide (n:=5)).2 ?_;go_upto_region 1 with fail;generalize hW:(((w.alloc _).alloc _).alloc _).alloc _=W;have HB:=Bx.mk (show Below w.heap.size w W by rw [←hW];exact ((bf.alloc (by simp) _).alloc (by simp;omega) _).alloc (by simp;omega) _)
 have KG:=Bx.mk (show Bk W w.heap.size #[a,b,c,d,e,f,.slice ha xs.length hcp] 28 by rw [←hW];exact zD (zD (zD (zC _ _ _ (by simp)))))
 have KB:=Bx.mk (show Bk W (w.heap.size+1) #[b0,b1,b2,b3,b4,b5] 25 by rw [←hW];exact zD (zD (zC _ _ _ (by simp))))
 have KT:=Bx.mk (show Bk W (w.heap.size+1+1) #[stop] 3 by rw [←hW];exact zD (zC _ _ _ (by simp)))
 have KR:=Bx.mk (show Bk W (w.heap.size+1+1+1) #[.bool false] 4 by rw [←hW];exact zC _ _ _ (by simp))
 clear hW;obtain ⟨c0,c1,c2,c3,c4,c5,c6⟩:=KG.o.c7;go_wp2_with fail;refine (Cs.o _ (Db.o.below HB.o) (DZ.o.below HB.o)).mono ?_;rintro _ w2 ⟨rfl,Js⟩;replace HB:=Bx.mk (tr HB.o Js);replace KG:=Bx.mk (KG.o.la Js);replace KB:=Bx.mk (KB.o.la Js);replace KT:=Bx.mk (KT.o.la Js);replace KR:=Bx.mk (KR.o.la Js);clear Js c0 c1 c2 c3 c4 c5 c6 Cs;obtain ⟨y0,y1,y2,y3,y4,y5⟩:=KB.o.c6;go_wp2_with fail;refine (R8.o _).mono ?_;rintro _ w3 ⟨rfl,Js⟩;replace HB:=Bx.mk (tr HB.o Js);replace KG:=Bx.mk (KG.o.la Js);replace KB:=Bx.mk (KB.o.la Js);replace KT:=Bx.mk (KT.o.la Js);replace KR:=Bx.mk (KR.o.la Js);clear Js y0 y1 y2 y3 y4 y5 R8;obtain ⟨y0,y1,y2,y3,y4,y5⟩:=KB.o.c6;go_wp2_with fail;refine (R9.o _).mono ?_;rintro _ w4 ⟨rfl,Js⟩;replace HB:=Bx.mk (tr HB.o Js);replace KG:=Bx.mk (KG.o.la Js);replace KB:=Bx.mk (KB.o.la Js);replace KT:=Bx.mk (KT.o.la Js);replace KR:=Bx.mk (KR.o.la Js);clear Js y0 y1 y2 y3 y4 y5 R9;obtain ⟨c0,c1,c2,c3,c4,c5,c6⟩:=KG.o.c7;go_wp2_with fail;refine (CW.o _ (Db.o.below HB.o)).mono ?_;rintro _ w5 ⟨sb,rfl,hS,K3⟩;have Na:=zAz n F0 [];have N2:=zAx Hn.o Cr.o zFq;have BI:Bx (MatI w (fun k=>k<w4.heap.size) sb 1000000 n F0 (zAv n F0 []) [] (.slice none 0 0) w5):=⟨⟨hS,fun j hj=>nll hj K3.size,fun j hj=>nll hj HB.o.size,tr HB.o K3,N2,Na,Cr.o,Ownv.nil _ _ _,fun g hg=>by cases hg⟩⟩
 have BK:=Bx.mk Na;have OY:=D7.o;have Du:=Bx.mk (KB.o.la K3);have EL:=Bx.mk (KT.o.la K3);have EE:=Bx.mk (KR.o.la K3);have B8:=Bx.mk (show w.heap.size+1+1+1<w4.heap.size from KR.o.lt);have Br:=Bx.mk K3.size;clear K3 hS c0 c1 c2 c3 c4 c5 c6 CW KG KB KT KR HB D7 Na N2 Db;generalize zAv n F0 []=Uj at *;go_upto_region 4 with fail;generalize hW:w5.alloc _=W6;have K4:=bl1 hW;have ks:Bk W6 w5.heap.size #[.pointer (some ⟨sb,0,none⟩)] 32:=bk0 hW
 have HI:Bx (TaI w (fun k=>k<w4.heap.size∨k=w5.heap.size) sb n F0 F0 Uj Uj b0 b1 b2 b3 b4 b5 stop w5.heap.size W6):=⟨⟨⟨(BI.o.st.widen (fun k hk=>by omega)).la K4,fun j hj=>(by
  have h1:=ks.lt;have h2:=Br.o;omega),fun j hj=>.inl (BI.o.old j hj),tr BI.o.bel K4,BI.o.good,BI.o.mem,BI.o.fn,Ownv.nil _ _ _,fun g hg=>by cases hg⟩,List.prefix_refl _,Du.o.la K4,EL.o.la K4,EE.o.la K4,ks,by have:=B8.o;omega,by have:=B8.o;have:=Br.o;omega⟩⟩
 clear hW K4 ks BI Du EL EE B8 Br;generalize (fun k=>k<w4.heap.size∨k=w5.heap.size)=Far0 at *;generalize w5.heap.size=sB at *;go_wp2_with fail
 go_loopw [17,18,72] (fun v17 v18 v72 wr => ∃ (i:Nat) (Fr:Nat→Prop) (F:Pt→Int) (ts:List Tr),i≤L.length∧v17 = .int .i64 (idn ts n F)∧v18 = .string (txt n F)∧v72 = .int .i64 i∧Bx (TaI w Fr sb n F0 F Uj ts b0 b1 b2 b3 b4 b5 stop sB wr∧ts.length≤3901+52000 * i)) (fun _ _ i _=>L.length - (intOf i).toNat)
 case atStart=>exact ⟨0,_,_,_,Nat.zero_le _,rfl,rfl,rfl,⟨HI.o,OY⟩⟩
 case round =>
  clear HI OY;obtain ⟨i,Fr,F,ts,hi,rfl,rfl,rfl,HI⟩:=hrel;by_cases hlt:i<L.length
  · --FAST{
    have t0:decide ((i:Int)<(L.length:Int))=true:=by simp;omega
    obtain ⟨s,hs⟩ : ∃ s,L[i]? = some s:=⟨_,lge hlt⟩;obtain ⟨bA,oA,rfl,LO,QE⟩:=DZ.o i s hs;have Mx:zE0 n s=true:=List.all_eq_true.1 CQ.o s (List.mem_of_getElem? hs)
    have N0:s.ys ≠ [] → ∀ b,s.ga.map (·.block)=some b→Fr b:=fun hy b hb=>by
     obtain ⟨x,r,hxr⟩:=List.exists_cons_of_ne_nil hy;obtain ⟨b',off,h1,h2⟩:=QE.ys 0 x (by rw [hxr];rfl)
     rw [h1] at hb;simp only [Option.map_some,Option.some.injEq] at hb;rw [←hb];exact HI.o.1.mi.old _ (World.block_lt_of_cell? w _ h2)
    have Tb:(0:Int)≤(i:Int):=by omega
    have Tc:(i:Int)<(L.length:Int):=by omega
    obtain ⟨AL,hA⟩ : ∃ AL,AL=s.arr.toList:=⟨_,rfl⟩;have Hj:AL.length=24:=by rw [hA];rfl
    have H6:Bx (AL.toArray.all (·.oneCell')=true):=⟨by rw [hA];simp [Value.oneCell']⟩
    have Nd:Bx ((Tryz.prog.info? 41).map (·.size)=some AL.length):=⟨by rw [Hj];kernel_rfl⟩
    have Nf:Bx ((Tryz.prog.info? 41).map (·.size)=some AL.toArray.size):=⟨by rw [List.size_toArray,Hj];kernel_rfl⟩
    have HR:Bx (wr.rangeAt bA (oA+i * 24) AL):=⟨fun j v hj=>cell_later HI.o.1.mi.bel (LO j v (by rw [hA] at hj;simpa using hj))⟩
    have Hh:s.arr=AL.toArray:=by rw [hA]
    have A1:=Bx.mk Hj;have Oj:ts.length≤500000:=by have:=HI.o.2;omega
    have DQ:=Bx.mk fun (W':World) (hb:Below w.heap.size w W') (A0:Nat→Prop) (h2 : ∀ k,Fr k→A0 k) IV hSt=>zKP Hn.o F HI.o.1.mi.fn s Mx sb 1000000 ts HI.o.1.mi.good (by omega) HI.o.1.mi.mem (fun F' h=>nlt ((zMo Hn.o HI.o.1.mi.fn Mx h).2 ts HI.o.1.mi.good HI.o.1.mi.mem) (by omega)) W' (QE.below hb) A0 (fun hy b hb=>h2 b (N0 hy b hb)) IV hSt
    have Dh:=Bx.mk fun (W':World) (hb:Below w.heap.size w W')=>zNU Hn.o F HI.o.1.mi.fn s Mx W' (QE.below hb);rw [Hh] at DQ Dh;have HFS:=Bx.mk Mx;clear hA Hj LO QE N0 Hh hs Mx
    go_upto_region 10 with (first
     | (refine wpList_load_mid rfl _ _ rfl bA (oA+i * 24) rfl AL _ HR.o Tryz.underlying41 rfl Nd.o ?_)
     | (refine zOd rfl _ _ _ rfl wr.heap.size rfl _ AL.toArray rfl 41 (heap_alloc_new _ _) Nf.o (by rw [show AL.toArray.size=24 by simp [A1.o]];rfl) H6.o ?_))
    generalize hW:World.setRow (World.alloc wr _) _ _=W1;have I1:Below wr.heap.size wr W1:=by rw [←hW];exact below_setRow bf (Nat.le_refl _) _
    have KS:=Bx.mk (show Bk W1 wr.heap.size AL.toArray 41 by rw [←hW];exact setRow_heap _ _ _ _ _ (0,0) (heap_alloc_new _ _))
    have HM:=Bx.mk (HI.o.1.wide I1 wr.heap.size nlr KS.o.lt);have HP:=Bx.mk (DQ.o W1 HM.o.mi.bel (fun k=>Fr k∨k=wr.heap.size) (fun k h=>.inl h) HM.o.mi.far HM.o.mi.st);have BD:=Bx.mk HI.o.2;have BG:=Bx.mk HI.o.1;clear hW H6 HR A1 DQ Nd HI I1;have x0:=HM.o.ks.cell 0 rfl;go_wp2_with (refine zOc rfl _ _ rfl wr.heap.size rfl _ _ KS.o _ Tryz.underlying41 rfl Nf.o ?_);refine HP.o.mono ?_;intro e2 W2 Qp;cases S4:zAB n F s with
    | none =>
      obtain ⟨rfl,Js⟩:=Qp.no S4;have OV:ts.length≤3901+52000 * (i+1):=nlt BD.o (Nat.add_le_add_left (Nat.mul_le_mul_left _ (Nat.le_succ i)) _);have HJ:Bx (TaI w (fun k=>Fr k∨k=wr.heap.size) sb n F0 F Uj ts b0 b1 b2 b3 b4 b5 stop sB W2∧ts.length≤3901+52000 * (i+1)):=⟨⟨HM.o.la Js,OV⟩⟩;clear Qp Js HP HM KS S4 OV x0 Dh;go_wp2_with fail
      go_roundw
      case rel=>exact ⟨i+1,_,F,ts,by omega,rfl,rfl,by go_num,HJ⟩
      case measure=>simp [intOf];omega
    | some F' =>
      have hd:=Qp.yes F' S4;have Rc:=zMo Hn.o BG.o.mi.fn HFS.o S4;have Oe:=Rc.2 ts BG.o.mi.good BG.o.mi.mem
      obtain ⟨rfl,J5⟩:e2=zLY (idn (zAv n F' ts) n F') 0∧StoreIs W2 (fun k=>Fr k∨k=wr.heap.size) sb 1000000 (zAv n F' ts):=by
       rcases hd.way with ⟨_,h2,h3⟩ | ⟨hn',_⟩
       · exact ⟨h2,h3⟩
       · exact absurd (.inr (by omega)) hn'
      have OV:(zAv n F' ts).length≤3901+52000 * (i+1):=by
       refine nlt Oe (nlt (Nat.add_le_add_right BD.o _) ?_);rw [Nat.mul_add,Nat.mul_one,Nat.add_assoc];exact nlr
      have BJ:=Bx.mk (HM.o.made hd.keeps J5 (zAx Hn.o Rc.1 BG.o.mi.good) (zAz n F' ts) Rc.1 (Tr.add_prefix _ _));have EJ:=Bx.mk ((hd.keeps.block _ (.inr rfl) KS.o.lt).trans KS.o);have HT:=Bx.mk (Dh.o W2 BJ.o.mi.bel);have Hst:=Bx.mk S4;have BA:=Bx.mk OV;clear x0 Qp hd Rc Oe J5 HM HP KS S4 OV Dh;go_wp2_with (refine zOc rfl _ _ rfl wr.heap.size rfl _ _ EJ.o _ Tryz.underlying41 rfl Nf.o ?_);refine HT.o.mono ?_;intro e3 W3 SG;obtain rfl:=SG.yes F' Hst.o;have HJ:Bx (TaI w (fun k=>Fr k∨k=wr.heap.size) sb n F0 F' Uj (zAv n F' ts) b0 b1 b2 b3 b4 b5 stop sB W3∧(zAv n F' ts).length≤3901+52000 * (i+1)):=⟨⟨BJ.o.la SG.bel,BA.o⟩⟩;clear SG BJ EJ HT BA;go_wp2_with fail
      go_roundw
      case rel=>exact ⟨i+1,_,F',zAv n F' ts,by omega,rfl,rfl,by go_num,HJ⟩
      case measure=>simp [intOf];omega
  · obtain rfl:i=L.length:=by omega
    have t0:decide ((L.length:Int)<(L.length:Int))=false:=by simp
    go_upto_region 15 with fail;have OU:ts.length≤4194304:=by have:=HI.o.2;omega
    have PR:trF n F0∈ts:=HI.o.1.pre.subset BK.o;have Nl:idn ts n F0=idn Uj n F0:=by unfold idn;rw [zZ HI.o.1.pre BK.o]
    have CA:=Bx.mk HI.o.1;have B9:=Bx.mk OU;have Ay:=Bx.mk Nl;have IW:=CA.o.mi.fn;have Gs:=Hn.o;have IY:=CA.o.mi.good;have PF:=CA.o.mi.mem;have Cn:=Bx.mk fun W (hS:StoreIs W Fr sb 1000000 ts)=>zNL 1000000 ts IY OU sb n Gs (trF n F0) (trF n F) PR PF W Fr hS;rw [show (idT ts (trF n F0):Int)=idn Uj n F0 from Nl] at Cn;rw [show (idT ts (trF n F):Int)=idn ts n F from rfl] at Cn;have DT:=Bx.mk fun W=>zKl Gs Cr.o.range IW.range W;rw [show strOfNums (Tr.enc (trF n F0))=txt n F0 from rfl,show strOfNums (Tr.enc (trF n F))=txt n F from rfl] at DT;have Oq:=zHa ts IY n n ⟨0,0,0⟩ (trF n F) (InT.top n) (zQ F n _) PF;have P1:=zHn (N:=n) (F:=F) IW.range;have Ok:(zl n ⟨0,0,0⟩ (trF n F)).length≤1000000000000:=nlt (zHk n _ _) (nlt (Nat.pow_le_pow_right (by decide) Gs) (by decide))
    have MH:(zER n ⟨0,0,0⟩ (trF n F0) (trF n F)).length≤1000000000000:=nlt (zES n _ _ _) (nlt (Nat.pow_le_pow_right (by decide) Gs) (by decide))
    have DV:=Bx.mk fun W=>zLg Gs IW.range W;rw [show strOfNums (Tr.enc (trF n F))=txt n F from rfl] at DV;have Dg:=Bx.mk fun W (hS:StoreIs W Fr sb 1000000 ts) (hc:Sl W .i64 ca cs)=>zNR 1000000 ts IY OU sb n Gs (trF n F) PF (zQ F n _) b0 b1 b2 b3 b4 b5 ca cc cs (by have:=Cd.o;omega) W hc Fr hS
    rw [show (idT ts (trF n F):Int)=idn ts n F from rfl] at Dg;have DU:=Bx.mk fun W (hc:Sl W .i64 ca cs)=>zF5 Gs (txt n F) ((n:Int)+2) b0 b1 b2 b3 b4 b5 (zl n ⟨0,0,0⟩ (trF n F)) (fun x hx=>⟨(Oq x hx).2.1,P1 x hx⟩) Ok ca cc cs (by have:=Cd.o;omega) W hc (fun W=>DV.o W)
    have Rb:(zl n ⟨0,0,0⟩ (trF n F)).any (zF9 ⟨⟨b0,b1,b2⟩,⟨b3,b4,b5⟩⟩ cs)=(zl n ⟨0,0,0⟩ (trF n F)).any (zGB ⟨⟨b0,b1,b2⟩,⟨b3,b4,b5⟩⟩ cs):=zBJ fun x hx=>zGC (P1 x hx);rw [Rb] at DU;have D8:=Bx.mk Ok;have HLF:=Bx.mk (show ∀ x∈zl n ⟨0,0,0⟩ (trF n F),LeafF x from fun x hx=>⟨nlt (Oq x hx).2.1.le Gs,P1 x hx⟩);have BH:=Bx.mk Oq;rw [←Cf.o] at Dg DU;generalize (zl n ⟨0,0,0⟩ (trF n F)).any (zGB ⟨⟨b0,b1,b2⟩,⟨b3,b4,b5⟩⟩ cs)=hw at *;generalize zER n ⟨0,0,0⟩ (trF n F0) (trF n F)=D at *;have DY:=Bx.mk fun (a1 a2:Option Addr) (c1 c2:Nat) W h1 h2=>zL6 a1 a2 c1 c2 D MH W h1 h2;have EK:=Bx.mk CA.o.ks;have Dz:=Bx.mk CA.o.kb;have Bz:=Bx.mk CA.o.mi.st;have Cl:=Bx.mk (Ch.o.below CA.o.mi.bel);clear HI PR Nl OU hi hlt IW Gs IY PF Oq P1 Ok MH Rb
    refine zOi 24 (fun i v w'=>match i with
     | 0=>v = .pointer (some ⟨sb,0,none⟩)
     | 1=>v = .int .i64 (idn Uj n F0)
     | 2=>v = .int .i64 (idn ts n F)
     | 3=>v = .int .i64 ((n:Int)+2)
     | 4=>DRow wr.heap.size D v w'
     | 5=>v = .string (txt n F0)
     | 6=>v = .string (txt n F)
     | 7=>v = .int .i64 ((n:Int)+2)
     | 8=>DRow wr.heap.size D v w'
     | 9=>v = .bool true
     | 10=>v = .bool false
     | 11=>v = .bool false
     | 12=>v = .pointer (some ⟨sb,0,none⟩)
     | 13=>v = .int .i64 (idn ts n F)
     | 14=>v = .int .i64 ((n:Int)+2)
     | 15=>v = .agg #[b0,b1,b2,b3,b4,b5]
     | 16=>v = .slice ca cn cc
     | 17=>v = .bool hw
     | 18=>v = .string (txt n F)
     | 19=>v = .int .i64 ((n:Int)+2)
     | 20=>v = .agg #[b0,b1,b2,b3,b4,b5]
     | 21=>v = .slice ca cn cc
     | 22=>v = .bool hw
     | _=>v = .bool false) (by kernel_rfl) (by kernel_rfl) 224 (by kernel_rfl) (by rfl) ?_ ?_ ?_ ?_
    · intro i o g b hi ho hg v w h
      match i,hi with
      | 0,_=>obtain rfl:=osi ho;cases hg
      | 1,_=>obtain rfl:=osi ho;cases hg
      | 2,_=>obtain rfl:=osi ho;cases hg
      | 3,_=>obtain rfl:=osi ho;cases hg
      | 4,_=>obtain rfl:=osi ho;cases hg
      | 5,_=>obtain rfl:=osi ho;cases hg
      | 6,_=>obtain rfl:=osi ho;cases hg
      | 7,_=>obtain rfl:=osi ho;cases hg
      | 8,_=>obtain rfl:=osi ho;cases hg
      | 9,_=>obtain rfl:=osi ho;cases hg
      | 10,_=>obtain rfl:=osi ho;cases hg
      | 11,_=>obtain rfl:=osi ho;cases hg
      | 12,_=>obtain rfl:=osi ho;obtain ⟨rfl,rfl⟩:=Prod.mk.inj (osi hg);exact h
      | 13,_=>obtain rfl:=osi ho;obtain ⟨rfl,rfl⟩:=Prod.mk.inj (osi hg);exact h
      | 14,_=>obtain rfl:=osi ho;obtain ⟨rfl,rfl⟩:=Prod.mk.inj (osi hg);exact h
      | 15,_=>obtain rfl:=osi ho;obtain ⟨rfl,rfl⟩:=Prod.mk.inj (osi hg);exact h
      | 16,_=>obtain rfl:=osi ho;obtain ⟨rfl,rfl⟩:=Prod.mk.inj (osi hg);exact h
      | 17,_=>obtain rfl:=osi ho;obtain ⟨rfl,rfl⟩:=Prod.mk.inj (osi hg);exact h
      | 18,_=>obtain rfl:=osi ho;obtain ⟨rfl,rfl⟩:=Prod.mk.inj (osi hg);exact h
      | 19,_=>obtain rfl:=osi ho;obtain ⟨rfl,rfl⟩:=Prod.mk.inj (osi hg);exact h
      | 20,_=>obtain rfl:=osi ho;obtain ⟨rfl,rfl⟩:=Prod.mk.inj (osi hg);exact h
      | 21,_=>obtain rfl:=osi ho;obtain ⟨rfl,rfl⟩:=Prod.mk.inj (osi hg);exact h
      | 22,_=>obtain rfl:=osi ho;obtain ⟨rfl,rfl⟩:=Prod.mk.inj (osi hg);exact h
      | 23,_=>obtain rfl:=osi ho;obtain ⟨rfl,rfl⟩:=Prod.mk.inj (osi hg);exact h
      | k24+24,hk24=>exact absurd hk24 (by omega)
    · intro i hi v u1 u2 hb h
      match i,hi with
      | 0,_=>exact h
      | 1,_=>exact h
      | 2,_=>exact h
      | 3,_=>exact h
      | 4,_=>exact h.la hb
      | 5,_=>exact h
      | 6,_=>exact h
      | 7,_=>exact h
      | 8,_=>exact h.la hb
      | 9,_=>exact h
      | 10,_=>exact h
      | 11,_=>exact h
      | 12,_=>exact h
      | 13,_=>exact h
      | 14,_=>exact h
      | 15,_=>exact h
      | 16,_=>exact h
      | 17,_=>exact h
      | 18,_=>exact h
      | 19,_=>exact h
      | 20,_=>exact h
      | 21,_=>exact h
      | 22,_=>exact h
      | 23,_=>exact h
      | k+24,hk=>exact absurd hk (by omega)
    · --FAST{
      intro i o hi ho ρ w1 hb L3 L5 L6 hk
      match i,hi with
      | 0, _ =>
        obtain rfl:=osi ho;have g0:ρ (.tmp 13) = .pointer (some ⟨sB,0,none⟩):=hk 13 (by simp)
        have k1:=EK.o.la hb;have z0:=k1.cell 0 rfl;clear hk hb BK CA B9 Ay Cn DT DV Dg DU D8 DY EK Dz Bz Cl DZ Ch Cd Cr Hn CQ Cf;go_simp;exact br
      | 1, _ =>
        obtain rfl:=osi ho;have g0:ρ (.tmp 14) = .int .i64 (idn Uj n F0):=hk 14 (by simp)
        clear hk hb BK CA B9 Ay Cn DT DV Dg DU D8 DY EK Dz Bz Cl DZ Ch Cd Cr Hn CQ Cf;go_simp;exact br
      | 2, _ =>
        obtain rfl:=osi ho;have g0:ρ (.tmp 17) = .int .i64 (idn ts n F):=hk 17 (by simp)
        clear hk hb BK CA B9 Ay Cn DT DV Dg DU D8 DY EK Dz Bz Cl DZ Ch Cd Cr Hn CQ Cf;go_simp;exact br
      | 3, _ =>
        obtain rfl:=osi ho;have g0:ρ (.tmp 1) = .int .i64 ((n:Int)+2):=hk 1 (by simp)
        clear hk hb BK CA B9 Ay Cn DT DV Dg DU D8 DY EK Dz Bz Cl DZ Ch Cd Cr Hn CQ Cf;go_simp;exact br
      | 4, _ =>
        obtain rfl:=osi ho;have g0:ρ (.tmp 95) = .pointer (some ⟨sb,0,none⟩):=hk 95 (by simp)
        have g1:ρ (.tmp 96) = .int .i64 (idn Uj n F0):=hk 96 (by simp)
        have g2:ρ (.tmp 97) = .int .i64 (idn ts n F):=hk 97 (by simp)
        have g3:ρ (.tmp 98) = .int .i64 ((n:Int)+2):=hk 98 (by simp)
        have h4:=(Cn.o w1 (Bz.o.la hb)).mono (fun e w2 h=>(show ∃ v,e = .returned v∧Below w1.heap.size w1 w2∧DRow wr.heap.size D v w2 by obtain ⟨v,h1,h2,h3⟩:=h;exact ⟨v,h1,h3,World.ownsRow.mono h2 hb.size⟩))
        have H4:=Bx.mk h4;clear h4;clear hk hb BK CA B9 Ay Cn DT DV Dg DU D8 DY EK Dz Bz Cl DZ Ch Cd Cr Hn CQ Cf;go_simp
        all_goals exact H4.o
      | 5, _ =>
        obtain rfl:=osi ho;have g0:ρ (.tmp 15) = .string (txt n F0):=hk 15 (by simp)
        clear hk hb BK CA B9 Ay Cn DT DV Dg DU D8 DY EK Dz Bz Cl DZ Ch Cd Cr Hn CQ Cf;go_simp;exact br
      | 6, _ =>
        obtain rfl:=osi ho;have g0:ρ (.tmp 18) = .string (txt n F):=hk 18 (by simp)
        clear hk hb BK CA B9 Ay Cn DT DV Dg DU D8 DY EK Dz Bz Cl DZ Ch Cd Cr Hn CQ Cf;go_simp;exact br
      | 7, _ =>
        obtain rfl:=osi ho;have g0:ρ (.tmp 1) = .int .i64 ((n:Int)+2):=hk 1 (by simp)
        clear hk hb BK CA B9 Ay Cn DT DV Dg DU D8 DY EK Dz Bz Cl DZ Ch Cd Cr Hn CQ Cf;go_simp;exact br
      | 8, _ =>
        obtain rfl:=osi ho;have g0:ρ (.tmp 100) = .string (txt n F0):=hk 100 (by simp)
        have g1:ρ (.tmp 101) = .string (txt n F):=hk 101 (by simp)
        have g2:ρ (.tmp 102) = .int .i64 ((n:Int)+2):=hk 102 (by simp)
        have h4:=(DT.o w1).mono (fun e w2 h=>(show ∃ v,e = .returned v∧Below w1.heap.size w1 w2∧DRow wr.heap.size D v w2 by obtain ⟨v,h1,h2,h3⟩:=h;exact ⟨v,h1,h3,World.ownsRow.mono h2 hb.size⟩))
        have H4:=Bx.mk h4;clear h4;clear hk hb BK CA B9 Ay Cn DT DV Dg DU D8 DY EK Dz Bz Cl DZ Ch Cd Cr Hn CQ Cf;go_simp
        all_goals exact H4.o
      | 9, _ =>
        obtain rfl:=osi ho;have d0:DRow wr.heap.size D (ρ (.tmp 99)) w1:=hk 99 (by simp)
        have d1:DRow wr.heap.size D (ρ (.tmp 103)) w1:=hk 103 (by simp)
        obtain ⟨a1,c1,g0,s1⟩:=zDl d0;obtain ⟨a2,c2,g1,s2⟩:=zDl d1;have h4:=DY.o a1 a2 c1 c2 w1 s1 s2;have H4:=Bx.mk h4;clear h4 d0 d1 s1 s2;clear hk hb BK CA B9 Ay Cn DT DV Dg DU D8 DY EK Dz Bz Cl DZ Ch Cd Cr Hn CQ Cf;go_simp
        all_goals exact H4.o
      | 10, _ =>
        obtain rfl:=osi ho;have g0:ρ (.tmp 104) = .bool true:=hk 104 (by simp)
        clear hk hb BK CA B9 Ay Cn DT DV Dg DU D8 DY EK Dz Bz Cl DZ Ch Cd Cr Hn CQ Cf;go_simp;exact br
      | 11, _ =>
        obtain rfl:=osi ho;have g0:ρ (.tmp 105) = .bool false:=hk 105 (by simp)
        clear hk hb BK CA B9 Ay Cn DT DV Dg DU D8 DY EK Dz Bz Cl DZ Ch Cd Cr Hn CQ Cf;go_simp;exact br
      | 12, _ =>
        obtain rfl:=osi ho;have g0:ρ (.tmp 13) = .pointer (some ⟨sB,0,none⟩):=hk 13 (by simp)
        have k1:=EK.o.la hb;have z0:=k1.cell 0 rfl;clear hk hb BK CA B9 Ay Cn DT DV Dg DU D8 DY EK Dz Bz Cl DZ Ch Cd Cr Hn CQ Cf;go_simp;exact br
      | 13, _ =>
        obtain rfl:=osi ho;have g0:ρ (.tmp 17) = .int .i64 (idn ts n F):=hk 17 (by simp)
        clear hk hb BK CA B9 Ay Cn DT DV Dg DU D8 DY EK Dz Bz Cl DZ Ch Cd Cr Hn CQ Cf;go_simp;exact br
      | 14, _ =>
        obtain rfl:=osi ho;have g0:ρ (.tmp 1) = .int .i64 ((n:Int)+2):=hk 1 (by simp)
        clear hk hb BK CA B9 Ay Cn DT DV Dg DU D8 DY EK Dz Bz Cl DZ Ch Cd Cr Hn CQ Cf;go_simp;exact br
      | 15, _ =>
        obtain rfl:=osi ho;have g0:ρ (.tmp 9) = .pointer (some ⟨w.heap.size+1,0,none⟩):=hk 9 (by simp)
        have k1:=Dz.o.la hb;obtain ⟨z0,z1,z2,z3,z4,z5⟩:=k1.c6;clear hk hb BK CA B9 Ay Cn DT DV Dg DU D8 DY EK Dz Bz Cl DZ Ch Cd Cr Hn CQ Cf;go_simp;exact br
      | 16, _ =>
        obtain rfl:=osi ho;have g0:ρ (.tmp 4) = .slice ca cn cc:=hk 4 (by simp)
        clear hk hb BK CA B9 Ay Cn DT DV Dg DU D8 DY EK Dz Bz Cl DZ Ch Cd Cr Hn CQ Cf;go_simp;exact br
      | 17, _ =>
        obtain rfl:=osi ho;have g0:ρ (.tmp 107) = .pointer (some ⟨sb,0,none⟩):=hk 107 (by simp)
        have g1:ρ (.tmp 108) = .int .i64 (idn ts n F):=hk 108 (by simp)
        have g2:ρ (.tmp 109) = .int .i64 ((n:Int)+2):=hk 109 (by simp)
        have g3:ρ (.tmp 110) = .agg #[b0,b1,b2,b3,b4,b5]:=hk 110 (by simp)
        have g4:ρ (.tmp 111) = .slice ca cn cc:=hk 111 (by simp)
        have h4:=Dg.o w1 (Bz.o.la hb) (Cl.o.below hb);have H4:=Bx.mk h4;clear h4;clear hk hb BK CA B9 Ay Cn DT DV Dg DU D8 DY EK Dz Bz Cl DZ Ch Cd Cr Hn CQ Cf;go_simp
        all_goals exact H4.o
      | 18, _ =>
        obtain rfl:=osi ho;have g0:ρ (.tmp 18) = .string (txt n F):=hk 18 (by simp)
        clear hk hb BK CA B9 Ay Cn DT DV Dg DU D8 DY EK Dz Bz Cl DZ Ch Cd Cr Hn CQ Cf;go_simp;exact br
      | 19, _ =>
        obtain rfl:=osi ho;have g0:ρ (.tmp 1) = .int .i64 ((n:Int)+2):=hk 1 (by simp)
        clear hk hb BK CA B9 Ay Cn DT DV Dg DU D8 DY EK Dz Bz Cl DZ Ch Cd Cr Hn CQ Cf;go_simp;exact br
      | 20, _ =>
        obtain rfl:=osi ho;have g0:ρ (.tmp 9) = .pointer (some ⟨w.heap.size+1,0,none⟩):=hk 9 (by simp)
        have k1:=Dz.o.la hb;obtain ⟨z0,z1,z2,z3,z4,z5⟩:=k1.c6;clear hk hb BK CA B9 Ay Cn DT DV Dg DU D8 DY EK Dz Bz Cl DZ Ch Cd Cr Hn CQ Cf;go_simp;exact br
      | 21, _ =>
        obtain rfl:=osi ho;have g0:ρ (.tmp 4) = .slice ca cn cc:=hk 4 (by simp)
        clear hk hb BK CA B9 Ay Cn DT DV Dg DU D8 DY EK Dz Bz Cl DZ Ch Cd Cr Hn CQ Cf;go_simp;exact br
      | 22, _ =>
        obtain rfl:=osi ho;have g0:ρ (.tmp 113) = .string (txt n F):=hk 113 (by simp)
        have g1:ρ (.tmp 114) = .int .i64 ((n:Int)+2):=hk 114 (by simp)
        have g2:ρ (.tmp 115) = .agg #[b0,b1,b2,b3,b4,b5]:=hk 115 (by simp)
        have g3:ρ (.tmp 116) = .slice ca cn cc:=hk 116 (by simp)
        have h4:=DU.o w1 (Cl.o.below hb);have H4:=Bx.mk h4;clear h4;clear hk hb BK CA B9 Ay Cn DT DV Dg DU D8 DY EK Dz Bz Cl DZ Ch Cd Cr Hn CQ Cf;go_simp
        all_goals exact H4.o
      | 23, _ =>
        obtain rfl:=osi ho;have g0:ρ (.tmp 112) = .bool hw:=hk 112 (by simp)
        have g1:ρ (.tmp 117) = .bool hw:=hk 117 (by simp)
        have Ph:(hw != hw)=false:=by cases hw <;> rfl
        clear hk hb BK CA B9 Ay Cn DT DV Dg DU D8 DY EK Dz Bz Cl DZ Ch Cd Cr Hn CQ Cf;go_simp;exact br
      | k24+24,hk24=>exact absurd hk24 (by omega)
    · intro vs W1 Od hb hR
      match vs,Od with
      | [v0, v1, v2, v3, v4, v5, v6, v7, v8, v9, v10, v11, v12, v13, v14, v15, v16, v17, v18, v19, v20, v21, v22, v23], _ =>
        have r0:v0 = .pointer (some ⟨sb,0,none⟩):=hR 0 v0 rfl;have r1:v1 = .int .i64 (idn Uj n F0):=hR 1 v1 rfl;have r2:v2 = .int .i64 (idn ts n F):=hR 2 v2 rfl;have r3:v3 = .int .i64 ((n:Int)+2):=hR 3 v3 rfl;have r5:v5 = .string (txt n F0):=hR 5 v5 rfl;have r6:v6 = .string (txt n F):=hR 6 v6 rfl;have r7:v7 = .int .i64 ((n:Int)+2):=hR 7 v7 rfl;have r9:v9 = .bool true:=hR 9 v9 rfl;have UW:v10 = .bool false:=hR 10 v10 rfl;have UX:v11 = .bool false:=hR 11 v11 rfl;have UY:v12 = .pointer (some ⟨sb,0,none⟩):=hR 12 v12 rfl;have UZ:v13 = .int .i64 (idn ts n F):=hR 13 v13 rfl;have r14:v14 = .int .i64 ((n:Int)+2):=hR 14 v14 rfl;have r15:v15 = .agg #[b0,b1,b2,b3,b4,b5]:=hR 15 v15 rfl;have r16:v16 = .slice ca cn cc:=hR 16 v16 rfl;have r17:v17 = .bool hw:=hR 17 v17 rfl;have r18:v18 = .string (txt n F):=hR 18 v18 rfl;have r19:v19 = .int .i64 ((n:Int)+2):=hR 19 v19 rfl;have r20:v20 = .agg #[b0,b1,b2,b3,b4,b5]:=hR 20 v20 rfl;have r21:v21 = .slice ca cn cc:=hR 21 v21 rfl;have r22:v22 = .bool hw:=hR 22 v22 rfl;have r23:v23 = .bool false:=hR 23 v23 rfl;clear hR;subst r0 r1 r2 r3 r5 r6 r7 r9 UW UX UY UZ r14 r15 r16 r17 r18 r19 r20 r21 r22 r23;simp only [zKg,List.take_succ_cons,List.take_zero,List.drop_succ_cons,List.drop_zero,List.map_cons,List.map_nil,List.zip_cons_cons,List.zip_nil_right,List.foldl_cons,List.foldl_nil];simp only [Act.put,List.setIfInBounds_toArray,List.set_cons_succ,List.set_cons_zero];have C0:=Bx.mk (CA.o.la hb);clear hb Cn DT Dg DU DY EK Dz Bz CA Cl;have x0:=C0.o.kt.cell 0 rfl;obtain ⟨iT,Ni,TQ,TR,TS⟩ : ∃ i,Tryz.prog.info? 3=some i∧i.zero=some (.int .i64 0)∧i.size=1∧i.bytes=8:=⟨_,rfl,rfl,rfl,rfl⟩;have Aj:=Bx.mk Ni;have CK:=Bx.mk TQ;have CL:=Bx.mk TR;have CM:=Bx.mk TS;have CZ:=Bx.mk ((Ch.o.below C0.o.mi.bel).below ((Below.refl W1.heap.size W1).alloc nlr (.cells #[stop] 3)));have L7:cn≤300:=by rw [Cf.o];exact Cd.o
        clear Ni TQ TR TS;go_upto_region 18 with (at_builtin;refine zOZ rfl _ _ 26 rfl W1.heap.size 3 iT _ 1 8 Tryz.underlying26 Aj.o CK.o CL.o CM.o rfl (by decide) (.slice (some ⟨W1.heap.size,0,none⟩) 1 1) 1 [.int .i64 stop] (by rfl) (World.ownsRow_lit W1 #[stop] 1 (Nat.le_refl _) (by decide) rfl) ca cn cc (cs.map (.int .i64)) (by rfl) (by rw [List.length_map,Nat.mul_one];exact Cf.o.symm) (sl_src CZ.o) (fun y hy=>by obtain ⟨z,_,rfl⟩:=List.mem_map.1 hy;rfl) (by simp only [maxLen];omega) (by omega) (by simp) ?_;intro v2 W2 QS N4;obtain ⟨va,vc,rfl,_,_,LO⟩:=zJk QS)
        have A4:=Bx.mk (show Below W1.heap.size W1 W2 from ((Below.refl W1.heap.size W1).alloc (Nat.le_refl _) _).grown N4 (by simp) (fun k hk=>by simp [Value.ownBlock] at hk;omega))
        have AQ:=Bx.mk (show ∀ (k:Nat) (x:Int),(stop::cs)[k]? = some x → ∃ g,va=some ⟨g,0,none⟩∧W2.cell? ⟨g,k,none⟩=some (.int .i64 x) from fun k x hx=>LO k (.int .i64 x) (by
         rw [show ([Value.int .i64 stop]++cs.map (Value.int .i64))=(stop::cs).map (Value.int .i64) from rfl,List.getElem?_map,hx];rfl))
        have C1:=Bx.mk (C0.o.la A4.o);clear QS N4 LO A4 x0 Aj CK CL CM CZ C0;have L8:1+cn≤301:=by omega
        have Ci:=Bx.mk fun (c:Int) W h=>zNK 1000000 ts C1.o.mi.good B9.o sb n Hn.o (trF n F) C1.o.mi.mem (zQ F n _) c W Fr h;have Cg:=Bx.mk fun (c:Int) W=>zDf (txt n F) ((n:Int)+2) c (zl n ⟨0,0,0⟩ (trF n F)) HLF.o D8.o W (fun W=>DV.o W);clear L7;go_wp2_with fail
        go_loopw [125] (fun v125 wr => ∃ k:Nat,k≤1+cn∧v125 = .int .i64 k∧Bx (Below W2.heap.size W2 wr)) (fun i _=>(1+cn) - (intOf i).toNat)
        case atStart=>exact ⟨0,Nat.zero_le _,rfl,⟨br⟩⟩
        case round =>
         obtain ⟨k,hk,rfl,HB⟩:=hrel;by_cases hlt:k<1+cn
         · --FAST{
           have t0:decide ((k:Int)<1+(cn:Int))=true:=by simp;omega
           obtain ⟨x,hx⟩ : ∃ x,(stop::cs)[k]? = some x:=⟨_,lge (by have:=Cf.o;simp;omega)⟩
           obtain ⟨g,rfl,hg⟩:=AQ.o k x hx;have NE:=cell_later HB.o hg;have Tb:(0:Int)≤(k:Int):=by omega
           have Tc:(k:Int)<1+(cn:Int):=by omega
           have kb3:(k:Int)<((1+cn:Nat):Int):=by omega
           have x0:=(C1.o.ks.la HB.o).cell 0 rfl;have La:=Bx.mk (Ci.o x _ (C1.o.mi.st.la HB.o));rw [show (idT ts (trF n F):Int)=idn ts n F from rfl] at La;have Lb:=Bx.mk fun W=>Cg.o x W;generalize zC7 x (zl n ⟨0,0,0⟩ (trF n F))=cv at *;have Ck:=Bx.mk fun W=>(show Calls Tryz.prog 24 #[.string (txt n F),((n:Int)+2:Int),x] W fun e w'=>e = .returned cv∧Below W.heap.size W w' from Lb.o W);clear hx hg Lb;go_wp2_with fail;refine La.o.mono ?_;rintro _ w7 ⟨rfl,K5⟩;have AA:=Bx.mk (tr HB.o K5);clear K5 NE x0 La;go_wp2_with fail;refine (Ck.o _).mono ?_;rintro _ w8 ⟨rfl,K6⟩;have HB8:=Bx.mk (tr AA.o K6);have tne:(cv != cv)=false:=by simp
           clear K6 AA Ck;go_wp2_with fail
           go_roundw
           case rel=>exact ⟨k+1,by omega,by go_num,HB8⟩
           case measure=>simp [intOf];omega
         · obtain rfl:k=1+cn:=by omega
           have t0:decide (((1+cn:Nat):Int)<1+(cn:Int))=false:=by simp
           have C2:=Bx.mk (C1.o.la HB.o);clear C1 HB AQ Ci Cg hk hlt;have x0:=C2.o.ks.cell 0 rfl;have Qy : ∀ W p1 p2 p3,(binOp .eql 59 (.func (.func 83) #[] #[.pointer (some ⟨p1,0,none⟩),.pointer (some ⟨p2,0,none⟩),.pointer (some ⟨p3,0,none⟩)]) .nilFunc).run Tryz.prog W = .ok (.bool false) W:=fun W p1 p2 p3=>by rfl
           go_wp2_with (go_at_call 25;refine (zNS _ _ _ _).mono ?_;rintro _ _ ⟨rfl,rfl⟩);generalize hW4:((wr.alloc _).alloc _).alloc _=W4;have Jz:=bl3 hW4;have EN:=Bx.mk (show Bk W4 wr.heap.size #[.pointer (some ⟨sb,0,none⟩)] 32 by rw [←hW4];exact zD (zD (zC _ _ _ (by simp))))
           have EP:=Bx.mk (show Bk W4 (wr.heap.size+1) #[(idT ts (trF n F):Int)] 3 by rw [←hW4];exact zD (zC _ _ _ (by simp)))
           have ER:=Bx.mk (show Bk W4 (wr.heap.size+1+1) #[((n:Int)+2:Int)] 3 by rw [←hW4];exact zC _ _ _ (by simp))
           have C3:=Bx.mk (C2.o.la Jz);have HGB:=Bx.mk (show sB<wr.heap.size from C2.o.ks.lt);clear hW4 Jz x0 Qy C2;generalize wr.heap.size=lB at *;refine (DV.o _).mono ?_;rintro _ W5 ⟨v5,rfl,Q8,K3⟩;obtain ⟨wa,wc,rfl,P8⟩:=zH2 Q8;have BE:=Bx.mk P8;have A8:=Bx.mk K3;clear Q8 P8 K3;obtain ⟨nl,Pu⟩ : ∃ nl,nl=(zl n ⟨0,0,0⟩ (trF n F)).length:=⟨_,rfl⟩;rw [←Pu];have DH:=Bx.mk Pu;clear Pu;go_upto_region 28 with fail;generalize hW6:W5.alloc _=W6;have K4:=bl1 hW6;have EU:=Bx.mk (show Bk W6 W5.heap.size #[.slice wa nl wc] 61 by rw [←hW6];exact zC _ _ _ rfl)
           have K0:=tr A8.o K4;have C4:=Bx.mk (C3.o.la K0);have EO:=Bx.mk (EN.o.la K0);have EQ:=Bx.mk (EP.o.la K0);have ES:=Bx.mk (ER.o.la K0);have BF:=Bx.mk (BE.o.la K4);have HLs:=Bx.mk (show lB+1+1<W6.heap.size from ES.o.lt);clear hW6 K4 K0 C3 EN EP ER BE A8;generalize W5.heap.size=wB at *
           refine wp_loop (fun a' w' => ∃ (r:Nat) (Ds:List Nat) (Uw Ux Uk Ul Um Un Uo Up Uq Ur Us Ut Uu Uv:Value),r≤2∧a'={ tmps:=#[.agg #[.int .i64 a,.int .i64 b,.int .i64 c,.int .i64 d,.int .i64 e,.int .i64 f,.slice ha xs.length hcp],.int .i64 ((n:Int)+2),.slice la L.length lc,.agg #[.int .i64 b0,.int .i64 b1,.int .i64 b2,.int .i64 b3,.int .i64 b4,.int .i64 b5],.slice ca cn cc,.int .i64 stop,.pointer (some ⟨w.heap.size,0,none⟩),undef,undef,.pointer (some ⟨w.heap.size+1,0,none⟩),undef,.pointer (some ⟨w.heap.size+1+1,0,none⟩),.pointer (some ⟨w.heap.size+1+1+1,0,none⟩),.pointer (some ⟨sB,0,none⟩),.int .i64 (idn Uj n F0),.string (txt n F0),.bool true,.int .i64 (idn ts n F),.string (txt n F),undef,u20,u21,u22,undef,u24,.func (.func 83) #[] #[.pointer (some ⟨lB,0,none⟩),.pointer (some ⟨lB+1+1,0,none⟩),.pointer (some ⟨lB+1,0,none⟩)],.pointer (some ⟨wB,0,none⟩),Uw,Ux,undef,undef,undef,undef,undef,undef,.agg #[.int .i64 a,.int .i64 b,.int .i64 c,.int .i64 d,.int .i64 e,.int .i64 f,.slice ha xs.length hcp],.int .i64 ((n:Int)+2),.slice la L.length lc,.bool true,.bool false,.bool false,.slice ca cn cc,.int .i64 (cn:Int),.bool false,.bool false,.bool false,.pointer (some ⟨w.heap.size+1,0,none⟩),.agg #[.int .i64 b0,.int .i64 b1,.int .i64 b2],.bool true,.bool false,.bool false,.bool false,.pointer (some ⟨w.heap.size+1,3,none⟩),.agg #[.int .i64 b3,.int .i64 b4,.int .i64 b5],.bool true,.bool false,.bool false,undef,.tuple #[.pointer (some ⟨sb,0,none⟩),.int .i64 (idn Uj n F0),.string (txt n F0),.bool true],.agg #[.int .i64 a,.int .i64 b,.int .i64 c,.int .i64 d,.int .i64 e,.int .i64 f,.slice ha xs.length hcp],.int .i64 ((n:Int)+2),.tuple #[.pointer (some ⟨sb,0,none⟩),.int .i64 (idn Uj n F0),.string (txt n F0),.bool true],.pointer (some ⟨sb,0,none⟩),.int .i64 (idn Uj n F0),.string (txt n F0),.bool true,.bool true,.bool false,.int .i64 (idn Uj n F0),.string (txt n F0),.slice la L.length lc,.int .i64 (L.length:Int),.int .i64 (L.length:Int),.bool false,u74,u75,u76,u77,u78,u79,u80,u81,u82,u83,u84,u85,u86,u87,u88,u89,u90,u91,u92,u93,u94,.pointer (some ⟨sb,0,none⟩),.int .i64 (idn Uj n F0),.int .i64 (idn ts n F),.int .i64 ((n:Int)+2),v4,.string (txt n F0),.string (txt n F),.int .i64 ((n:Int)+2),v8,.bool true,.bool false,.bool false,.pointer (some ⟨sb,0,none⟩),.int .i64 (idn ts n F),.int .i64 ((n:Int)+2),.agg #[.int .i64 b0,.int .i64 b1,.int .i64 b2,.int .i64 b3,.int .i64 b4,.int .i64 b5],.slice ca cn cc,.bool hw,.string (txt n F),.int .i64 ((n:Int)+2),.agg #[.int .i64 b0,.int .i64 b1,.int .i64 b2,.int .i64 b3,.int .i64 b4,.int .i64 b5],.slice ca cn cc,.bool hw,.bool false,.bool false,.int .i64 stop,.slice (some ⟨W1.heap.size,0,none⟩) 1 1,.slice ca cn cc,.slice va (1+cn) vc,.int .i64 (1+(cn:Int)),.int .i64 (1+(cn:Int)),.bool false,u127,u128,u129,u130,u131,u132,u133,u134,u135,u136,u137,u138,u139,.pointer (some ⟨sb,0,none⟩),.int .i64 (idn ts n F),.int .i64 ((n:Int)+2),.func (.func 83) #[] #[.pointer (some ⟨lB,0,none⟩),.pointer (some ⟨lB+1+1,0,none⟩),.pointer (some ⟨lB+1,0,none⟩)],.func (.func 83) #[] #[.pointer (some ⟨lB,0,none⟩),.pointer (some ⟨lB+1+1,0,none⟩),.pointer (some ⟨lB+1,0,none⟩)],.bool false,.string (txt n F),.int .i64 ((n:Int)+2),.slice wa nl wc,.int .i64 (r:Int),Uk,Ul,Um,undef,undef,undef,undef,undef,undef,undef,undef,undef,undef,undef,undef,undef,undef,undef,undef,undef,undef,undef,undef,undef,undef,undef,undef,undef,undef,undef,undef,undef,undef,undef,undef,undef,undef,undef,Un,Uo,Up,Uq,Ur,Us,Ut,Uu,Uv,undef,undef,undef,undef,undef,undef,undef,undef,undef,undef,undef,undef,undef,undef,undef,undef,undef,undef,undef,undef,undef,undef,undef,undef,undef,undef,undef],defers:=Ds.map dd }∧Bx (TaL W6 r Ds w')) (fun a' _=>2 - (intOf (a'.tmps.getD 149 undef)).toNat) ⟨0,[],undef,undef,undef,undef,undef,undef,undef,undef,undef,undef,undef,undef,undef,undef,by omega,rfl,⟨br,.nil,fun D hD=>by cases hD⟩⟩ ?_
           rintro _ wr ⟨r,Ds,Uw,Ux,Uk,Ul,Um,Un,Uo,Up,Uq,Ur,Us,Ut,Uu,Uv,R9,rfl,HI⟩;by_cases hlt:r<2
           · have t0:decide ((r:Int)<2)=true:=by simp;omega
             go_upto_region 31 with fail;generalize hW7:(wr.alloc _).alloc _=W7;have K5:=bl2 hW7;have kR:Bk W7 wr.heap.size #[(r:Int)] 3:=bk1 hW7;have kC:Bk W7 (wr.heap.size+1) #[(0:Int)] 3:=bk0 hW7;have Ar:=Bx.mk (HI.o.la K5);have Ag:=Bx.mk (show W6.heap.size≤wr.heap.size from HI.o.bel.size);clear hW7 K5 HI;generalize wr.heap.size=rB at *;have EF:=Bx.mk kR;have E0:=Bx.mk kC;have HL7:=Bx.mk (show rB+1<W7.heap.size from kC.lt);clear kR kC;go_wp2_with fail;have C5:=Bx.mk (C4.o.la Ar.o.bel);have J2:StoreIs W7 (fun k=>k=rB+1∨W7.heap.size≤k) sb 1000000 ts:=(((C4.o.mi.st.less (Far:=fun _=>False) (fun k h=>h.elim)).widen (Far':=fun k=>W6.heap.size≤k) (fun k hk=>.inr hk)).la Ar.o.bel).less (fun k hk=>by have:=Ar.o.bel.size;have:=Ag.o;show W6.heap.size≤k;rcases hk with rfl | hk <;> omega)
             have hlL:=HLs.o;have hG6:=Ag.o;have hL7:=HL7.o;have Rh:=zHo (fun k=>k=rB+1) W7.heap.size lB (lB+1+1) (lB+1) sb n Hn.o 1000000 ts C5.o.mi.good B9.o (trF n F) C5.o.mi.mem (zQ F n _) (5 - 1) W7 (EO.o.la Ar.o.bel) (ES.o.la Ar.o.bel) (EQ.o.la Ar.o.bel) J2 (by omega) (by intro k hk;omega) nlr
             clear hlL hG6 hL7 J2;refine (wpIn_wide (n:=5)).1 ?_
             refine wpIn_rangeFunc_ownH rfl (by decide) (gf:=83) (lb:=#[.pointer (some ⟨lB,0,none⟩),.pointer (some ⟨lB+1+1,0,none⟩),.pointer (some ⟨lB+1,0,none⟩)]) rfl trivial (enters_of Tryz.func83 (by kernel_rfl) rfl)
              Rh KpE.trans (fun W l o o' hl h hc _=>KpE.putObj W l o o' hl h hc) br (fun _=>rfl)
              (fun (pre:List { x // x∈zl n ⟨0,0,0⟩ (trF n F) }) W=>(Bk W (rB+1) #[(pre.length:Int)] 3∧KpE (fun k=>k=rB+1) W7.heap.size W7 W)∧pre.map (·.1)=(zl n ⟨0,0,0⟩ (trF n F)).take pre.length)
              (fun c (pre:List { x // x∈zl n ⟨0,0,0⟩ (trF n F) }) W=>(c = .ret ∧ ¬(pre.map (·.1) <+: zl n ⟨0,0,0⟩ (trF n F)))∨((c = .exit 6∧r=0)∧KpE (fun k=>k=rB+1) W7.heap.size W7 W))
              (OwnFrom.and (OwnFrom.and (zJZ _ (fun (pre:List { x // x∈zl n ⟨0,0,0⟩ (trF n F) })=>#[(pre.length:Int)]) _) zJa) (ownFrom_pure _ _))
              (fun c=>fun pre X Y row hs hg hr=>by
               rcases hs with h | h
               · exact .inl h
               · exact .inr ⟨h.1,zJa pre X Y row h.2 hg hr⟩)
              ⟨⟨E0.o,KpE.refl _ _ _⟩,rfl⟩
              (fun x a' W => ∃ xb,W7.heap.size≤xb∧Bk W xb #[.int .i64 x.1.1.x,.int .i64 x.1.1.y,.int .i64 x.1.1.z,.int .i64 ((x.1.2.1:Int)+2)] 39∧a'={ tmps:=#[.agg #[.int .i64 a,.int .i64 b,.int .i64 c,.int .i64 d,.int .i64 e,.int .i64 f,.slice ha xs.length hcp],.int .i64 ((n:Int)+2),.slice la L.length lc,.agg #[.int .i64 b0,.int .i64 b1,.int .i64 b2,.int .i64 b3,.int .i64 b4,.int .i64 b5],.slice ca cn cc,.int .i64 stop,.pointer (some ⟨w.heap.size,0,none⟩),undef,undef,.pointer (some ⟨w.heap.size+1,0,none⟩),undef,.pointer (some ⟨w.heap.size+1+1,0,none⟩),.pointer (some ⟨w.heap.size+1+1+1,0,none⟩),.pointer (some ⟨sB,0,none⟩),.int .i64 (idn Uj n F0),.string (txt n F0),.bool true,.int .i64 (idn ts n F),.string (txt n F),undef,u20,u21,u22,undef,u24,.func (.func 83) #[] #[.pointer (some ⟨lB,0,none⟩),.pointer (some ⟨lB+1+1,0,none⟩),.pointer (some ⟨lB+1,0,none⟩)],.pointer (some ⟨wB,0,none⟩),.pointer (some ⟨rB,0,none⟩),.pointer (some ⟨rB+1,0,none⟩),.pointer (some ⟨xb,0,none⟩),.int .i64 (idT ts x.1.2.2:Int),undef,undef,undef,undef,.agg #[.int .i64 a,.int .i64 b,.int .i64 c,.int .i64 d,.int .i64 e,.int .i64 f,.slice ha xs.length hcp],.int .i64 ((n:Int)+2),.slice la L.length lc,.bool true,.bool false,.bool false,.slice ca cn cc,.int .i64 (cn:Int),.bool false,.bool false,.bool false,.pointer (some ⟨w.heap.size+1,0,none⟩),.agg #[.int .i64 b0,.int .i64 b1,.int .i64 b2],.bool true,.bool false,.bool false,.bool false,.pointer (some ⟨w.heap.size+1,3,none⟩),.agg #[.int .i64 b3,.int .i64 b4,.int .i64 b5],.bool true,.bool false,.bool false,undef,.tuple #[.pointer (some ⟨sb,0,none⟩),.int .i64 (idn Uj n F0),.string (txt n F0),.bool true],.agg #[.int .i64 a,.int .i64 b,.int .i64 c,.int .i64 d,.int .i64 e,.int .i64 f,.slice ha xs.length hcp],.int .i64 ((n:Int)+2),.tuple #[.pointer (some ⟨sb,0,none⟩),.int .i64 (idn Uj n F0),.string (txt n F0),.bool true],.pointer (some ⟨sb,0,none⟩),.int .i64 (idn Uj n F0),.string (txt n F0),.bool true,.bool true,.bool false,.int .i64 (idn Uj n F0),.string (txt n F0),.slice la L.length lc,.int .i64 (L.length:Int),.int .i64 (L.length:Int),.bool false,u74,u75,u76,u77,u78,u79,u80,u81,u82,u83,u84,u85,u86,u87,u88,u89,u90,u91,u92,u93,u94,.pointer (some ⟨sb,0,none⟩),.int .i64 (idn Uj n F0),.int .i64 (idn ts n F),.int .i64 ((n:Int)+2),v4,.string (txt n F0),.string (txt n F),.int .i64 ((n:Int)+2),v8,.bool true,.bool false,.bool false,.pointer (some ⟨sb,0,none⟩),.int .i64 (idn ts n F),.int .i64 ((n:Int)+2),.agg #[.int .i64 b0,.int .i64 b1,.int .i64 b2,.int .i64 b3,.int .i64 b4,.int .i64 b5],.slice ca cn cc,.bool hw,.string (txt n F),.int .i64 ((n:Int)+2),.agg #[.int .i64 b0,.int .i64 b1,.int .i64 b2,.int .i64 b3,.int .i64 b4,.int .i64 b5],.slice ca cn cc,.bool hw,.bool false,.bool false,.int .i64 stop,.slice (some ⟨W1.heap.size,0,none⟩) 1 1,.slice ca cn cc,.slice va (1+cn) vc,.int .i64 (1+(cn:Int)),.int .i64 (1+(cn:Int)),.bool false,u127,u128,u129,u130,u131,u132,u133,u134,u135,u136,u137,u138,u139,.pointer (some ⟨sb,0,none⟩),.int .i64 (idn ts n F),.int .i64 ((n:Int)+2),.func (.func 83) #[] #[.pointer (some ⟨lB,0,none⟩),.pointer (some ⟨lB+1+1,0,none⟩),.pointer (some ⟨lB+1,0,none⟩)],.func (.func 83) #[] #[.pointer (some ⟨lB,0,none⟩),.pointer (some ⟨lB+1+1,0,none⟩),.pointer (some ⟨lB+1,0,none⟩)],.bool false,.string (txt n F),.int .i64 ((n:Int)+2),.slice wa nl wc,.int .i64 (r:Int),.bool true,.int .i64 (r:Int),.func (.func 83) #[] #[.pointer (some ⟨lB,0,none⟩),.pointer (some ⟨lB+1+1,0,none⟩),.pointer (some ⟨lB+1,0,none⟩)],zO x.1.1.x x.1.1.y x.1.1.z ((x.1.2.1:Int)+2),.int .i64 (idT ts x.1.2.2:Int),undef,undef,undef,undef,undef,undef,undef,undef,undef,undef,undef,undef,undef,undef,undef,undef,undef,undef,undef,undef,undef,undef,undef,undef,undef,undef,undef,undef,undef,undef,undef,undef,undef,Un,Uo,Up,Uq,Ur,Us,Ut,Uu,Uv,undef,undef,undef,undef,undef,undef,undef,undef,undef,undef,undef,undef,undef,undef,undef,undef,undef,undef,undef,undef,undef,undef,undef,undef,undef,undef,undef],defers:=[] })
              (fun x a'=>fun _ X Y row hs hg hr=>by obtain ⟨xb,h1,h2,h3⟩:=hs;exact ⟨xb,h1,zJZ xb (fun (_:Unit)=>#[.int .i64 x.1.1.x,.int .i64 x.1.1.y,.int .i64 x.1.1.z,((x.1.2.1:Int)+2:Int)]) _ () X Y row h2 hg hr,h3⟩)
              ?assign ?body ?done ?stop
             case assign =>
              rintro l pre x W K ⟨⟨Tu,O5⟩,Qq⟩ hK;have K8:Below W.heap.size W (W.alloc (.cells #[.int .i64 x.1.1.x,.int .i64 x.1.1.y,.int .i64 x.1.1.z,((x.1.2.1:Int)+2:Int)] 39)):=bf;have HK:=hK _ _ (zGz K8) (KpE.below K8) ⟨⟨Tu.la K8,O5.trans (KpE.below K8)⟩,Qq⟩ ⟨W.heap.size,O5.size,zC _ _ _ (by simp),rfl⟩
              replace HK:=Bx.mk HK;clear hK
              gi_wp2
              exact HK.o
             case body =>
              rintro l pre ⟨⟨q,lv,t⟩,hx⟩ act W hl hr ⟨⟨Te,O5⟩,Qq⟩ ⟨xb,TC,kx,rfl⟩ PA;have IQ : ∀ k,k<W6.heap.size → ¬(k=rB+1):=fun k hk=>by have:=Ag.o;omega
              have AG:=Bx.mk (zHP Ar.o.bel O5 IQ Ar.o.bel.size nlr);have CC:=Bx.mk (C4.o.la AG.o);have EG:=Bx.mk (O5.bk EF.o (by omega))
              have ET:=Bx.mk (EU.o.la AG.o);obtain ⟨k,hk⟩ : ∃ k,k=pre.length:=⟨_,rfl⟩;rw [←hk] at Te Qq PA;have Hk:=Bx.mk hk;have DR:=Bx.mk Qq;have ON:k≤1000000000000:=nlt (Nat.le_of_lt PA) D8.o;have OP:k<nl:=by rw [DH.o];exact PA
              obtain ⟨⟨⟨y0,y1,y2⟩,yl,yt⟩,hy⟩ : ∃ y,(zl n ⟨0,0,0⟩ (trF n F))[k]? = some y:=⟨_,lge PA⟩;have Hy:=Bx.mk hy;obtain ⟨g,rfl,hg⟩:=(BF.o.la AG.o) k _ hy;obtain ⟨SJ,Nt,-⟩:=BH.o _ hx;have LD:=(zHZ n ⟨0,0,0⟩ (zA3 n) _ hx).2;have LE:=(zHZ n ⟨0,0,0⟩ (zA3 n) _ (List.mem_of_getElem? hy)).2;have KX:=Bx.mk kx;have KC:=Bx.mk Te;have B1:=Bx.mk O5;have D4:=Bx.mk (show lv≤n from Nt.le);simp only [] at SJ LD LE KX;have x0 : ∀ dk osk,(grow (redrawn W dk) osk).cell? ⟨rB+1,0,none⟩=some (.int .i64 (k:Int)):=cq (Te.cell 0 rfl);have x1 : ∀ dk osk,(grow (redrawn W dk) osk).cell? _=_:=cq (ET.o.cell 0 rfl);obtain ⟨a0,a1,a2,a3⟩:=KX.o.r4;have z0 : ∀ dk osk,(grow (redrawn W dk) osk).cell? ⟨g,k * 5,none⟩=some (.int .i64 y0):=cq (hg 0 (by decide))
              have z1 : ∀ dk osk,(grow (redrawn W dk) osk).cell? ⟨g,k * 5+1,none⟩=some (.int .i64 y1):=cq (hg 1 (by decide))
              have z2 : ∀ dk osk,(grow (redrawn W dk) osk).cell? ⟨g,k * 5+2,none⟩=some (.int .i64 y2):=cq (hg 2 (by decide))
              have z3 : ∀ dk osk,(grow (redrawn W dk) osk).cell? ⟨g,k * 5+3,none⟩=some (.int .i64 ((yl:Int)+2)):=cq (hg 3 (by decide))
              have z4 : ∀ dk osk,(grow (redrawn W dk) osk).cell? ⟨g,k * 5+4,none⟩=some (.string (strOfNums (Tr.enc yt))):=cq (hg 4 (by decide))
              have s0 : ∀ dk osk,(grow (redrawn W dk) osk).cell? _=_:=cq (CC.o.ks.cell 0 rfl);have t9:decide ((nl:Int)≤(k:Int))=false:=by simp;omega
              have Ug:decide (nl≤k)=false:=by simp;omega
              have t11 : ¬(nl≤k):=by omega
              have Tb:(0:Int)≤(k:Int):=by omega
              have Tc:(k:Int)<(nl:Int):=by omega
              have Sz:wrap64 ((k:Int)+1)=(k:Int)+1:=by simp only [wrap64,IntKind.wrap];omega
              clear Te O5 Qq kx hy hg hk IQ;by_cases Mc:y0=q.x∧y1=q.y∧y2=q.z∧yl=lv
              · --FAST{
                obtain ⟨rfl,rfl,rfl,rfl⟩:=Mc;have hty:yt=t:=LE.trans LD.symm;subst hty;have u0:=Bx.mk fun dk osk=>rq (zHt Fr sb 1000000 ts CC.o.mi.good B9.o yt (by rw [LD];exact zAF CC.o.mi.fn.range yl _ (by have:=D4.o;have:=Hn.o;omega)) (by rw [LD];have:=zB7 CC.o.mi.fn.range (show yl≤12 by have:=D4.o;have:=Hn.o;omega) q;omega) SJ (grow (redrawn W dk) osk) (CC.o.mi.st.la (bq W dk osk)))
                generalize strOfNums (Tr.enc yt)=ST at *;clear LD LE Nt
                gi_upto_region 34 with fail
                refine zOU l _ (by kernel_rfl) (by kernel_rfl) (by kernel_rfl) (by rintro ⟨_,_,h⟩;exact h) ?_
                repeat (first | go_big_quiet_step (exact u0.o _ _) | quiet_step (exact u0.o _ _))
                refine wq ?_;rintro _ ⟨⟨dq,osq⟩,rfl⟩;have Kk:=bq W dq osq;clear x0 x1 a0 a1 a2 a3 z0 z1 z2 z3 z4 s0 u0;generalize grow (redrawn W dq) osq=wq at *;have Bp:=Bx.mk (show Rnd (fun k=>k=rB+1) W7.heap.size W wq from Rnd.below Kk);have E4:=Bx.mk (KC.o.la Kk);have EH:=Bx.mk (EG.o.la Kk);have EM:=Bx.mk (CC.o.kt.la Kk);have HLl:=Bx.mk (show w.heap.size+1+1<rB from by have:=C4.o.kt.lt;have:=Ag.o;omega)
                clear Kk KX KC EG CC ET;have c0:=E4.o.cell 0 rfl;have f0:=E4.o.frozen 0
                gi_upto_region 37 with fail
                rw [Sz];generalize hW8:World.setCell wq _ _=W8;have Bn:=Bx.mk (show Rnd (fun k=>k=rB+1) W7.heap.size W W8 by rw [←hW8];exact Bp.o.trans (Rnd.set _ _ _ rfl))
                have E1:=Bx.mk (show Bk W8 (rB+1) #[((k:Int)+1:Int)] 3 by rw [←hW8];exact Bk.put1 E4.o _)
                have KR8:=Bx.mk (show Bk W8 rB #[(r:Int)] 3 by rw [←hW8];exact EH.o.other _ _ (by simp only;omega))
                have KT8:=Bx.mk (show Bk W8 (w.heap.size+1+1) #[stop] 3 by rw [←hW8];exact EM.o.other _ _ (by have:=HLl.o;simp only;omega))
                clear hW8 c0 f0 Bp E4 EH EM;have c0:=E1.o.cell 0 rfl;have c1:=KR8.o.cell 0 rfl;have c2:=KT8.o.cell 0 rfl
                have Bb:=Bx.mk (show ((pre++[(⟨(q,yl,yt),hx⟩:{ x // x∈zl n ⟨0,0,0⟩ (trF n F) })]).map (·.1)=(zl n ⟨0,0,0⟩ (trF n F)).take (pre++[(⟨(q,yl,yt),hx⟩:{ x // x∈zl n ⟨0,0,0⟩ (trF n F) })]).length) by
                 rw [List.map_append,DR.o,List.length_append,List.length_singleton,←Hk.o,List.take_add_one,Hy.o];rfl)
                have Ba:=Bx.mk (show (((pre++[(⟨(q,yl,yt),hx⟩:{ x // x∈zl n ⟨0,0,0⟩ (trF n F) })]).length:Nat):Int)=(k:Int)+1 by
                 rw [List.length_append,List.length_singleton,←Hk.o];omega)
                have Pz:(KeepsFrom W7.heap.size W W8∧KpE (fun k=>k=rB+1) W7.heap.size W W8):=⟨Bn.o.kf,Bn.o.kp⟩;rcases (show r=0∨r=1 by omega) with rfl | rfl
                · have Ui:(((0:Nat):Int) == 0)=true:=rfl;cases tst:((k:Int)+1 == stop) with
                  | true =>
                    gi_wp2_with fail
                    exact ⟨Pz.1,.inr ⟨by simp,B1.o.trans Pz.2⟩⟩
                  | false =>
                    gi_wp2_with fail
                    refine ⟨Pz.1,Pz.2,⟨?_,B1.o.trans Pz.2⟩,Bb.o⟩;rw [Ba.o];exact E1.o
                · have Ui:(((1:Nat):Int) == 0)=false:=rfl
                  gi_wp2_with fail
                  refine ⟨Pz.1,Pz.2,⟨?_,B1.o.trans Pz.2⟩,Bb.o⟩;rw [Ba.o];exact E1.o
              · have Q0:Bx (¬((pre++[(⟨(q,lv,t),hx⟩:{ x // x∈zl n ⟨0,0,0⟩ (trF n F) })]).map (·.1) <+: zl n ⟨0,0,0⟩ (trF n F))):=⟨fun hp=>by
                 obtain ⟨m,hm⟩:=hp;rw [List.map_append] at hm;have h1:=Hy.o;rw [←hm,List.append_assoc,List.getElem?_append_right (by rw [List.length_map,Hk.o];exact Nat.le_refl _),List.length_map,Hk.o,Nat.sub_self] at h1
                 have h2:=osi h1;have e1:=congrArg (·.1.x) h2;have e2:=congrArg (·.1.y) h2;have e3:=congrArg (·.1.z) h2;have e4:=congrArg (·.2.1) h2;exact Mc ⟨e1.symm,e2.symm,e3.symm,e4.symm⟩⟩
                have AT:Bx (q.x ≠ y0∨q.y ≠ y1∨q.z ≠ y2∨lv ≠ yl):=⟨by omega⟩
                clear LD LE Nt
                gi_upto_region 34 with fail
                refine zOU l _ (by kernel_rfl) (by kernel_rfl) (by kernel_rfl) (by rintro ⟨_,_,h⟩;exact h) ?_
                repeat (first | go_big_quiet_step ((rw [ite4 AT.o];exact ⟨rfl,rfl⟩)) | quiet_step ((rw [ite4 AT.o];exact ⟨rfl,rfl⟩)))
                refine wq ?_;rintro _ ⟨⟨dq,osq⟩,rfl⟩;have Kk:=bq W dq osq;clear x0 x1 a0 a1 a2 a3 z0 z1 z2 z3 z4 s0;generalize grow (redrawn W dq) osq=wq at *;have kr:=CC.o.kr.la Kk;have c0:=kr.cell 0 rfl;have f0:=kr.frozen 0;have HKF:=Bx.mk (show KeepsFrom W7.heap.size W wq from zGz Kk);clear Kk
                gi_wp2_with fail
                exact ⟨HKF.o.trans ((KeepsOthers.setCell _ _ _).from _),.inl ⟨rfl,Q0.o⟩⟩
             case done =>
              rintro D ys W hD TG ⟨⟨Tu,O5⟩,Qq⟩ hK;have IQ : ∀ k,k<W6.heap.size → ¬(k=rB+1):=fun k hk=>by have:=Ag.o;omega
              have AG:=Bx.mk (zHP Ar.o.bel O5 IQ Ar.o.bel.size nlr);have PE:(ys.length:Int)=(nl:Int):=by have h1:=congrArg List.length TG;rw [List.length_map] at h1;have h2:=DH.o;omega
              have x0:=(O5.bk EF.o (by omega)).cell 0 rfl
              rw [PE] at Tu;have x1:=Tu.cell 0 rfl;have x2:=(EU.o.la AG.o).cell 0 rfl;have Ac:=Bx.mk (Ar.o.round O5 hD hK IQ (fun k hk (e:k=rB+1)=>by have h1:=(Ar.o.dfd k hk).2;rw [e,show W7.heap[rB+1]? = _ from E0.o] at h1;cases h1))
              have tn1:((nl:Int) != (nl:Int))=false:=by simp
              clear O5 Tu TG Qq hK PE;rcases (show r=0∨r=1 by omega) with rfl | rfl
              · have Ui:(((0:Nat):Int) == 1)=false:=rfl;go_wp2_with fail;exact ⟨⟨1,by omega,D::Ds,⟨rfl,rfl⟩,Ac⟩,by show 2 - 1<2 - 0;omega⟩
              · have Ui:(((1:Nat):Int) == 1)=true:=rfl;go_wp2_with fail;exact ⟨⟨2,by omega,D::Ds,⟨rfl,rfl⟩,Ac⟩,by show 2 - 2<2 - 1;omega⟩
             case stop =>
              rintro D cc' pre W hD Ry Nz hK;rcases Nz with ⟨_,Q0⟩ | ⟨⟨rfl,R7⟩,O5⟩
              · exact absurd Ry Q0
              · subst R7;have IQ : ∀ k,k<W6.heap.size → ¬(k=rB+1):=fun k hk=>by have:=Ag.o;omega
                have AG:=Bx.mk (zHP Ar.o.bel O5 IQ Ar.o.bel.size nlr);have x0:=(O5.bk EF.o (by omega)).cell 0 rfl
                have Ac:=Bx.mk (Ar.o.round O5 hD hK IQ (fun k hk (e:k=rB+1)=>by have h1:=(Ar.o.dfd k hk).2;rw [e,show W7.heap[rB+1]? = _ from E0.o] at h1;cases h1))
                have Ui:(((0:Nat):Int) == 1)=false:=rfl;clear O5 Ry hK
                gi_wp2_with fail
                go_wp2_with fail;exact ⟨⟨1,D::Ds,_,_,_,_,_,_,_,_,_,_,_,_,_,_,by omega,rfl,Ac⟩,by show 2 - 1<2 - 0;omega⟩
           · obtain rfl:r=2:=by omega
             have t0:decide (((2:Nat):Int)<2)=false:=by decide
             have CE:=Bx.mk (C4.o.la HI.o.bel);have CP:=Bx.mk (m_add n F Hn.o CE.o.mi.fn.range [] zFq (by have:=zAy Hn.o CE.o.mi.fn CE.o.mi.good CE.o.mi.mem;have:=B9.o;omega) wr wr.heap.size (.slice none 0 0) nlr (Ownv.nil _ _ _))
             go_wp2_with fail;refine CP.o.mono ?_;rintro _ wA ⟨v0,rfl,ho,JZ⟩;obtain ⟨oa,oc,rfl,Rx⟩:=ho.form;rw [zEr];have K8:Below wr.heap.size wr wA:=⟨JZ.grown.os,JZ.grown.tape,JZ.grown.output,JZ.grown.size,fun k hk=>JZ.grown.block k hk (by simp [Value.ownBlock])⟩
             have Bw:=Bx.mk Rx;have C6:=Bx.mk (CE.o.la K8);have Aw:=Bx.mk (HI.o.la K8);have DE:=Bx.mk (zNT 1000000 ts C6.o.mi.good B9.o sb n (by have:=Hn.o;omega) (trF n F) C6.o.mi.mem (zQ F n _) wA Fr C6.o.mi.st)
             have BR:=Bx.mk (zAt C6.o.mi.good (trF n F) C6.o.mi.mem [] (fun x hx=>by cases hx))
             have BQ:=Bx.mk (zAp (trF n F) (zEo Hn.o C6.o.mi.fn.range) [] (fun x hx=>by cases hx))
             rw [show (idT ts (trF n F):Int)=idn ts n F from rfl] at DE;rw [show Tr.add (trF n F) []=zAv n F [] from rfl] at DE BR BQ;have hln:=zAy Hn.o C6.o.mi.fn C6.o.mi.good C6.o.mi.mem;have Ow:=B9.o;have HNl:=Bx.mk (show (zAv n F []).length≤4194304 by omega)
             generalize zAv n F []=AN at *;have x0:=C6.o.ks.cell 0 rfl;clear ho Rx K8 JZ CP CE HI hln Ow;go_wp2_with fail;refine DE.o.mono ?_;rintro _ wB ⟨v1,rfl,ho,hb⟩;obtain ⟨na,nc,rfl⟩:=zy ho;have Rw:=ho.sl;rw [show (zIm ts AN).length=AN.length from List.length_map ..];have HSN:=Bx.mk Rw;have C7:=Bx.mk (C6.o.la hb);have HIB:=Bx.mk (Aw.o.la hb);have HSB:=Bx.mk (Bw.o.below hb);have tnn:((AN.length:Int) != (AN.length:Int))=false:=by simp
             clear ho Rw hb x0 DE C6 Aw Bw;obtain ⟨nn,Pw⟩ : ∃ nn,nn=AN.length:=⟨_,rfl⟩;rw [←Pw] at tnn ⊢;have Hnn:=Bx.mk Pw;have Pc:nn≤4194304:=by rw [Pw];exact HNl.o
             clear Pw;go_wp2_with fail
             go_loopw [209] (fun v209 wr => ∃ k:Nat,k≤nn∧v209 = .int .i64 k∧Bx (Below wB.heap.size wB wr)) (fun i _=>nn - (intOf i).toNat)
             case atStart=>exact ⟨0,Nat.zero_le _,rfl,⟨br⟩⟩
             case round =>
              obtain ⟨k,hk,rfl,HB⟩:=hrel;by_cases hlt:k<nn
              · have t0:decide ((k:Int)<(nn:Int))=true:=by simp;omega
                obtain ⟨T,hT⟩ : ∃ T,AN[k]? = some T:=⟨_,lge (by rw [←Hnn.o];exact hlt)⟩
                obtain ⟨gb,go,rfl,NE⟩:=(HSN.o.below HB.o) k (idT ts T:Int) (by rw [List.getElem?_map,hT];rfl)
                obtain ⟨ob,oo,rfl,QB⟩:=(HSB.o.below HB.o) k _ (zEq hT);have JL:=List.mem_of_getElem? hT;have JM:=BR.o T JL;have BB:=Bx.mk fun W hS=>zHt Fr sb 1000000 ts C7.o.mi.good B9.o T (zFr C7.o.mi.good T JM) (BQ.o T JL) JM W hS;have Tb:(0:Int)≤(k:Int):=by omega
                have Tc:(k:Int)<(nn:Int):=by omega
                generalize strOfNums (Tr.enc T)=ST at *;generalize (idT ts T:Int)=iT at *;clear hT JL JM;go_upto_region 48 with fail;have x0 : ∀ dk osk,(grow (redrawn wr dk) osk).cell? _=_:=cq ((C7.o.ks.la HB.o).cell 0 rfl);have x1 : ∀ dk osk,(grow (redrawn wr dk) osk).cell? _=_:=cq QB;have u0:=Bx.mk fun dk osk=>rq (BB.o (grow (redrawn wr dk) osk) ((C7.o.mi.st.la HB.o).la (bq wr dk osk)));refine wg ?_
                repeat (first | go_big_quiet_step (exact u0.o _ _) | quiet_step (exact u0.o _ _))
                refine wq ?_;rintro _ ⟨⟨dq,osq⟩,rfl⟩;have Kk:=bq wr dq osq;clear x0 x1 u0 NE QB;generalize grow (redrawn wr dq) osq=wq at *;have HJ:=Bx.mk (tr HB.o Kk);clear Kk BB;go_wp2_with fail
                go_roundw
                case rel=>exact ⟨k+1,by omega,by go_num,HJ⟩
                case measure=>simp [intOf];omega
              · obtain rfl:k=nn:=by omega
                have t0:decide ((k:Int)<(k:Int))=false:=by simp
                have Ax:=Bx.mk (HIB.o.la HB.o);have C8:=Bx.mk (C7.o.la HB.o);go_wp2_with fail;refine (zL7 _).mono ?_;rintro _ w3 ⟨rfl,Jv⟩;have Ay:=Bx.mk (Ax.o.la Jv);have C9:=Bx.mk (C8.o.la Jv);have y0:=C9.o.kr.cell 0 rfl;have f0:=C9.o.kr.frozen 0;have Bj:=Bx.mk (show w.heap.size+1+1+1<W6.heap.size from C4.o.kr.lt);clear Jv Ax C8;go_wp2_with fail;have Ph : ∀ D∈Ds,D ≠ w.heap.size+1+1+1:=fun D hD e=>by have:=(Ay.o.dfd D hD).1;have:=Bj.o;omega
                refine zHm (m:=w.heap.size+1+1+1+1) Ds (w3.setCell ⟨w.heap.size+1+1+1,0,none⟩ (.bool true)) (w3.setCell ⟨w.heap.size+1+1+1,0,none⟩ (.bool true)) br Ay.o.nd (fun D hD=>⟨by have:=(Ay.o.dfd D hD).1;have:=Bj.o;omega,(heap_setCell_other w3 ⟨w.heap.size+1+1+1,0,none⟩ D (.bool true) (Ph D hD)).trans (Ay.o.dfd D hD).2⟩) (fun W' hbW=>?_)
                have Ik:Bk W' (w.heap.size+1+1+1) #[.bool true] 4:=(hbW.block (w.heap.size+1+1+1) (by omega)).trans (Bk.put1 C9.o.kr (.bool true))
                have z1:=Ik.cell 0 rfl;exact ⟨.bool true,by simp [results,Tryz.results4,go_sem,z1],rfl,(C9.o.mi.bel.setCell (by simp only;omega) _).trans (hbW.mono (by omega))⟩
end
section
open Go.RowKit Go.Sort Go.Maps
open Oct
theorem zNe (a b c d e f G6 b0 b1 b2 b3 b4 b5 stop:Int) (ha la ca:Option Addr) (hcp lc cc:Nat) (xs cs:List Int) (L:List Stp) (LF:xs.length≤hcp) (w:World) (Rn:Sl w .i64 ha xs) (Rf:SlS w la L) (Lr:Sl w .i64 ca cs) :
 Calls Tryz.prog 4 #[.agg #[a,b,c,d,e,f,.slice ha xs.length hcp],G6,.slice la L.length lc,.agg #[b0,b1,b2,b3,b4,b5],.slice ca cs.length cc,stop] w fun e' w'=>e' = .returned (.bool true)∧Below w.heap.size w w':=by
 by_cases hfw:xs.length≤300∧L.length≤8∧zFd ⟨⟨a,b,c⟩,⟨d,e,f⟩⟩ xs G6=0
 · obtain ⟨h1,h2,hE⟩:=hfw;obtain ⟨n,hn,rfl,hV,hC⟩:=zFe hE;have HX:=zFl hV h1 LF;have Mn:=fun W (hb:Below w.heap.size w W)=>zEz a b c d e f ha hcp xs h1 n hn hE la lc L h2 W (Rn.below hb) (Rf.below hb);cases Jd:L.all (zE0 n) with
   | false =>
     rw [Jd] at Mn;exact zNF a b c d e f _ b0 b1 b2 b3 b4 b5 stop ha la ca _ hcp _ lc _ cc w false (.inl rfl) Mn
   | true =>
     have Je:=Jd;rw [Jd] at Mn;by_cases LZ:cs.length≤300
     · have t:decide ((cs.length:Int) > 300)=false:=by simp;omega
       cases QZ:okP ⟨b0,b1,b2⟩ with
       | false=>exact zNF a b c d e f _ b0 b1 b2 b3 b4 b5 stop ha la ca _ hcp _ lc _ cc w true (.inr (.inr (.inl ⟨rfl,t,QZ⟩))) Mn
       | true =>
         cases Qb:okP ⟨b3,b4,b5⟩ with
         | false=>exact zNF a b c d e f _ b0 b1 b2 b3 b4 b5 stop ha la ca _ hcp _ lc _ cc w true (.inr (.inr (.inr ⟨rfl,t,QZ,Qb⟩))) Mn
         | true=>exact ta_on a b c d e f b0 b1 b2 b3 b4 b5 stop ha la ca hcp lc cc xs cs L w h1 h2 LZ Rn Rf Lr QZ Qb n hn HX hE hV hC Je
     · have t:decide ((cs.length:Int) > 300)=true:=by simp;omega
       exact zNF a b c d e f _ b0 b1 b2 b3 b4 b5 stop ha la ca _ hcp _ lc _ cc w true (.inr (.inl ⟨rfl,t⟩)) Mn
 · exact zNF a b c d e f G6 b0 b1 b2 b3 b4 b5 stop ha la ca _ hcp _ lc _ cc w false (.inl rfl) (fun W hb=>zEy a b c d e f G6 ha hcp xs la L.length lc hfw W (Rn.below hb))
end
section
open Go.RowKit Go.ChangeShapes Go.WideShapes
open Oct
theorem zCa : Tryz.prog.cellsOf 23=3:=by kernel_rfl
theorem zCP : Tryz.prog.cellsOf 25=6:=by kernel_rfl
theorem zCW : Tryz.prog.cellsOf 28=7:=by kernel_rfl
theorem zCX : Tryz.prog.cellsOf 3=1:=by kernel_rfl
theorem zCY : Tryz.prog.cellsOf 26=1:=by kernel_rfl
theorem row_sl {k:IntKind} {w:World} {a:Option Addr} {len cap:Nat} {zs:List Int}
 (h:(a=none∧len=0∧cap=0∧zs=[]) ∨ ∃ x,a=some x∧len≤cap∧cap≤maxLen∧zs.length=cap∧(∀ i,i<zs.length→w.cell? (x.add i)=some (.int k (zs.getD i 0))) ∧ ∀ n∈zs,(Lit.int k n).wf=true) :
 ∃ xs:List Int,len=xs.length∧Sl w k a xs:=by
 rcases h with ⟨rfl,rfl,rfl,rfl⟩ | ⟨x,rfl,hl,hm,hz,hc,hw⟩
 · exact ⟨[],rfl,Sl.nil _ _ _⟩
 · refine ⟨zs.take len,by simp;omega,fun i y hy=>?_⟩
   rw [List.getElem?_take] at hy;split at hy
   · rename_i hi;have h1:=hc i (by omega)
     have h2:w.cell? (x.add i)=some (.int k y):=by rw [h1];simp [List.getD,hy]
     obtain ⟨b,off,spot⟩:=x
     have Rz:spot=none:=by
      have h0:=hc 0 (by omega)
      simpa [Addr.add] using World.cell?_spot h0
     subst Rz;refine ⟨b,off,rfl,?_⟩;have:(⟨b,off,none⟩:Addr).add i=⟨b,off+i,none⟩:=by unfold Addr.add;split <;> simp_all
     rwa [this] at h2
   · cases hy
section
variable {H:Type} {enc:TypeId × Value→H} {w:World} {base:Nat} {Uf:Nat→Bool} {held:Bool} {fuel:Nat} {x:DataW H × List MemPlace}
theorem zNo {v:Value} (h:DataW.trod enc Tryz.prog w base Uf held fuel 3 [v]=some x) : ∃ n:Int,v = .int .i64 n∧(Lit.int .i64 n).wf=true:=by
 obtain ⟨n,h1,_,h2⟩:=DataW.trod_int Tryz.underlying3 h;simp only [List.cons.injEq,and_true] at h1;exact ⟨n,h1,h2⟩
theorem zNq {c0 c1 c2:Value} (h:DataW.trod enc Tryz.prog w base Uf held fuel 23 [c0,c1,c2]=some x) :
 ∃ a b c:Int,c0 = .int .i64 a∧c1 = .int .i64 b∧c2 = .int .i64 c:=by
 obtain ⟨y0,y1,y2,n,_,_,h0,h1,h2⟩:=Go.Deep.trod_struct3 Tryz.underlying23 h;have h0:DataW.trod enc Tryz.prog w base Uf held n 3 [c0]=some y0:=by simpa [zCX] using h0
 have h1:DataW.trod enc Tryz.prog w base Uf held n 3 [c1]=some y1:=by simpa [zCX] using h1
 have h2:DataW.trod enc Tryz.prog w base Uf held n 3 [c2]=some y2:=by simpa [zCX] using h2
 obtain ⟨a,e0,_⟩:=zNo h0;obtain ⟨b,e1,_⟩:=zNo h1;obtain ⟨c,e2,_⟩:=zNo h2;exact ⟨a,b,c,e0,e1,e2⟩
theorem zNk {c0 c1 c2 c3 c4 c5:Value} (h:DataW.trod enc Tryz.prog w base Uf held fuel 25 [c0,c1,c2,c3,c4,c5]=some x) :
 ∃ a b c d e f:Int,c0 = .int .i64 a∧c1 = .int .i64 b∧c2 = .int .i64 c∧c3 = .int .i64 d∧c4 = .int .i64 e∧c5 = .int .i64 f:=by
 obtain ⟨y0,y1,n,_,_,h0,h1⟩:=trod_struct2 Tryz.underlying25 h;have h0:DataW.trod enc Tryz.prog w base Uf held n 23 [c0,c1,c2]=some y0:=by simpa [zCa] using h0
 have h1:DataW.trod enc Tryz.prog w base Uf held n 23 [c3,c4,c5]=some y1:=by simpa [zCa] using h1
 obtain ⟨a,b,c,e0,e1,e2⟩:=zNq h0;obtain ⟨d,e,f,e3,e4,e5⟩:=zNq h1;exact ⟨a,b,c,d,e,f,e0,e1,e2,e3,e4,e5⟩
theorem zNp {v:Value} (h:DataW.trod enc Tryz.prog w base (fun _=>true) held fuel 26 [v]=some x) :
 ∃ ha hcp,∃ xs:List Int,v = .slice ha xs.length hcp∧Sl w .i64 ha xs∧xs.length≤hcp:=by
 rcases open_ints Tryz.underlying26 Tryz.underlying3 zCX h with ⟨h1,_⟩ | ⟨a,len,cap,zs,h1,_,hl,hm,hz,_,hc,hw⟩
 · simp only [List.cons.injEq,and_true] at h1;exact ⟨none,0,[],h1,Sl.nil _ _ _,by simp⟩
 · simp only [List.cons.injEq,and_true] at h1;simp only [if_true] at hz;obtain ⟨xs,e,hs⟩:=row_sl (k:=.i64) (w:=w) (a:=some a) (len:=len) (cap:=cap) (zs:=zs) (Or.inr ⟨a,rfl,hl,hm,hz,hc,hw⟩);exact ⟨some a,cap,xs,by rw [h1,e],hs,by omega⟩
theorem list7 {α:Type} {l:List α} (h:l.length=7) : ∃ a b c d e f g,l=[a,b,c,d,e,f,g]:=by
 match l,h with
 | [a,b,c,d,e,f,g],_=>exact ⟨a,b,c,d,e,f,g,rfl⟩
theorem zJP {r:Reach} {b0:Nat} {v:Value} {d:DataW H} {p:List MemPlace} (hv:Value.okWide Tryz.prog w r b0 28 v) (h:DataW.Trod enc Tryz.prog w base (fun _=>true) held 28 v d p) :
 ∃ (a b c d e f:Int) (ha:Option Addr) (hcp:Nat) (xs:List Int),v = .agg #[a,b,c,d,e,f,.slice ha xs.length hcp]∧Sl w .i64 ha xs∧xs.length≤hcp:=by
 obtain ⟨cs,rfl,S9⟩:=okWide_struct Tryz.underlying28 hv;obtain ⟨l⟩:=cs;have hl:l.length=7:=by rw [zCW] at S9;exact S9
 obtain ⟨c0,c1,c2,c3,c4,c5,c6,rfl⟩:=list7 hl;obtain ⟨fuel,hf⟩:=h;obtain ⟨y0,y1,n,_,_,h0,h1⟩:=trod_struct2 Tryz.underlying28 hf;have h0:DataW.trod enc Tryz.prog w base (fun _=>true) held n 25 [c0,c1,c2,c3,c4,c5]=some y0:=by simpa [Value.cells,zCP] using h0
 have h1:DataW.trod enc Tryz.prog w base (fun _=>true) held n 26 [c6]=some y1:=by simpa [Value.cells,zCY] using h1
 obtain ⟨a,b,c,d,e,f,rfl,rfl,rfl,rfl,rfl,rfl⟩:=zNk h0;obtain ⟨ha,hcp,xs,rfl,hs,hc⟩:=zNp h1;exact ⟨a,b,c,d,e,f,ha,hcp,xs,rfl,hs,hc⟩
end
theorem zCQ : Tryz.prog.cellsOf 96=5:=by kernel_rfl
theorem zCR : Tryz.prog.cellsOf 37=1:=by kernel_rfl
theorem zCS : Tryz.prog.cellsOf 39=4:=by kernel_rfl
theorem zCb : Tryz.prog.cellsOf 41=24:=by kernel_rfl
theorem list5 {α:Type} {l:List α} (h:l.length=5) : ∃ a b c d e,l=[a,b,c,d,e]:=by
 match l,h with
 | [a,b,c,d,e],_=>exact ⟨a,b,c,d,e,rfl⟩
theorem zHw {α:Type} {l:List α} (h:l.length=6) : ∃ a b c d e f,l=[a,b,c,d,e,f]:=by
 match l,h with
 | [a,b,c,d,e,f],_=>exact ⟨a,b,c,d,e,f,rfl⟩
theorem list24 {α:Type} {l:List α} (h:l.length=24) : ∃ a0 a1 a2 a3 a4 a5 a6 a7 a8 a9 a10 a11 a12 a13 a14 a15 a16 a17 a18 a19 a20 a21 a22 a23,l=[a0,a1,a2,a3,a4,a5,a6,a7,a8,a9,a10,a11,a12,a13,a14,a15,a16,a17,a18,a19,a20,a21,a22,a23]:=by
 obtain ⟨a0,a1,a2,a3,a4,a5,e0⟩:=zHw (l:=l.take 6) (by simp;omega)
 obtain ⟨b0,b1,b2,b3,b4,b5,e1⟩:=zHw (l:=(l.drop 6).take 6) (by simp;omega)
 obtain ⟨c0,c1,c2,c3,c4,c5,e2⟩:=zHw (l:=(l.drop 12).take 6) (by simp;omega)
 obtain ⟨d0,d1,d2,d3,d4,d5,e3⟩:=zHw (l:=l.drop 18) (by simp;omega)
 have h0:l=l.take 6++((l.drop 6).take 6++((l.drop 12).take 6++l.drop 18)):=by
  rw [show l.drop 18=(l.drop 12).drop 6 from by rw [List.drop_drop],List.take_append_drop,show l.drop 12=(l.drop 6).drop 6 from by rw [List.drop_drop],List.take_append_drop,List.take_append_drop]
 rw [e0,e1,e2,e3] at h0;exact ⟨a0,a1,a2,a3,a4,a5,b0,b1,b2,b3,b4,b5,c0,c1,c2,c3,c4,c5,d0,d1,d2,d3,d4,d5,h0⟩
section
variable {H:Type} {enc:TypeId × Value→H} {w:World} {base:Nat} {held:Bool}
theorem zJR {S:Type} {t e:TypeId} {k:Nat} (f:S→List Value) (Pk:S→Prop) (ht : Tryz.prog.underlying t=some (.slice e)) (hk : Tryz.prog.cellsOf e=k) (Qn:0<k) (s0:S)
 (R : ∀ {n:Nat} {cs:List Value} {y:DataW H × List MemPlace},cs.length=k→DataW.trod enc Tryz.prog w base (fun _=>true) held n e cs=some y → ∃ s:S,cs=f s∧Pk s)
 {fuel:Nat} {x:DataW H × List MemPlace} {v:Value} (h:DataW.trod enc Tryz.prog w base (fun _=>true) held fuel t [v]=some x) :
 ∃ ha hcp,∃ L:List S,v = .slice ha L.length hcp∧L.length≤hcp ∧ ∀ (i:Nat) (s:S),L[i]? = some s → ∃ b off,ha=some ⟨b,off,none⟩∧(∀ j u,(f s)[j]? = some u→w.cell? ⟨b,off+i * k+j,none⟩=some u)∧Pk s:=by
 rcases Go.Deep.open_slice ht h with ⟨h1,_⟩ | ⟨a,len,cap,m,n,D,Pl,h1,_,hl,_,hm,_,hi⟩
 · simp only [List.cons.injEq,and_true] at h1;exact ⟨none,0,[],h1,Nat.le_refl _,fun i s h=>by simp at h⟩
 · simp only [List.cons.injEq,and_true] at h1;simp only [if_true] at hm;subst hm
   have key : ∀ i,i<len → ∃ s:S,(f s).length=k∧(∀ j u,(f s)[j]? = some u→w.cell? (a.add (i * k+j))=some u)∧Pk s:=by
    intro i Nr;obtain ⟨cs,Lr,SE⟩:=hi i (by omega)
    rw [hk] at Lr;obtain ⟨_,Od,Jk⟩:=World.cells?_some Lr;obtain ⟨s,rfl,hP⟩:=R Od SE;refine ⟨s,Od,fun j u hu=>?_,hP⟩;have hj:=(List.getElem?_eq_some_iff.1 hu).1;have:=Jk j (by omega)
    rw [Go.Deep.add_add] at this;rw [this];simpa [List.getD] using hu
   have hf : ∃ g:Nat→S,∀ i,i<len→(f (g i)).length=k∧(∀ j u,(f (g i))[j]? = some u→w.cell? (a.add (i * k+j))=some u)∧Pk (g i) :=
    ⟨fun i=>if h:i<len then (key i h).choose else s0,fun i h=>by simp only [dif_pos h];exact (key i h).choose_spec⟩
   obtain ⟨g,hf⟩:=hf;refine ⟨some a,m,(List.range len).map g,by simpa using h1,by simpa using hl,fun i s he=>?_⟩
   rw [List.getElem?_map] at he
   have Nr:i<len:=by
    rcases Nat.lt_or_ge i len with h | h
    · exact h
    · rw [List.getElem?_eq_none (by simpa using h)] at he;cases he
   rw [List.getElem?_range Nr] at he;simp only [Option.map_some,Option.some.injEq] at he;subst he;obtain ⟨Od,hc,hP⟩:=hf i Nr;obtain ⟨b,off,spot⟩:=a
   have Rz:spot=none:=by
    obtain ⟨Of,L2,-⟩:=hf 0 (by omega)
    have h0:=L2 0 _ (lge (by omega))
    have h1:=World.cell?_spot h0;rw [Nat.zero_mul] at h1;exact h1
   subst Rz;have ha : ∀ j,(⟨b,off,none⟩:Addr).add j=⟨b,off+j,none⟩:=fun j=>by unfold Addr.add;split <;> simp_all
   refine ⟨b,off,rfl,fun j u hu=>?_,hP⟩;have:=hc j u hu;rw [ha] at this;rw [Nat.add_assoc];exact this
theorem zNl {fuel:Nat} {x:DataW H × List MemPlace} {v:Value} (h:DataW.trod enc Tryz.prog w base (fun _=>true) held fuel 37 [v]=some x) :
 ∃ ha hcp,∃ cs:List Chg,v = .slice ha cs.length hcp∧SlC w ha cs∧cs.length≤hcp:=by
 obtain ⟨ha,hcp,L,e1,e2,e3⟩:=zJR (S:=Chg) Chg.cells (fun _=>True) Tryz.underlying37 zCQ (by omega) ⟨0,0,0,0,0⟩ (by
  intro n cs y hl hy;obtain ⟨c0,c1,c2,c3,c4,rfl⟩:=list5 hl;obtain ⟨y0,y1,y2,m,_,_,h0,h1,h2⟩:=Go.Deep.trod_struct3 Tryz.underlying96 hy;have h0:DataW.trod enc Tryz.prog w base (fun _=>true) held m 23 [c0,c1,c2]=some y0:=by simpa [zCa] using h0
  have h1:DataW.trod enc Tryz.prog w base (fun _=>true) held m 3 [c3]=some y1:=by simpa [zCX] using h1
  have h2:DataW.trod enc Tryz.prog w base (fun _=>true) held m 3 [c4]=some y2:=by simpa [zCX] using h2
  obtain ⟨a,b,c,rfl,rfl,rfl⟩:=zNq h0;obtain ⟨d,rfl,_⟩:=zNo h1;obtain ⟨e,rfl,_⟩:=zNo h2;exact ⟨⟨a,b,c,d,e⟩,rfl,trivial⟩) h
 refine ⟨ha,hcp,L,e1,fun i c hc=>?_,e2⟩;obtain ⟨b,off,rfl,hj,_⟩:=e3 i c hc;exact ⟨b,off,rfl,hj 0 _ rfl,hj 1 _ rfl,hj 2 _ rfl,hj 3 _ rfl,hj 4 _ rfl⟩
theorem zNm {Uf:Nat→Bool} {fuel:Nat} {x:DataW H × List MemPlace} {c0 c1 c2 c3:Value} (h:DataW.trod enc Tryz.prog w base Uf held fuel 39 [c0,c1,c2,c3]=some x) :
 ∃ a b c d:Int,c0 = .int .i64 a∧c1 = .int .i64 b∧c2 = .int .i64 c∧c3 = .int .i64 d:=by
 obtain ⟨y0,y1,n,_,_,h0,h1⟩:=trod_struct2 Tryz.underlying39 h;have h0:DataW.trod enc Tryz.prog w base Uf held n 23 [c0,c1,c2]=some y0:=by simpa [zCa] using h0
 have h1:DataW.trod enc Tryz.prog w base Uf held n 3 [c3]=some y1:=by simpa [zCX] using h1
 obtain ⟨a,b,c,e0,e1,e2⟩:=zNq h0;obtain ⟨d,e3,_⟩:=zNo h1;exact ⟨a,b,c,d,e0,e1,e2,e3⟩
theorem zNn {fuel:Nat} {x:DataW H × List MemPlace} {c0 c1 c2 c3 c4 c5 c6:Value} (h:DataW.trod enc Tryz.prog w base (fun _=>true) held fuel 28 [c0,c1,c2,c3,c4,c5,c6]=some x) :
 ∃ (a b c d e f:Int) (ha:Option Addr) (hcp:Nat) (xs:List Int),[c0,c1,c2,c3,c4,c5,c6]=[.int .i64 a,.int .i64 b,.int .i64 c,.int .i64 d,.int .i64 e,.int .i64 f,.slice ha xs.length hcp]∧Sl w .i64 ha xs∧xs.length≤hcp:=by
 obtain ⟨y0,y1,n,_,_,h0,h1⟩:=trod_struct2 Tryz.underlying28 h;have h0:DataW.trod enc Tryz.prog w base (fun _=>true) held n 25 [c0,c1,c2,c3,c4,c5]=some y0:=by simpa [zCP] using h0
 have h1:DataW.trod enc Tryz.prog w base (fun _=>true) held n 26 [c6]=some y1:=by simpa [zCY] using h1
 obtain ⟨a,b,c,d,e,f,rfl,rfl,rfl,rfl,rfl,rfl⟩:=zNk h0;obtain ⟨ha,hcp,xs,rfl,hs,hc⟩:=zNp h1;exact ⟨a,b,c,d,e,f,ha,hcp,xs,rfl,hs,hc⟩
theorem zNs {P:Program} {Uf:Nat→Bool} {t:TypeId} {f0 f1 f2 f3 f4 f5 f6:Field} {fuel:Nat} {cs:List Value} {x:DataW H × List MemPlace} (ht:P.underlying t=some (.struct #[f0,f1,f2,f3,f4,f5,f6])) (h:DataW.trod enc P w base Uf held fuel t cs=some x) :
 ∃ y0 y1 y2 y3 y4 y5 y6 n, DataW.trod enc P w base Uf held n f0.type ((cs.drop f0.offset).take (P.cellsOf f0.type)) = some y0 ∧ DataW.trod enc P w base Uf held n f1.type ((cs.drop f1.offset).take (P.cellsOf f1.type)) = some y1 ∧
   DataW.trod enc P w base Uf held n f2.type ((cs.drop f2.offset).take (P.cellsOf f2.type))=some y2∧DataW.trod enc P w base Uf held n f3.type ((cs.drop f3.offset).take (P.cellsOf f3.type))=some y3 ∧
   DataW.trod enc P w base Uf held n f4.type ((cs.drop f4.offset).take (P.cellsOf f4.type))=some y4∧DataW.trod enc P w base Uf held n f5.type ((cs.drop f5.offset).take (P.cellsOf f5.type))=some y5 ∧
   DataW.trod enc P w base Uf held n f6.type ((cs.drop f6.offset).take (P.cellsOf f6.type))=some y6:=by
 obtain ⟨xs,n,_,rfl,hl,Od,hf⟩:=DataW.trod_struct ht h
 match xs,Od with
 | [y0,y1,y2,y3,y4,y5,y6],_=>exact ⟨y0,y1,y2,y3,y4,y5,y6,n,by simpa using hf 0 f0 rfl,by simpa using hf 1 f1 rfl,by simpa using hf 2 f2 rfl,by simpa using hf 3 f3 rfl,by simpa using hf 4 f4 rfl,by simpa using hf 5 f5 rfl,by simpa using hf 6 f6 rfl⟩
theorem zNr {fuel:Nat} {x:DataW H × List MemPlace} {cs:List Value} (hl:cs.length=24) (h:DataW.trod enc Tryz.prog w base (fun _=>true) held fuel 41 cs=some x) :
 ∃ s:Stp,cs=s.arr.toList∧StpOk w s:=by
 obtain ⟨a0,a1,a2,a3,a4,a5,a6,a7,a8,a9,a10,a11,a12,a13,a14,a15,a16,a17,a18,a19,a20,a21,a22,a23,rfl⟩:=list24 hl;obtain ⟨y0,y1,y2,y3,y4,y5,y6,n,h0,h1,h2,h3,h4,h5,h6⟩:=zNs Tryz.underlying41 h;have h0:DataW.trod enc Tryz.prog w base (fun _=>true) held n 3 [a0]=some y0:=by simpa [zCX] using h0
 have h1:DataW.trod enc Tryz.prog w base (fun _=>true) held n 25 [a1,a2,a3,a4,a5,a6]=some y1:=by simpa [zCP] using h1
 have h2:DataW.trod enc Tryz.prog w base (fun _=>true) held n 3 [a7]=some y2:=by simpa [zCX] using h2
 have h3:DataW.trod enc Tryz.prog w base (fun _=>true) held n 28 [a8,a9,a10,a11,a12,a13,a14]=some y3:=by simpa [zCW] using h3
 have h4:DataW.trod enc Tryz.prog w base (fun _=>true) held n 37 [a15]=some y4:=by simpa [zCR] using h4
 have h5:DataW.trod enc Tryz.prog w base (fun _=>true) held n 39 [a16,a17,a18,a19]=some y5:=by simpa [zCS] using h5
 have h6:DataW.trod enc Tryz.prog w base (fun _=>true) held n 39 [a20,a21,a22,a23]=some y6:=by simpa [zCS] using h6
 obtain ⟨kd,rfl,_⟩:=zNo h0;obtain ⟨b0,b1,b2,b3,b4,b5,rfl,rfl,rfl,rfl,rfl,rfl⟩:=zNk h1;obtain ⟨cell,rfl,_⟩:=zNo h2;obtain ⟨g0,g1,g2,g3,g4,g5,ga,gc,ys,e3,TP,NE⟩:=zNn h3;obtain ⟨la,lc,chs,rfl,Lr,hlc⟩:=zNl h4;obtain ⟨p0,p1,p2,p3,rfl,rfl,rfl,rfl⟩:=zNm h5;obtain ⟨q0,q1,q2,q3,rfl,rfl,rfl,rfl⟩:=zNm h6;simp only [List.cons.injEq,and_true] at e3;obtain ⟨rfl,rfl,rfl,rfl,rfl,rfl,rfl⟩:=e3;exact ⟨⟨kd,⟨⟨b0,b1,b2⟩,⟨b3,b4,b5⟩⟩,cell,⟨⟨g0,g1,g2⟩,⟨g3,g4,g5⟩⟩,ga,ys,gc,la,chs,lc,⟨p0,p1,p2⟩,p3,⟨q0,q1,q2⟩,q3⟩,rfl,⟨TP,NE,Lr,hlc⟩⟩
theorem zJS {r:Reach} {b0:Nat} {v:Value} {d:DataW H} {p:List MemPlace} (hv:Value.okWide Tryz.prog w r b0 29 v) (h:DataW.Trod enc Tryz.prog w base (fun _=>true) held 29 v d p) :
 ∃ ha hcp,∃ L:List Stp,v = .slice ha L.length hcp∧SlS w ha L∧L.length≤hcp:=by
 obtain ⟨a,n,cap,rfl⟩:=okWide_slice Tryz.underlying29 hv;obtain ⟨fuel,hf⟩:=h;obtain ⟨ha,hcp,L,e1,e2,e3⟩:=zJR (S:=Stp) (fun s=>s.arr.toList) (StpOk w) Tryz.underlying29 zCb (by omega) ⟨0,⟨⟨0,0,0⟩,⟨0,0,0⟩⟩,0,⟨⟨0,0,0⟩,⟨0,0,0⟩⟩,none,[],0,none,[],0,⟨0,0,0⟩,0,⟨0,0,0⟩,0⟩ (fun hl hy=>zNr hl hy) (by simpa [Value.cells] using hf)
 refine ⟨ha,hcp,L,e1,fun i s hs=>?_,e2⟩;obtain ⟨b,off,rfl,hj,ho⟩:=e3 i s hs;exact ⟨b,off,rfl,fun j v hv=>hj j v (by simpa using hv),ho⟩
end
end
end Go.Proofs.YtfcbajmjaifjlaaGreat