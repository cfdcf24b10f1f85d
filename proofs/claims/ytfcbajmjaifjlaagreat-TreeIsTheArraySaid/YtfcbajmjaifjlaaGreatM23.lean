/- Gwr, CanP, ShaP, Tfn, RlT: joined by program, for one claim. -/
import Derived.Test.YtfcbajmjaifjlaaGreatM22
import Derived.Deep.Cut
import Derived.Test.YtfcbajmjaifjlaaGreatM20
import Derived.Test.YtfcbajmjaifjlaaGreatM4
import Derived.Test.YtfcbajmjaifjlaaGreatM10
set_option linter.unusedVariables false
set_option linter.unusedSimpArgs false
namespace Go.Proofs.YtfcbajmjaifjlaaGreat
section
open Go.RowKit Go.Sort
structure Chg where
 x:Int
 y:Int
 z:Int
 o:Int
 n:Int
abbrev Chg.at (c:Chg):Pt:=⟨c.x,c.y,c.z⟩
def Chg.cells (c:Chg):List Value:=[.int .i64 c.x,.int .i64 c.y,.int .i64 c.z,.int .i64 c.o,.int .i64 c.n]
def SlC (w:World) (a:Option Addr) (cs:List Chg):Prop := ∀ (i:Nat) (c:Chg),cs[i]? = some c → ∃ b off,a=some ⟨b,off,none⟩∧w.cell? ⟨b,off+i * 5,none⟩=some (.int .i64 c.x)∧w.cell? ⟨b,off+i * 5+1,none⟩=some (.int .i64 c.y)∧w.cell? ⟨b,off+i * 5+2,none⟩=some (.int .i64 c.z)∧w.cell? ⟨b,off+i * 5+3,none⟩=some (.int .i64 c.o)∧w.cell? ⟨b,off+i * 5+4,none⟩=some (.int .i64 c.n)
theorem SlC.of_block {w w':World} {a:Option Addr} {cs:List Chg} (h:SlC w a cs) (hb : ∀ b,a.map (·.block)=some b→b<w.heap.size→w'.heap[b]? = w.heap[b]?):SlC w' a cs:=by
 intro i c hc
 obtain ⟨b,off,rfl,c0,c1,c2,c3,c4⟩:=h i c hc
 have hh:=hb b rfl (World.block_lt_of_cell? w _ c0)
 exact ⟨b,off,rfl,(World.cell?_of_block hh).trans c0,(World.cell?_of_block hh).trans c1,(World.cell?_of_block hh).trans c2,(World.cell?_of_block hh).trans c3,(World.cell?_of_block hh).trans c4⟩
theorem SlC.below {w w':World} {a:Option Addr} {cs:List Chg} (h:SlC w a cs) (hb:Below w.heap.size w w'):SlC w' a cs:=h.of_block fun b _ hl=>hb.block b hl
theorem SlC.grown {w w':World} {a:Option Addr} {cs:List Chg} {g:Nat} (h:SlC w a cs) (hg:w.grownBy w' (some g)) (hne:a.map (·.block) ≠ some g):SlC w' a cs:=h.of_block fun b hb hl=>hg.block b hl (fun e=>hne (by rw [hb,e]))
def wr1 (B:Box) (xs:List Int) (c:Chg):List Int:=if inB c.at B=true then xs.set (indexB B c.at).toNat c.n else xs
def wrL (B:Box) (cs:List Chg) (xs:List Int):List Int:=cs.foldl (wr1 B) xs
theorem wr1_len (B:Box) (xs:List Int) (c:Chg):(wr1 B xs c).length=xs.length:=by
 unfold wr1;split
 · rw [List.length_set]
 · rfl
theorem wrL_len (B:Box) : ∀ (cs:List Chg) (xs:List Int),(wrL B cs xs).length=xs.length
 | [],_=>rfl
 | c::cs,xs=>(wrL_len B cs (wr1 B xs c)).trans (wr1_len B xs c)
theorem wrL_take {B:Box} {cs:List Chg} {xs:List Int} {j:Nat} {c:Chg} (h:cs[j]? = some c):wrL B (cs.take (j+1)) xs=wr1 B (wrL B (cs.take j) xs) c:=by
 obtain ⟨hl,rfl⟩:=List.getElem?_eq_some_iff.1 h
 unfold wrL
 rw [List.take_succ_eq_append_getElem hl,List.foldl_append];rfl
set_option maxRecDepth 100000 in
set_option maxHeartbeats 1000000 in
theorem write_clo (pl pg g N cap Bd:Nat) (a b c d e f:Int) (gc:Value) (ha:Option Addr) (hcp:Nat) (cs:List Chg) (xs:List Int) (w:World) (hSA:Small ⟨⟨a,b,c⟩,⟨d,e,f⟩⟩ 1048575)
 (hxl:xs.length=(volB ⟨⟨a,b,c⟩,⟨d,e,f⟩⟩).toNat) (hN:N≤4194304) (hC:cs.length≤4194304) (hcap:cs.length≤hcp)
 (kl:Bk w pl #[.slice ha cs.length hcp] 37) (kg:Bk w pg #[a,b,c,d,e,f,gc] 28) (hcs:SlC w ha cs) (ho:Own w Bd 3 .i64 (.slice (some ⟨g,0,none⟩) N cap) xs) (hgl:g ≠ pl) (hgg:g ≠ pg) (hga:cs ≠ []→ha.map (·.block) ≠ some g) :
 Calls Tryz.prog 164 #[.slice (some ⟨g,0,none⟩) N cap,.pointer (some ⟨pl,0,none⟩),.pointer (some ⟨pg,0,none⟩)] w fun e' w'=>e' = .returned (.tuple #[])∧Own w' Bd 3 .i64 (.slice (some ⟨g,0,none⟩) N cap) (wrL ⟨⟨a,b,c⟩,⟨d,e,f⟩⟩ cs xs)∧w.grownBy w' (some g):=by
 have hNl:xs.length=N:=ho.raw.choose_spec.2.2.2.2.2.2.symm
 have HSA:=Bx.mk hSA
 have Kg:=Bx.mk kg
 have Ho:=Bx.mk ho
 have Hcs:=Bx.mk hcs
 have Hxl:=Bx.mk hxl
 have c0:=kl.cell 0 rfl
 clear kg ho hcs hSA hxl
 go_enter Tryz.func164,Tryz.ntmps164
 go_wp2_with fail
 have HI:Bx (Own w Bd 3 .i64 (.slice (some ⟨g,0,none⟩) N cap) (wrL ⟨⟨a,b,c⟩,⟨d,e,f⟩⟩ (cs.take 0) xs)∧w.grownBy w (some g)):=⟨⟨Ho.out,⟨rfl,rfl,rfl,Nat.le_refl _,fun _ _ _=>rfl⟩⟩⟩
 clear c0
 go_loopw [9] (fun i wr => ∃ j:Nat,j≤cs.length∧i = .int .i64 j∧Bx (Own wr Bd 3 .i64 (.slice (some ⟨g,0,none⟩) N cap) (wrL ⟨⟨a,b,c⟩,⟨d,e,f⟩⟩ (cs.take j) xs)∧w.grownBy wr (some g))) (fun i _=>cs.length - (intOf i).toNat)
 case atStart=>exact ⟨0,Nat.zero_le _,rfl,HI⟩
 case round =>
  clear HI
  obtain ⟨j,hj,rfl,hI⟩:=hrel
  by_cases hlt:j<cs.length
  · obtain ⟨⟨px,py,pz,po,pn⟩,hed⟩ : ∃ ed,cs[j]? = some ed:=⟨_,List.getElem?_eq_getElem hlt⟩
    obtain ⟨bk,off,rfl,c0,c1,c2,c3,c4⟩:=(Hcs.out.grown hI.out.2 (hga (List.ne_nil_of_length_pos (by omega)))) j _ hed
    have kg:=Kg.out.grown hI.out.2 (Ne.symm hgg)
    have hwr:=wrL_take (B:=⟨⟨a,b,c⟩,⟨d,e,f⟩⟩) (xs:=xs) hed
    have hwl:=wrL_len ⟨⟨a,b,c⟩,⟨d,e,f⟩⟩ (cs.take j) xs
    obtain ⟨k,hk⟩ : ∃ k,indexB ⟨⟨a,b,c⟩,⟨d,e,f⟩⟩ ⟨px,py,pz⟩=k:=⟨_,rfl⟩
    have hin:=Bx.mk fun W=>(index_any a b c d e f px py pz HSA.out W).mono fun e' w' h=>(⟨h.1.trans (by rw [hk]),h.2⟩:e' = .returned (.int .i64 k)∧Below W.heap.size W w')
    unfold wr1 at hwr
    simp only [Chg.at] at hwr
    have t0:decide ((j:Int)<(cs.length:Int))=true:=by simp;omega
    have b1:(0:Int)≤(j:Int):=by omega
    have b2:(j:Int)<(cs.length:Int):=by omega
    have hwr:=Bx.mk hwr
    have hgb:bk ≠ g:=fun e=>hga (List.ne_nil_of_length_pos (by omega)) (by rw [←e];rfl)
    have HSz:=hI.out.2.size
    have hgl2:=(hI.out.1.lt g rfl).2
    dsimp only at c0 c1 c2 c3 c4
    by_cases hi:inB ⟨px,py,pz⟩ ⟨⟨a,b,c⟩,⟨d,e,f⟩⟩=true
    · have hbd:=indexB_bd hi
      rw [hk] at hbd
      obtain ⟨m,rfl⟩ : ∃ m:Nat,k=(m:Int):=⟨k.toNat,(Int.toNat_of_nonneg hbd.1).symm⟩
      have hmN:m<N:=by have:=Hxl.out;omega
      have hwr2:Bx (wrL ⟨⟨a,b,c⟩,⟨d,e,f⟩⟩ (cs.take (j+1)) xs=(wrL ⟨⟨a,b,c⟩,⟨d,e,f⟩⟩ (cs.take j) xs).set m pn):=⟨by rw [hwr.out,if_pos hi,hk];rfl⟩
      clear hi hbd hk hed hwr
      go_upto_region 3 with fail
      generalize hW:World.alloc wr _=W
      have hb:=bl1 hW
      have kx:Bk W wr.heap.size #[px,py,pz,po,pn] 96:=bk0 hW rfl
      clear hW c0 c1 c2 c3 c4
      have kg1:=kg.later hb
      obtain ⟨g0,g1,g2,g3,g4,g5⟩:=kg1.c6
      obtain ⟨x0,x1,x2⟩:=kx.c3
      clear kg kg1
      go_wp2_with fail
      refine (hin.out _).mono ?_
      rintro _ w4 ⟨rfl,hb4⟩
      clear g0 g1 g2 g3 g4 g5 x0 x1 x2
      replace kx:=kx.later hb4
      have hb5:=hb.trans (hb4.mono hb.size)
      clear hb hb4
      have x4:=kx.cell 4 rfl
      have ho5:=hI.out.1.below hb5
      have hor:=ho5.at (by rw [hwl];omega)
      rw [hwl,hNl] at hor
      obtain ⟨g',cap',hv,-,hgs,h3,h4,h5⟩:=hor
      injection hv with hv1 hv2 hv3
      injection hv1 with hv1
      injection hv1 with hv1
      subst hv1 hv3
      obtain ⟨old,hold⟩ : ∃ x,(wrL ⟨⟨a,b,c⟩,⟨d,e,f⟩⟩ (cs.take j) xs)[m]? = some x:=⟨_,List.getElem?_eq_getElem (by omega)⟩
      have hcell:=h3 m old hold
      have hfr:=h4 m
      have h6:=h5 m pn
      rw [←hwr2.out] at h6
      have hgr:w.grownBy w4 (some g):=hI.out.2.trans ⟨hb5.os,hb5.tape,hb5.output,hb5.size,fun k hk _=>hb5.block k hk⟩
      have HJ:=Bx.mk (And.intro h6 (grown_set hgr m (.int .i64 pn)))
      have p1:(0:Int)≤(m:Int):=by omega
      have p2:(m:Int)<(N:Int):=by omega
      clear h3 h4 h5 h6 hold hgr ho5 hI kx hwr2 hwl
      go_wp2_with fail
      go_roundw
      case rel=>exact ⟨j+1,by omega,by go_num,HJ⟩
      case measure=>simp [intOf];omega
    · have hk1:k = -1:=by rw [←hk];unfold indexB;rw [if_neg hi]
      subst hk1
      have hwr2:Bx (wrL ⟨⟨a,b,c⟩,⟨d,e,f⟩⟩ (cs.take (j+1)) xs=wrL ⟨⟨a,b,c⟩,⟨d,e,f⟩⟩ (cs.take j) xs):=⟨by rw [hwr.out,if_neg hi]⟩
      clear hi hk hed hwr
      go_upto_region 3 with fail
      generalize hW:World.alloc wr _=W
      have hb:=bl1 hW
      have kx:Bk W wr.heap.size #[px,py,pz,po,pn] 96:=bk0 hW rfl
      clear hW c0 c1 c2 c3 c4
      have kg1:=kg.later hb
      obtain ⟨g0,g1,g2,g3,g4,g5⟩:=kg1.c6
      obtain ⟨x0,x1,x2⟩:=kx.c3
      clear kg kg1
      go_wp2_with fail
      refine (hin.out _).mono ?_
      rintro _ w4 ⟨rfl,hb4⟩
      clear g0 g1 g2 g3 g4 g5 x0 x1 x2
      replace kx:=kx.later hb4
      have hb5:=hb.trans (hb4.mono hb.size)
      clear hb hb4
      have hgr:w.grownBy w4 (some g):=hI.out.2.trans ⟨hb5.os,hb5.tape,hb5.output,hb5.size,fun k hk _=>hb5.block k hk⟩
      have HJ:Bx (Own w4 Bd 3 .i64 (.slice (some ⟨g,0,none⟩) N cap) (wrL ⟨⟨a,b,c⟩,⟨d,e,f⟩⟩ (cs.take (j+1)) xs)∧w.grownBy w4 (some g)):=⟨by rw [hwr2.out];exact ⟨hI.out.1.below hb5,hgr⟩⟩
      clear hgr hI kx hwr2 hwl
      go_wp2_with fail
      go_roundw
      case rel=>exact ⟨j+1,by omega,by go_num,HJ⟩
      case measure=>simp [intOf];omega
  · obtain rfl:j=cs.length:=by omega
    rw [List.take_of_length_le (Nat.le_refl _)] at hI
    have t0:decide ((cs.length:Int)<(cs.length:Int))=false:=by simp
    go_wp2_with fail
    go_end0
    exact ⟨rfl,hI.out.1,hI.out.2⟩
set_option maxRecDepth 100000 in
set_option maxHeartbeats 1000000 in
theorem gridWrite_any (a b c d e f:Int) (ga ha:Option Addr) (gcap hcp:Nat) (xs:List Int) (cs:List Chg) (w:World) (hC:cs.length≤4194304) (hcap:cs.length≤hcp) (hcs:SlC w ha cs) (hSA:Small ⟨⟨a,b,c⟩,⟨d,e,f⟩⟩ 1048575) (hxl:xs.length=(volB ⟨⟨a,b,c⟩,⟨d,e,f⟩⟩).toNat) (hX1:1≤xs.length) (hN:xs.length≤4194304) (hg:Sl w .i64 ga xs) :
 Calls Tryz.prog 119 #[.agg #[a,b,c,d,e,f,.slice ga xs.length gcap],.slice ha cs.length hcp] w (RetG1 a b c d e f xs.length (wrL ⟨⟨a,b,c⟩,⟨d,e,f⟩⟩ cs xs) w):=by
 have hch:=Bx.mk fun pg pl W (h1:Bk W pg #[a,b,c,d,e,f,.slice ga xs.length gcap] 28) (h2:Bk W pl #[.slice ha cs.length hcp] 37) (h3:SlC W ha cs) (h4:Sl W .i64 ga xs) (h5 : ∀ b,cs ≠ []→ha.map (·.block)=some b→b<W.heap.size) =>
  changed_any 164 #[.pointer (some ⟨pl,0,none⟩),.pointer (some ⟨pg,0,none⟩)] ⟨enters_of Tryz.func164 rfl rfl⟩ a b c d e f ga gcap xs (wrL ⟨⟨a,b,c⟩,⟨d,e,f⟩⟩ cs xs) W hX1 hN h4
   ⟨fun Bd g N cap V hb hgs hNe ho=>write_clo pl pg g N cap Bd a b c d e f (.slice ga xs.length gcap) ha hcp cs xs V hSA hxl (by omega) hC hcap (h2.later hb) (h1.later hb) (h3.below hb) ho (by have:=h2.lt;omega) (by have:=h1.lt;omega) (fun hn e=>by have:=h5 g hn e;omega)⟩
 have hlo:Bx (∀ b,cs ≠ []→ha.map (·.block)=some b→b<w.heap.size):=⟨fun b hn hb=>by
  obtain ⟨c,r,rfl⟩:=List.exists_cons_of_ne_nil hn
  obtain ⟨b',off,rfl,c0,-⟩:=hcs 0 c rfl
  obtain rfl:=Option.some.inj hb
  exact World.block_lt_of_cell? w _ c0⟩
 have Hcs:=Bx.mk hcs
 have hlen:=Bx.mk (wrL_len ⟨⟨a,b,c⟩,⟨d,e,f⟩⟩ cs xs).symm
 have Hg:=Bx.mk hg
 clear hSA hxl hX1 hN hg hC hcap hcs
 go_enter Tryz.func119,Tryz.ntmps119
 go_wp2_with fail
 generalize hW:World.alloc (World.alloc (World.alloc w _) _) _=W
 have hSz:=sz3 hW
 have hB:=bl3 hW
 have kg:Bk W (w.heap.size) #[a,b,c,d,e,f,.slice ga xs.length gcap] 28:=bk2 hW
 have kl:Bk W (w.heap.size+1) #[.slice ha cs.length hcp] 37:=bk1 hW
 have kr:Bk W (w.heap.size+1+1) #[(0:Int),(0:Int),(0:Int),(0:Int),(0:Int),(0:Int),.slice none 0 0] 28:=bk0 hW
 clear hW
 obtain ⟨cg0,cg1,cg2,cg3,cg4,cg5,cg6⟩:=kg.c7
 go_wp2_with fail
 refine (hch.out _ _ _ kg kl (Hcs.out.below hB) (Hg.out.below hB) (fun b hn hb=>Nat.lt_of_lt_of_le (hlo.out b hn hb) hB.size)).mono ?_
 rintro e' w1 ⟨u,rfl,ho,hb⟩
 obtain ⟨Bd,hBd⟩ : ∃ Bd,Bd=W.heap.size:=⟨_,rfl⟩
 rw [←hBd] at ho hb
 have hSd:w.heap.size+3≤Bd:=by omega
 replace hb:Below W.heap.size W w1:=hBd ▸ hb
 clear hch Hg
 clear cg0 cg1 cg2 cg3 cg4 cg5 cg6
 replace hB:=hB.trans (hb.mono hB.size)
 replace kg:=kg.later hb
 replace kr:=kr.later hb
 replace hSz:=Nat.le_trans hSz hb.size
 clear hb
 obtain ⟨pa,pe,rfl,-⟩:=ho.form
 rw [←hlen.out] at ho
 rw [←hlen.out]
 have Ho:=Bx.mk ho
 clear ho
 obtain ⟨cr0,cr1,cr2,cr3,cr4,cr5,cr6⟩:=kr.c7
 obtain ⟨fr0,fr1,fr2,fr3,fr4,fr5,fr6⟩:=kr.f7
 go_wp2_with fail
 replace kr:=kr.put7 (.int .i64 a) (.int .i64 b) (.int .i64 c) (.int .i64 d) (.int .i64 e) (.int .i64 f) (.slice pa xs.length pe)
 exact bodyPost_ret (v:=.agg #[a,b,c,d,e,f,.slice pa xs.length pe]) (results_cell_row rfl _ _ _ 28 #[a,b,c,d,e,f,.slice pa xs.length pe] (0,0) _ rfl kr Tryz.underlying28 rfl (by kernel_rfl)) rfl ⟨_,_,rfl,hlen.out,(((((((Ho.out.setBelow (by simp;omega) _).setBelow (by simp;omega) _).setBelow (by simp;omega) _).setBelow (by simp;omega) _).setBelow (by simp;omega) _).setBelow (by simp;omega) _).setBelow (by simp;omega) _).base (by omega),blw7 hB (by omega) _ _ _ _ _ _ _⟩
end
section
open Oct
def fs (F H:Pt→Int) (pt:Nat→Pt):Nat→Pt→Int
 | 0=>F
 | i+1=>Tr.upd (fs F H pt i) (pt i) (H (pt i))
end
section
open Oct
def shf (d:Pt) (f:Pt→Int):Pt→Int:=fun o=>f ⟨d.x+o.x,d.y+o.y,d.z+o.z⟩
theorem can_shift (d:Pt) (f:Pt→Int) : ∀ (n:Nat) (b:Pt),Tr.can (shf d f) n b=Tr.can f n ⟨d.x+b.x,d.y+b.y,d.z+b.z⟩
 | 0, b => by
   unfold Tr.can
   congr 1
   apply List.map_congr_left
   intro k _
   unfold shf Tr.cellAt
   simp only [Int.add_assoc]
 | n + 1, b => by
   unfold Tr.can
   congr 1
   funext i
   rw [can_shift d f n]
   unfold Tr.cor
   simp only [Int.add_assoc]
def AlP (L:Nat) (p:Pt):Prop:=p.x % 2 ^ L=0∧p.y % 2 ^ L=0∧p.z % 2 ^ L=0
theorem corner_eq {m:Nat} {a p:Pt} (ha:Tr.Al m a) (hI:Tr.InC m a p) (hp:AlP (m+2) p):p=a:=by
 obtain ⟨a1,a2,a3⟩:=ha
 obtain ⟨i1,i2,i3⟩:=hI
 obtain ⟨p1,p2,p3⟩:=hp
 have e1:=Int.mul_ediv_add_emod p.x (2 ^ (m+2))
 have e2:=Int.mul_ediv_add_emod p.y (2 ^ (m+2))
 have e3:=Int.mul_ediv_add_emod p.z (2 ^ (m+2))
 have f1:=Int.mul_ediv_add_emod a.x (2 ^ (m+2))
 have f2:=Int.mul_ediv_add_emod a.y (2 ^ (m+2))
 have f3:=Int.mul_ediv_add_emod a.z (2 ^ (m+2))
 rw [i1,p1] at e1
 rw [i2,p2] at e2
 rw [i3,p3] at e3
 rw [a1] at f1
 rw [a2] at f2
 rw [a3] at f3
 cases p;cases a
 simp only [Pt.mk.injEq] at *
 omega
theorem partT_kid {t:Tr} {m L:Nat} {p:Pt} (hD:Dep (m+1) t) (hL:L<m+3):partT t (m+1) L p=partT (t.kid (Tr.oct m p)) m L p:=by
 cases hD with
 | uni _ c=>rw [partT_uni];exact partT_uni.symm
 | node _ ch hch=>rw [partT_node hL];rfl
theorem partT_can (f:Pt→Int) : ∀ (m L:Nat) (a p:Pt),Tr.Al m a→Tr.InC m a p→2≤L→L≤m+2→AlP L p→partT (Tr.can f m a) m L p=Tr.can f (L - 2) p
 | 0, L, a, p, ha, hI, h2, hL, hp => by
   obtain rfl:L=2:=by omega
   rw [partT_stop (by omega),corner_eq ha hI hp]
 | m + 1, L, a, p, ha, hI, h2, hL, hp => by
   by_cases h:L<m+3
   · rw [partT_kid (dep_can f (m+1) a) h]
     have e:(Tr.can f (m+1) a).kid (Tr.oct m p)=Tr.can f m (Tr.cor a m (Tr.oct m p).val):=Tr.mkInner_kid _ _ _
     rw [e]
     exact partT_can f m L _ p (Tr.al_cor ha _) (Tr.inC_step ha hI) h2 (by omega) hp
   · obtain rfl:L=m+1+2:=by omega
     rw [partT_stop (by omega),corner_eq ha hI hp]
     rfl
def cb (p:Pt) (L:Nat):Box:=⟨p,⟨p.x+2 ^ L,p.y+2 ^ L,p.z+2 ^ L⟩⟩
theorem alB_iff {L:Nat} {p:Pt}:alB L p=true ↔ AlP L p:=by unfold alB AlP;simp
end
section
open Go.RowKit
open Oct
theorem kid_in {ts:List Tr} (hG:Good ts) {t:Tr} (ht:t∈ts) (i:Fin 8):t.kid i∈ts:=by
 cases t with
 | uni c=>exact ht
 | brick l=>exact ht
 | node d ch=>exact hG.closed.2 d ch ht i
theorem can_kid (f:Pt→Int) (n:Nat) (a:Pt) (i:Fin 8):(Tr.can f (n+1) a).kid i=Tr.can f n (Tr.cor a n i.val):=Tr.mkInner_kid (n+3) (fun i:Fin 8=>Tr.can f n (Tr.cor a n i.val)) i
theorem can_kid_in {f:Pt→Int} {n:Nat} {a:Pt} {ts:List Tr} (hG:Good ts) (h:Tr.can f (n+1) a∈ts) (i:Fin 8):Tr.can f n (Tr.cor a n i.val)∈ts:=by
 rw [←can_kid];exact kid_in hG h i
theorem ins_len' (t:Tr) (ts:List Tr):(Tr.ins t ts).length≤ts.length+1:=by
 by_cases h:t∈ts
 · rw [Tr.ins_of_mem h];omega
 · rw [Tr.ins_of_not h,List.length_append,List.length_singleton];omega
theorem mkBrick_len (l:List Int) (ts:List Tr):(Tr.add (Tr.mkBrick l) ts).length≤ts.length+1:=by
 unfold Tr.mkBrick
 split
 · rw [Tr.add_uni];exact ins_len' _ _
 · rw [Tr.add_brick];exact ins_len' _ _
theorem chg_len {f f':Pt→Int} (hf : ∀ p,0≤f' p∧f' p≤255) (L:List Pt) : ∀ (n:Nat) (a:Pt) (ts us:List Tr),n≤200→Tr.Al n a→Good us→ts <+: us→Good ts→Tr.can f n a∈ts→(∀ p,Tr.InC n a p→f' p ≠ f p→p∈L) →
 (Tr.add (Tr.can f' n a) us).length≤us.length+(n+1) * cn L n a:=by
 intro n
 induction n with
 | zero =>
   intro a ts us hn ha hGu hp hG ht hL
   by_cases hc:cn L 0 a=0
   · have e:Tr.can f' 0 a=Tr.can f 0 a:=Tr.can_congr 0 a ha fun p hp=>Classical.byContradiction fun h=>by have:=cn_pos (hL p hp h) hp;omega
     rw [e,Tr.add_same _ _ (hp.subset ht)];omega
   · have:=mkBrick_len ((List.range 64).map fun k=>f' (Tr.cellAt a k)) us
     show (Tr.add (Tr.mkBrick _) us).length≤_
     omega
 | succ n ih =>
   intro a ts us hn ha hGu hp hG ht hL
   by_cases hc:cn L (n+1) a=0
   · have e:Tr.can f' (n+1) a=Tr.can f (n+1) a:=Tr.can_congr (n+1) a ha fun p hp=>Classical.byContradiction fun h=>by have:=cn_pos (hL p hp h) hp;omega
     rw [e,Tr.add_same _ _ (hp.subset ht)];omega
   · have hW : ∀ i:Fin 8,Tr.WF (Tr.can f' n (Tr.cor a n i.val)):=fun i=>wf_can hf n _ (by omega)
     have key : ∀ k,k≤8→(Tr.addK (fun i:Fin 8=>Tr.can f' n (Tr.cor a n i.val)) k us).length≤us.length+(n+1) * ((List.ofFn fun i:Fin 8=>cn L n (Tr.cor a n i.val)).take k).sum:=by
      intro k
      induction k with
      | zero=>intro _;rw [Tr.addK_zero];simp
      | succ k ihk =>
        intro hk
        rw [Tr.addK_succ _ (by omega)]
        have h2:=ihk (by omega)
        have h1:=ih (Tr.cor a n k) ts (Tr.addK (fun i:Fin 8=>Tr.can f' n (Tr.cor a n i.val)) k us) (by omega) (Tr.al_cor ha k) (good_addK hGu hW k (by omega)) (hp.trans (Tr.addK_prefix _ k (by omega) us)) hG (can_kid_in hG ht ⟨k,by omega⟩) (fun p hp h=>hL p (Tr.inC_other ha (i:=⟨k,by omega⟩) hp).2 h)
        rw [List.take_succ_eq_append_getElem (by simpa using (show k<8 by omega)),List.sum_append]
        simp only [List.getElem_ofFn,List.sum_cons,List.sum_nil,Nat.add_zero]
        rw [Nat.mul_add]
        omega
     have h8:=key 8 (Nat.le_refl _)
     rw [List.take_of_length_le (by simp)] at h8
     have hk:=Nat.mul_le_mul_left (n+1) (cn_kids n a ha L)
     have hin:(Tr.add (Tr.can f' (n+1) a) us).length≤(Tr.addK (fun i:Fin 8=>Tr.can f' n (Tr.cor a n i.val)) 8 us).length+1:=inner_len hGu
     have e:(n+1+1) * cn L (n+1) a=(n+1) * cn L (n+1) a+cn L (n+1) a:=Nat.succ_mul _ _
     omega
theorem graft_len {f f':Pt→Int} (hf : ∀ p,0≤f' p∧f' p≤255) (m:Nat) (d:Pt) (hd:Tr.Al m d) {ts:List Tr} (hG:Good ts) (hm:Tr.can f' m d∈ts) (he : ∀ p,¬Tr.InC m d p→f' p=f p) : ∀ (n:Nat) (a:Pt),n≤200→m≤n→Tr.Al n a→Tr.InC n a d→Tr.can f n a∈ts →
 (Tr.add (Tr.can f' n a) ts).length≤ts.length+n:=by
 intro n
 induction n with
 | zero =>
   intro a hn hmn ha hi ht
   obtain rfl:m=0:=by omega
   have e:d=a:=by
    have h1:=Tr.inC_zero ha hi
    have h2:=Tr.inC_zero hd (show Tr.InC 0 d d from ⟨rfl,rfl,rfl⟩)
    obtain ⟨x1,x2,x3⟩:=hi
    obtain ⟨y1,y2,y3⟩:=hd
    obtain ⟨z1,z2,z3⟩:=ha
    have e4:(2:Int) ^ (0+2)=4:=by decide
    rw [e4] at x1 x2 x3 y1 y2 y3 z1 z2 z3
    cases d;cases a
    simp only [Pt.mk.injEq] at *
    omega
   rw [←e,Tr.add_same _ _ hm];omega
 | succ n ih =>
   intro a hn hmn ha hi ht
   by_cases hmn2:m=n+1
   · subst hmn2
     have e:d=a:=by
      obtain ⟨x1,x2,x3⟩:=hi
      obtain ⟨y1,y2,y3⟩:=hd
      obtain ⟨z1,z2,z3⟩:=ha
      have key : ∀ x y m:Int,x / m=y / m→x % m=0→y % m=0→x=y:=by
       intro x y m h1 h2 h3
       have e1:=Int.mul_ediv_add_emod x m
       have e2:=Int.mul_ediv_add_emod y m
       rw [h1,h2] at e1
       rw [h3] at e2
       omega
      cases d;cases a
      simp only [Pt.mk.injEq] at *
      exact ⟨key _ _ _ x1 y1 z1,key _ _ _ x2 y2 z2,key _ _ _ x3 y3 z3⟩
     rw [←e,Tr.add_same _ _ hm];omega
   · have hW : ∀ i:Fin 8,Tr.WF (Tr.can f' n (Tr.cor a n i.val)):=fun i=>wf_can hf n _ (by omega)
     have hkid : ∀ i:Fin 8,i ≠ Tr.oct n d→Tr.can f' n (Tr.cor a n i.val)∈ts:=by
      intro i hne
      have e:Tr.can f' n (Tr.cor a n i.val)=Tr.can f n (Tr.cor a n i.val):=Tr.can_congr n _ (Tr.al_cor ha _) fun p hp=>he p fun hpd=>hne (by
       have h1:=(Tr.inC_other ha hp).1
       have h2:Tr.oct n p=Tr.oct n d:=by
        obtain ⟨x1,x2,x3⟩:=hpd
        have key : ∀ x y:Int,x / 2 ^ (m+2)=y / 2 ^ (m+2)→x / 2 ^ (n+2)=y / 2 ^ (n+2):=by
         intro x y h
         obtain ⟨k,rfl⟩ : ∃ k,n=m+k:=⟨n - m,by omega⟩
         have e2:(2:Int) ^ (m+k+2)=2 ^ (m+2) * 2 ^ k:=by rw [←Int.pow_add];congr 1;omega
         have hp:=Int.pow_pos (n:=2) (m:=m+2) (by decide)
         rw [e2,←Int.ediv_ediv_of_nonneg (by omega),←Int.ediv_ediv_of_nonneg (by omega),h]
        apply Fin.ext
        show Tr.octN n p=Tr.octN n d
        unfold Tr.octN
        rw [key _ _ x1,key _ _ x2,key _ _ x3]
       rw [h1,h2])
      rw [e];exact can_kid_in hG ht i
     have h1:=ih (Tr.cor a n (Tr.oct n d).val) (by omega) (by omega) (Tr.al_cor ha _) (Tr.inC_step ha hi) (can_kid_in hG ht _)
     have hin:(Tr.add (Tr.can f' (n+1) a) ts).length≤(Tr.addK (fun i:Fin 8=>Tr.can f' n (Tr.cor a n i.val)) 8 ts).length+1:=inner_len hG
     rw [Tr.addK_one (Tr.oct n d) hkid] at hin
     omega
theorem many_small {n:Nat} (hn:n≤3):many n≤585:=by
 have h:n=0∨n=1∨n=2∨n=3:=by omega
 rcases h with rfl | rfl | rfl | rfl <;> decide
theorem any_len {f:Pt→Int} {n:Nat} (hn:n≤3) (a:Pt) (ts:List Tr):(Tr.add (Tr.can f n a) ts).length≤ts.length+585 :=
 Nat.le_trans (add_len _ _) (Nat.add_le_add_left (Nat.le_trans (sz_can f n a) (many_small hn)) _)
abbrev wholeB (n:Nat):Box:=cubeB (2 ^ (n+2))
def fillF (n:Nat) (b:Box) (c:Int) (f:Pt→Int):Pt→Int:=fun p=>if (inB p b && inB p (wholeB n))=true then c else f p
def pasteF (n:Nat) (b:Box) (xs:List Int) (f:Pt→Int):Pt→Int:=fun p=>if (inB p b && inB p (wholeB n))=true then cellG b xs p else f p
def writeF (l:List (Pt × Int)) (f:Pt→Int):Pt→Int:=l.foldl (fun g x=>Tr.upd g x.1 x.2) f
theorem fillF_fn {n:Nat} {b:Box} {c:Int} {f:Pt→Int} (h:FnC n f) (hc:0≤c∧c≤255):FnC n (fillF n b c f):=by
 refine ⟨fun p=>?_,fun p hp=>?_⟩
 · unfold fillF;split
   · exact hc
   · exact h.range p
 · unfold fillF;rw [hp,Bool.and_false,if_neg (by decide)];exact h.out p hp
theorem pasteF_fn {n:Nat} {b:Box} {xs:List Int} {hcp:Nat} (HX:GoodG b xs hcp) {f:Pt→Int} (h:FnC n f):FnC n (pasteF n b xs f):=by
 refine ⟨fun p=>?_,fun p hp=>?_⟩
 · unfold pasteF;split
   · exact HX.range p
   · exact h.range p
 · unfold pasteF;rw [hp,Bool.and_false,if_neg (by decide)];exact h.out p hp
theorem writeF_fn {n:Nat} : ∀ {l:List (Pt × Int)} {f:Pt→Int},(∀ x∈l,inB x.1 (wholeB n)=true∧0≤x.2∧x.2≤255)→FnC n f→FnC n (writeF l f)
 | [],_,_,h=>h
 | x :: l, f, hl, h => by
   unfold writeF
   rw [List.foldl_cons]
   have hx:=hl x (by simp)
   exact writeF_fn (l:=l) (fun y hy=>hl y (by simp [hy])) (h.upd hx.1 hx.2)
theorem pts_len {b:Box} {m:Nat} (h:volB b≤(m:Int)):(ptsB b).length≤m:=by
 unfold ptsB
 rw [List.length_map,List.length_range];omega
theorem fill_len {n:Nat} {b:Box} {c:Int} {f:Pt→Int} (hn:n≤12) (h:FnC n f) (hc:0≤c∧c≤255) {ts:List Tr} (hG:Good ts) (ht:trF n f∈ts) (hv:volB b≤4000):(Tr.add (trF n (fillF n b c f)) ts).length≤ts.length+52000:=by
 have h1:=chg_len (f:=f) (fillF_fn (b:=b) h hc).range (ptsB b) n ⟨0,0,0⟩ ts ts (by omega) (al_zero n) hG (List.prefix_refl _) hG ht (fun p _ hne=>mem_pts (by
  unfold fillF at hne
  split at hne
  · rename_i hb;exact (Bool.and_eq_true _ _ ▸ hb:_∧_).1
  · exact absurd rfl hne))
 have h2:=cn_le (ptsB b) n ⟨0,0,0⟩
 have h3:=pts_len (b:=b) (m:=4000) hv
 have h6:(n+1) * cn (ptsB b) n ⟨0,0,0⟩≤13 * 4000:=Nat.mul_le_mul (by omega) (by omega)
 unfold trF
 omega
theorem paste_len {n:Nat} {b:Box} {xs:List Int} {hcp:Nat} (HX:GoodG b xs hcp) {f:Pt→Int} (hn:n≤12) (h:FnC n f) {ts:List Tr} (hG:Good ts) (ht:trF n f∈ts):(Tr.add (trF n (pasteF n b xs f)) ts).length≤ts.length+3900:=by
 have h1:=chg_len (f:=f) (pasteF_fn HX h).range (ptsB b) n ⟨0,0,0⟩ ts ts (by omega) (al_zero n) hG (List.prefix_refl _) hG ht (fun p _ hne=>mem_pts (by
  unfold pasteF at hne
  split at hne
  · rename_i hb;exact (Bool.and_eq_true _ _ ▸ hb:_∧_).1
  · exact absurd rfl hne))
 have h2:=cn_le (ptsB b) n ⟨0,0,0⟩
 have h3:(ptsB b).length≤300:=by
  unfold ptsB
  rw [List.length_map,List.length_range,←HX.len];exact HX.le
 have h6:(n+1) * cn (ptsB b) n ⟨0,0,0⟩≤13 * 300:=Nat.mul_le_mul (by omega) (by omega)
 unfold trF
 omega
theorem upds_at : ∀ (l:List (Pt × Int)) (f:Pt→Int) (p:Pt),(∀ x∈l,x.1 ≠ p)→writeF l f p=f p
 | [],_,_,_=>rfl
 | x :: l, f, p, h => by
   unfold writeF
   rw [List.foldl_cons]
   have:=upds_at l (Tr.upd f x.1 x.2) p fun y hy=>h y (by simp [hy])
   unfold writeF at this
   rw [this]
   unfold Tr.upd
   rw [if_neg (fun e=>h x (by simp) e.symm)]
theorem write_len {n:Nat} {l:List (Pt × Int)} {f:Pt→Int} (hn:n≤12) (hl : ∀ x∈l,inB x.1 (wholeB n)=true∧0≤x.2∧x.2≤255) (h:FnC n f) {ts:List Tr} (hG:Good ts) (ht:trF n f∈ts):(Tr.add (trF n (writeF l f)) ts).length≤ts.length+13 * l.length:=by
 have h1:=chg_len (f:=f) (writeF_fn hl h).range (l.map (·.1)) n ⟨0,0,0⟩ ts ts (by omega) (al_zero n) hG (List.prefix_refl _) hG ht (fun p _ hne=>Classical.byContradiction fun hp=>hne (upds_at l f p fun x hx e=>hp (List.mem_map.2 ⟨x,hx,e⟩)))
 have h2:=cn_le (l.map (·.1)) n ⟨0,0,0⟩
 rw [List.length_map] at h2
 have h6:(n+1) * cn (l.map (·.1)) n ⟨0,0,0⟩≤13 * l.length:=Nat.mul_le_mul (by omega) h2
 unfold trF
 omega
end
section
open Go.Sort Go.RowKit
section
variable {P:Program} {l:List Oper} {n:Nat} {R:Nat→Value→World→Prop} {W:World} {a:Act}
theorem ri_anyT (hn:n≤l.length) (B:RelB l n) (hb:backB .any l n=true) (ht:tailT .any l n=true) (hf : ∀ i,i<n→Firm (R i)) (hd : ∀ i d,i<n→dstAt l i=some d→d<a.tmps.size)
 (hop : ∀ i o,i<n→l[i]? = some o → ∀ (ρ:Operand→Value) w,Below W.heap.size W w→(∀ v,ρ (.const v)=v)→(∀ g,ρ (.global g) = .pointer (some ⟨g,0,none⟩))→(∀ f,ρ (.func f) = .func (.func f) #[] #[]) →
  (∀ d,.tmp d∈o.op.operands→Known l n R a d (ρ (.tmp d)) w)→relUpon P w (R i) ((execOp ρ o).run P w))
 {Q:Exit→Act→World→Prop} (hend : ∀ a' w',RI l n R W a (Array.replicate n true) a' w'→wpAny P .any l.toArray Q (l.length - n) (Array.replicate n true++Array.replicate (l.length - n) false) a' w') :
 ∀ (f:Nat) (s:Array Bool) (a':Act) (w':World),s.size=n→Shut .any l s→unl s=f→RI l n R W a s a' w'→wpAny P .any l.toArray Q (f+(l.length - n)) (s++Array.replicate (l.length - n) false) a' w'
 | 0, s, a', w', hs, _, hu, I => by
   have e:s=Array.replicate n true:=by rw [←hs];exact unl_zero hu
   rw [Nat.zero_add,e]
   rw [e] at I
   exact hend a' w' I
 | f + 1, s, a', w', hs, hsh, hu, I => by
   obtain ⟨k,hk,hun⟩:=unl_pos (s:=s) (by omega)
   rw [show f+1+(l.length - n)=(f+(l.length - n))+1 by omega]
   refine ⟨fun h0=>?_,fun i hi=>?_⟩
   · obtain ⟨i,hi⟩:=ready_some (g:=l.length - n) hs hn hb (k+1) k (by omega) (by omega) hun
     rw [h0] at hi;cases hi
   · have hin:=ready_not_tailT hs hsh (by omega:k<n) hun ht hi
     have hiu:s.getD i true=false:=by have:=(mem_ready.1 hi).1;rwa [app_get hs hin] at this
     refine wpOp_mono (fun a'' w'' I'=>?_) (ri_step B hf hd hop hs I hin hi hiu)
     rw [app_set (by omega)]
     refine ri_anyT hn B hb ht hf hd hop hend f _ a'' w'' (by simpa using hs) (shut_set hsh (ready_head hs hin hb hi) hin) ?_ I'
     have:=unl_set (s:=s) (by omega) hiu
     omega
def headRT (l:List Oper) (n:Nat):Bool :=
 decide (n<l.length) && backB .any l n && tailT .any l n && relB l n && Region.seqB .any l.toArray (l.length - n) n (Array.replicate n true++Array.replicate (l.length - n) false)
theorem any_relT {Q:Exit→Act→World→Prop} (n:Nat) (R:Nat→Value→World→Prop) (hB:headRT l n=true) (m:Nat) (hdm:dstB l m=true) (ham:a.tmps.size=m)
 (hf : ∀ i,i<n→Firm (R i))
 (hop : ∀ i o,i<n→l[i]? = some o → ∀ (ρ:Operand→Value) w,Below W.heap.size W w→(∀ v,ρ (.const v)=v)→(∀ g,ρ (.global g) = .pointer (some ⟨g,0,none⟩))→(∀ f,ρ (.func f) = .func (.func f) #[] #[]) →
  (∀ d,.tmp d∈o.op.operands→Known l n R a d (ρ (.tmp d)) w)→relUpon P w (R i) ((execOp ρ o).run P w))
 (h : ∀ (vs:List Value) w',vs.length=n→Below W.heap.size W w'→(∀ i v,vs[i]? = some v→R i v w')→wpList P l.toArray Q (l.drop n) (puts (((l.take n).map (·.dst)).zip vs) a) w'):wpAny P .any l.toArray Q l.toArray.size (Array.replicate l.toArray.size false) a { W with drawn:=W.drawn+1 }:=by
 simp only [headRT,Bool.and_eq_true,decide_eq_true_eq] at hB
 obtain ⟨⟨⟨⟨hn,hb⟩,ht⟩,hrel⟩,hseq⟩:=hB
 have B:=relB_spec hrel
 have hd : ∀ i d,i<n→dstAt l i=some d→d<a.tmps.size:=fun i d _ hd=>by rw [ham];exact dstB_spec hdm hd
 have:=ri_anyT (Q:=Q) (by omega) B hb ht hf hd hop (fun a' w' I=>?_) n (Array.replicate n false) a { W with drawn:=W.drawn+1 } (by simp) (fun m k h=>by
  simp only [Array.getD_eq_getD_getElem?,Array.getElem?_replicate] at h
  split at h <;> simp at h) (by simp [unl])
  ⟨rfl,rfl,fun x _=>rfl,fun i d _ hs=>(by rw [getD_replicate_false] at hs;cases hs),⟨rfl,rfl,rfl,Nat.le_refl _,fun _ _=>rfl⟩⟩
 · have e:Array.replicate n false++Array.replicate (l.length - n) false=Array.replicate l.toArray.size false:=by
    rw [Array.replicate_append_replicate];congr 1;simp;omega
   rw [e,show n+(l.length - n)=l.toArray.size by simp;omega] at this
   exact this
 · have hv : ∀ i,∃ v,i<n→(∃ d,dstAt l i=some d∧a'.tmps[d]? = some v)∧R i v w':=by
    intro i
    by_cases hi:i<n
    · obtain ⟨o,ho⟩ : ∃ o,l[i]? = some o:=⟨_,List.getElem?_eq_getElem (by omega)⟩
      obtain ⟨d,hdd⟩:=B.dst i o hi ho
      have hdl:dstAt l i=some d:=by simp [dstAt,ho,hdd]
      obtain ⟨v,h1,h2⟩:=I.head i d hi (by simp [hi]) hdl
      exact ⟨v,fun _=>⟨⟨d,hdl,h1⟩,h2⟩⟩
    · exact ⟨undef,fun h=>absurd h hi⟩
   obtain ⟨g,hg⟩:=Classical.axiomOfChoice hv
   have hlen:((List.range n).map g).length=n:=by simp
   have hz : ∀ i,i<n→(((l.take n).map (·.dst)).zip ((List.range n).map g))[i]? = some (dstAt l i,g i):=by
    intro i hi
    rw [(List.getElem?_zip_eq_some (z:=(dstAt l i,g i))).2]
    refine ⟨?_,by simp [hi]⟩
    rw [List.getElem?_map,List.getElem?_take,if_pos hi]
    unfold dstAt
    rw [List.getElem?_eq_getElem (show i<l.length by omega)];rfl
   have hlt : ∀ {i p},(((l.take n).map (·.dst)).zip ((List.range n).map g))[i]? = some p→i<n:=by
    intro i p hp
    have:=(List.getElem?_eq_some_iff.1 hp).1
    simp at this;omega
   have heq:a'=puts (((l.take n).map (·.dst)).zip ((List.range n).map g)) a:=by
    refine act_ext ?_ fun x=>?_
    · rw [(puts_size _ _).2];exact I.defers
    · by_cases hx : ∃ i,i<n∧dstAt l i=some x
      · obtain ⟨i,hi,hdx⟩:=hx
        obtain ⟨⟨d,h1,h2⟩,_⟩:=hg i hi
        rw [hdx] at h1
        obtain rfl:=Option.some.inj h1
        rw [h2]
        symm
        refine puts_in _ a x _ (hd i x hi hdx) ?_ (List.mem_iff_getElem?.2 ⟨i,by rw [hz i hi,hdx]⟩)
        rw [List.pairwise_iff_getElem]
        intro p q hp hq hpq d' e1 e2
        have n1:=hz p (hlt (List.getElem?_eq_getElem hp))
        have n2:=hz q (hlt (List.getElem?_eq_getElem hq))
        rw [List.getElem?_eq_getElem hp] at n1
        rw [List.getElem?_eq_getElem hq] at n2
        rw [Option.some.inj n1] at e1
        rw [Option.some.inj n2] at e2
        exact B.dist p q d' (hlt (List.getElem?_eq_getElem hp)) (hlt (List.getElem?_eq_getElem hq)) (by omega) e1 e2
      · rw [puts_out _ _ x (fun p hp e=>by
         obtain ⟨i,hi⟩:=List.mem_iff_getElem?.1 hp
         have hin:=hlt hi
         rw [hz i hin] at hi
         have:=Option.some.inj hi
         subst this
         exact hx ⟨i,hin,e⟩)]
        exact I.old x fun i hi _ e=>hx ⟨i,hi,e⟩
   have hres:=h ((List.range n).map g) w' hlen I.below (fun i v hi=>by
    have hin:i<n:=by have:=(List.getElem?_eq_some_iff.1 hi).1;simpa using this
    have:v=g i:=by simpa [hin] using hi.symm
    rw [this];exact (hg i hin).2)
   rw [←heq] at hres
   have:=wpAny_of_seq (P:=P) (md:=.any) (ops:=l.toArray) (Q':=Q) (l.drop n) n (Array.replicate n true++Array.replicate (l.length - n) false) a' w' (fun j=>by simp [List.getElem?_drop]) (by simpa using hseq) hres
   simpa using this
theorem wp_region_relT {id:Nat} {Q:Exit→Act→World→Prop} (n:Nat) (R:Nat→Value→World→Prop) (hm:P.follows .mixedOrders=true) (hB:headRT l n=true) (m:Nat) (hdm:dstB l m=true) (ham:a.tmps.size=m)
 (hf : ∀ i,i<n→Firm (R i))
 (hop : ∀ i o,i<n→l[i]? = some o → ∀ (ρ:Operand→Value) w,Below W.heap.size W w→(∀ v,ρ (.const v)=v)→(∀ g,ρ (.global g) = .pointer (some ⟨g,0,none⟩))→(∀ f,ρ (.func f) = .func (.func f) #[] #[]) →
  (∀ d,.tmp d∈o.op.operands→Known l n R a d (ρ (.tmp d)) w)→relUpon P w (R i) ((execOp ρ o).run P w))
 (h : ∀ (vs:List Value) w',vs.length=n→Below W.heap.size W w'→(∀ i v,vs[i]? = some v→R i v w')→wpList P l.toArray Q (l.drop n) (puts (((l.take n).map (·.dst)).zip vs) a) w'):(Code.region id l.toArray true).wp P Q a W :=
 wp_region_any hm (any_relT n R hB m hdm ham hf hop h)
end
end
end Go.Proofs.YtfcbajmjaifjlaaGreat
