/- Gwr, Tw1, Tw2, Tw3: joined by program, for one claim. -/
import Derived.Test.YtfcbajmjaifjlaaGreatDoorM18
set_option maxHeartbeats 1000000
set_option maxRecDepth 100000
set_option linter.unusedVariables false
set_option linter.unusedSimpArgs false
namespace Go.Proofs.YtfcbajmjaifjlaaGreatDoor
section
open Go.RowKit Go.Sort
structure Chg where
 x:Int
 y:Int
 z:Int
 o:Int
 n:Int
abbrev Chg.at (c:Chg):Pt:=⟨c.x,c.y,c.z⟩
def Chg.cells (c:Chg):List Value:=[.int .i64 c.x,.int .i64 c.y,.int .i64 c.z,.int .i64 c.o,.int .i64 c.n]
def SlC (w:World) (a:Option Addr) (cs:List Chg):Prop := ∀ (i:Nat) (c:Chg),cs[i]? = some c → ∃ b off,a=some ⟨b,off,none⟩∧w.cell? ⟨b,off+i * 5,none⟩=some (.int .i64 c.x)∧w.cell? ⟨b,off+i * 5+1,none⟩=some (.int .i64 c.y)∧w.cell? ⟨b,off+i * 5+2,none⟩=some (.int .i64 c.z)∧w.cell? ⟨b,off+i * 5+3,none⟩=some (.int .i64 c.o)∧w.cell? ⟨b,off+i * 5+4,none⟩=some (.int .i64 c.n)
theorem SlC.of_block {w w':World} {a:Option Addr} {cs:List Chg} (h:SlC w a cs) (hb : ∀ b,a.map (·.block)=some b→b<w.heap.size→w'.heap[b]? = w.heap[b]?):SlC w' a cs:=by
 intro i c hc;obtain ⟨b,off,rfl,c0,c1,c2,c3,c4⟩:=h i c hc;have hh:=hb b rfl (World.block_lt_of_cell? w _ c0);exact ⟨b,off,rfl,(World.cell?_of_block hh).trans c0,(World.cell?_of_block hh).trans c1,(World.cell?_of_block hh).trans c2,(World.cell?_of_block hh).trans c3,(World.cell?_of_block hh).trans c4⟩
theorem SlC.below {w w':World} {a:Option Addr} {cs:List Chg} (h:SlC w a cs) (hb:Below w.heap.size w w'):SlC w' a cs:=h.of_block fun b _ hl=>hb.block b hl
theorem SlC.grown {w w':World} {a:Option Addr} {cs:List Chg} {g:Nat} (h:SlC w a cs) (hg:w.grownBy w' (some g)) (hne:a.map (·.block) ≠ some g):SlC w' a cs:=h.of_block fun b hb hl=>hg.block b hl (fun e=>hne (by rw [hb,e]))
def wr1 (B:Box) (xs:List Int) (c:Chg):List Int:=if inB c.at B=true then xs.set (zT B c.at).toNat c.n else xs
def wrL (B:Box) (cs:List Chg) (xs:List Int):List Int:=cs.foldl (wr1 B) xs
theorem zMu (B:Box) (xs:List Int) (c:Chg):(wr1 B xs c).length=xs.length:=by
 unfold wr1;split
 · rw [List.length_set]
 · rfl
theorem zEU (B:Box) : ∀ (cs:List Chg) (xs:List Int),(wrL B cs xs).length=xs.length
 | [],_=>rfl
 | c::cs,xs=>(zEU B cs (wr1 B xs c)).trans (zMu B xs c)
theorem zKq {B:Box} {cs:List Chg} {xs:List Int} {j:Nat} {c:Chg} (h:cs[j]? = some c):wrL B (cs.take (j+1)) xs=wr1 B (wrL B (cs.take j) xs) c:=by
 obtain ⟨hl,rfl⟩:=List.getElem?_eq_some_iff.1 h;unfold wrL;rw [List.take_succ_eq_append_getElem hl,List.foldl_append];rfl
theorem zIu (pl pg g N cap Bd:Nat) (a b c d e f:Int) (gc:Value) (ha:Option Addr) (hcp:Nat) (cs:List Chg) (xs:List Int) (w:World) (hSA:Small ⟨⟨a,b,c⟩,⟨d,e,f⟩⟩ 1048575)
 (hxl:xs.length=(zU ⟨⟨a,b,c⟩,⟨d,e,f⟩⟩).toNat) (hN:N≤4194304) (hC:cs.length≤4194304) (hcap:cs.length≤hcp)
 (kl:Bk w pl #[.slice ha cs.length hcp] 42) (kg:Bk w pg #[a,b,c,d,e,f,gc] 28) (hcs:SlC w ha cs) (ho:Own w Bd 3 .i64 (.slice (some ⟨g,0,none⟩) N cap) xs) (hgl:g ≠ pl) (hgg:g ≠ pg) (hga:cs ≠ []→ha.map (·.block) ≠ some g) :
 Calls Tryz.prog 98 #[.slice (some ⟨g,0,none⟩) N cap,.pointer (some ⟨pl,0,none⟩),.pointer (some ⟨pg,0,none⟩)] w fun e' w'=>e' = .returned (.tuple #[])∧Own w' Bd 3 .i64 (.slice (some ⟨g,0,none⟩) N cap) (wrL ⟨⟨a,b,c⟩,⟨d,e,f⟩⟩ cs xs)∧w.grownBy w' (some g):=by
 have hNl:xs.length=N:=ho.raw.choose_spec.2.2.2.2.2.2.symm;have HSA:=Bx.mk hSA;have Kg:=Bx.mk kg;have Ho:=Bx.mk ho;have Hcs:=Bx.mk hcs;have Hxl:=Bx.mk hxl;have c0:=kl.cell 0 rfl;clear kg ho hcs hSA hxl;go_enter Tryz.func98,Tryz.ntmps98;go_wp2_with fail;have HI:Bx (Own w Bd 3 .i64 (.slice (some ⟨g,0,none⟩) N cap) (wrL ⟨⟨a,b,c⟩,⟨d,e,f⟩⟩ (cs.take 0) xs)∧w.grownBy w (some g)):=⟨⟨Ho.out,⟨rfl,rfl,rfl,Nat.le_refl _,fun _ _ _=>rfl⟩⟩⟩;clear c0
 go_loopw [9] (fun i wr => ∃ j:Nat,j≤cs.length∧i = .int .i64 j∧Bx (Own wr Bd 3 .i64 (.slice (some ⟨g,0,none⟩) N cap) (wrL ⟨⟨a,b,c⟩,⟨d,e,f⟩⟩ (cs.take j) xs)∧w.grownBy wr (some g))) (fun i _=>cs.length - (intOf i).toNat)
 case atStart=>exact ⟨0,Nat.zero_le _,rfl,HI⟩
 case round =>
  clear HI;obtain ⟨j,hj,rfl,hI⟩:=hrel;by_cases hlt:j<cs.length
  · obtain ⟨⟨px,py,pz,po,pn⟩,hed⟩ : ∃ ed,cs[j]? = some ed:=⟨_,List.getElem?_eq_getElem hlt⟩;obtain ⟨bk,off,rfl,c0,c1,c2,c3,c4⟩:=(Hcs.out.grown hI.out.2 (hga (List.ne_nil_of_length_pos (by omega)))) j _ hed
    have kg:=Kg.out.grown hI.out.2 (Ne.symm hgg);have hwr:=zKq (B:=⟨⟨a,b,c⟩,⟨d,e,f⟩⟩) (xs:=xs) hed;have hwl:=zEU ⟨⟨a,b,c⟩,⟨d,e,f⟩⟩ (cs.take j) xs;obtain ⟨k,hk⟩ : ∃ k,zT ⟨⟨a,b,c⟩,⟨d,e,f⟩⟩ ⟨px,py,pz⟩=k:=⟨_,rfl⟩;have hin:=Bx.mk fun W=>(zCH a b c d e f px py pz HSA.out W).mono fun e' w' h=>(⟨h.1.trans (by rw [hk]),h.2⟩:e' = .returned (.int .i64 k)∧Below W.heap.size W w')
    unfold wr1 at hwr;simp only [Chg.at] at hwr;have t0:decide ((j:Int)<(cs.length:Int))=true:=by simp;omega
    have b1:(0:Int)≤(j:Int):=by omega
    have b2:(j:Int)<(cs.length:Int):=by omega
    have hwr:=Bx.mk hwr;have hgb:bk ≠ g:=fun e=>hga (List.ne_nil_of_length_pos (by omega)) (by rw [←e];rfl)
    have HSz:=hI.out.2.size;have hgl2:=(hI.out.1.lt g rfl).2;dsimp only at c0 c1 c2 c3 c4;by_cases hi:inB ⟨px,py,pz⟩ ⟨⟨a,b,c⟩,⟨d,e,f⟩⟩=true
    · have hbd:=ze hi;rw [hk] at hbd;obtain ⟨m,rfl⟩ : ∃ m:Nat,k=(m:Int):=⟨k.toNat,(Int.toNat_of_nonneg hbd.1).symm⟩;have hmN:m<N:=by have:=Hxl.out;omega
      have hwr2:Bx (wrL ⟨⟨a,b,c⟩,⟨d,e,f⟩⟩ (cs.take (j+1)) xs=(wrL ⟨⟨a,b,c⟩,⟨d,e,f⟩⟩ (cs.take j) xs).set m pn):=⟨by rw [hwr.out,if_pos hi,hk];rfl⟩
      clear hi hbd hk hed hwr;go_upto_region 3 with fail;generalize hW:World.alloc wr _=W;have hb:=bl1 hW;have kx:Bk W wr.heap.size #[px,py,pz,po,pn] 41:=bk0 hW rfl;clear hW c0 c1 c2 c3 c4;have kg1:=kg.later hb;obtain ⟨g0,g1,g2,g3,g4,g5⟩:=kg1.c6;obtain ⟨x0,x1,x2⟩:=kx.c3;clear kg kg1;go_wp2_with fail;refine (hin.out _).mono ?_;rintro _ w4 ⟨rfl,hb4⟩;clear g0 g1 g2 g3 g4 g5 x0 x1 x2;replace kx:=kx.later hb4;have hb5:=hb.trans (hb4.mono hb.size);clear hb hb4;have x4:=kx.cell 4 rfl;have ho5:=hI.out.1.below hb5;have hor:=ho5.at (by rw [hwl];omega)
      rw [hwl,hNl] at hor;obtain ⟨g',cap',hv,-,hgs,h3,h4,h5⟩:=hor;injection hv with hv1 hv2 hv3;injection hv1 with hv1;injection hv1 with hv1;subst hv1 hv3;obtain ⟨old,hold⟩ : ∃ x,(wrL ⟨⟨a,b,c⟩,⟨d,e,f⟩⟩ (cs.take j) xs)[m]? = some x:=⟨_,List.getElem?_eq_getElem (by omega)⟩
      have hcell:=h3 m old hold;have hfr:=h4 m;have h6:=h5 m pn;rw [←hwr2.out] at h6;have hgr:w.grownBy w4 (some g):=hI.out.2.trans ⟨hb5.os,hb5.tape,hb5.output,hb5.size,fun k hk _=>hb5.block k hk⟩;have HJ:=Bx.mk (And.intro h6 (zC hgr m (.int .i64 pn)));have p1:(0:Int)≤(m:Int):=by omega
      have p2:(m:Int)<(N:Int):=by omega
      clear h3 h4 h5 h6 hold hgr ho5 hI kx hwr2 hwl;go_wp2_with fail
      go_roundw
      case rel=>exact ⟨j+1,by omega,by go_num,HJ⟩
      case measure=>simp [intOf];omega
    · have hk1:k = -1:=by rw [←hk];unfold zT;rw [if_neg hi]
      subst hk1;have hwr2:Bx (wrL ⟨⟨a,b,c⟩,⟨d,e,f⟩⟩ (cs.take (j+1)) xs=wrL ⟨⟨a,b,c⟩,⟨d,e,f⟩⟩ (cs.take j) xs):=⟨by rw [hwr.out,if_neg hi]⟩
      clear hi hk hed hwr;go_upto_region 3 with fail;generalize hW:World.alloc wr _=W;have hb:=bl1 hW;have kx:Bk W wr.heap.size #[px,py,pz,po,pn] 41:=bk0 hW rfl;clear hW c0 c1 c2 c3 c4;have kg1:=kg.later hb;obtain ⟨g0,g1,g2,g3,g4,g5⟩:=kg1.c6;obtain ⟨x0,x1,x2⟩:=kx.c3;clear kg kg1;go_wp2_with fail;refine (hin.out _).mono ?_;rintro _ w4 ⟨rfl,hb4⟩;clear g0 g1 g2 g3 g4 g5 x0 x1 x2;replace kx:=kx.later hb4;have hb5:=hb.trans (hb4.mono hb.size);clear hb hb4;have hgr:w.grownBy w4 (some g):=hI.out.2.trans ⟨hb5.os,hb5.tape,hb5.output,hb5.size,fun k hk _=>hb5.block k hk⟩;have HJ:Bx (Own w4 Bd 3 .i64 (.slice (some ⟨g,0,none⟩) N cap) (wrL ⟨⟨a,b,c⟩,⟨d,e,f⟩⟩ (cs.take (j+1)) xs)∧w.grownBy w4 (some g)):=⟨by rw [hwr2.out];exact ⟨hI.out.1.below hb5,hgr⟩⟩
      clear hgr hI kx hwr2 hwl;go_wp2_with fail
      go_roundw
      case rel=>exact ⟨j+1,by omega,by go_num,HJ⟩
      case measure=>simp [intOf];omega
  · obtain rfl:j=cs.length:=by omega
    rw [List.take_of_length_le (Nat.le_refl _)] at hI;have t0:decide ((cs.length:Int)<(cs.length:Int))=false:=by simp
    go_wp2_with fail
    go_end0
    exact ⟨rfl,hI.out.1,hI.out.2⟩
theorem zEr (a b c d e f:Int) (ga ha:Option Addr) (gcap hcp:Nat) (xs:List Int) (cs:List Chg) (w:World) (hC:cs.length≤4194304) (hcap:cs.length≤hcp) (hcs:SlC w ha cs) (hSA:Small ⟨⟨a,b,c⟩,⟨d,e,f⟩⟩ 1048575) (hxl:xs.length=(zU ⟨⟨a,b,c⟩,⟨d,e,f⟩⟩).toNat) (hX1:1≤xs.length) (hN:xs.length≤4194304) (hg:Sl w .i64 ga xs) :
 Calls Tryz.prog 42 #[.agg #[a,b,c,d,e,f,.slice ga xs.length gcap],.slice ha cs.length hcp] w (zIq a b c d e f xs.length (wrL ⟨⟨a,b,c⟩,⟨d,e,f⟩⟩ cs xs) w):=by
 have hch:=Bx.mk fun pg pl W (h1:Bk W pg #[a,b,c,d,e,f,.slice ga xs.length gcap] 28) (h2:Bk W pl #[.slice ha cs.length hcp] 42) (h3:SlC W ha cs) (h4:Sl W .i64 ga xs) (h5 : ∀ b,cs ≠ []→ha.map (·.block)=some b→b<W.heap.size) =>
  zDm 98 #[.pointer (some ⟨pl,0,none⟩),.pointer (some ⟨pg,0,none⟩)] ⟨enters_of Tryz.func98 rfl rfl⟩ a b c d e f ga gcap xs (wrL ⟨⟨a,b,c⟩,⟨d,e,f⟩⟩ cs xs) W hX1 hN h4
   ⟨fun Bd g N cap V hb hgs hNe ho=>zIu pl pg g N cap Bd a b c d e f (.slice ga xs.length gcap) ha hcp cs xs V hSA hxl (by omega) hC hcap (h2.later hb) (h1.later hb) (h3.below hb) ho (by have:=h2.lt;omega) (by have:=h1.lt;omega) (fun hn e=>by have:=h5 g hn e;omega)⟩
 have hlo:Bx (∀ b,cs ≠ []→ha.map (·.block)=some b→b<w.heap.size):=⟨fun b hn hb=>by
  obtain ⟨c,r,rfl⟩:=List.exists_cons_of_ne_nil hn;obtain ⟨b',off,rfl,c0,-⟩:=hcs 0 c rfl;obtain rfl:=Option.some.inj hb;exact World.block_lt_of_cell? w _ c0⟩
 have Hcs:=Bx.mk hcs;have hlen:=Bx.mk (zEU ⟨⟨a,b,c⟩,⟨d,e,f⟩⟩ cs xs).symm;have Hg:=Bx.mk hg;clear hSA hxl hX1 hN hg hC hcap hcs;go_enter Tryz.func42,Tryz.ntmps42;go_wp2_with fail;generalize hW:World.alloc (World.alloc (World.alloc w _) _) _=W;have hSz:=sz3 hW;have hB:=bl3 hW;have kg:Bk W (w.heap.size) #[a,b,c,d,e,f,.slice ga xs.length gcap] 28:=bk2 hW;have kl:Bk W (w.heap.size+1) #[.slice ha cs.length hcp] 42:=bk1 hW;have kr:Bk W (w.heap.size+1+1) #[(0:Int),(0:Int),(0:Int),(0:Int),(0:Int),(0:Int),.slice none 0 0] 28:=bk0 hW;clear hW;obtain ⟨cg0,cg1,cg2,cg3,cg4,cg5,cg6⟩:=kg.c7;go_wp2_with fail;refine (hch.out _ _ _ kg kl (Hcs.out.below hB) (Hg.out.below hB) (fun b hn hb=>Nat.lt_of_lt_of_le (hlo.out b hn hb) hB.size)).mono ?_;rintro e' w1 ⟨u,rfl,ho,hb⟩;obtain ⟨Bd,hBd⟩ : ∃ Bd,Bd=W.heap.size:=⟨_,rfl⟩;rw [←hBd] at ho hb;have hSd:w.heap.size+3≤Bd:=by omega
 replace hb:Below W.heap.size W w1:=hBd ▸ hb;clear hch Hg;clear cg0 cg1 cg2 cg3 cg4 cg5 cg6;replace hB:=hB.trans (hb.mono hB.size);replace kg:=kg.later hb;replace kr:=kr.later hb;replace hSz:=Nat.le_trans hSz hb.size;clear hb;obtain ⟨pa,pe,rfl,-⟩:=ho.form;rw [←hlen.out] at ho;rw [←hlen.out];have Ho:=Bx.mk ho;clear ho;obtain ⟨cr0,cr1,cr2,cr3,cr4,cr5,cr6⟩:=kr.c7;obtain ⟨fr0,fr1,fr2,fr3,fr4,fr5,fr6⟩:=kr.f7;go_wp2_with fail;replace kr:=kr.put7 (.int .i64 a) (.int .i64 b) (.int .i64 c) (.int .i64 d) (.int .i64 e) (.int .i64 f) (.slice pa xs.length pe);exact bodyPost_ret (v:=.agg #[a,b,c,d,e,f,.slice pa xs.length pe]) (results_cell_row rfl _ _ _ 28 #[a,b,c,d,e,f,.slice pa xs.length pe] (0,0) _ rfl kr Tryz.underlying28 rfl (by kernel_rfl)) rfl ⟨_,_,rfl,hlen.out,(((((((Ho.out.setBelow (by simp;omega) _).setBelow (by simp;omega) _).setBelow (by simp;omega) _).setBelow (by simp;omega) _).setBelow (by simp;omega) _).setBelow (by simp;omega) _).setBelow (by simp;omega) _).base (by omega),zKb hB (by omega) _ _ _ _ _ _ _⟩
end
section
open Go.RowKit Go.Sort Go.Maps
open Go.WideMaps (KeyLaw)
open Oct
theorem zKI:KeyLaw Tryz.prog 52:=deep_law_laid zHA (m:=3) (by omega) (of_decide_eq_true (by kernel_rfl)) (by kernel_rfl) (by kernel_rfl)
theorem zDj:Keyed Tryz.prog 52:=Keyed.of_law zKI
theorem zKJ : Tryz.prog.cellsOf 52=4:=by kernel_rfl
theorem zH2 : Tryz.prog.cellsOf 23=3:=by kernel_rfl
theorem zGj : Tryz.prog.keyType 52=true:=by kernel_rfl
theorem zDF (x y z l:Int) (h : ∀ q∈[x,y,z,l],(Lit.int .i64 q).wf=true) : ∃ kl,keyOf Tryz.prog 52 (zH x y z l)=some kl:=by
 simp only [List.mem_cons,List.not_mem_nil,or_false,forall_eq_or_imp,forall_eq] at h;obtain ⟨h1,h2,h3,h4⟩:=h;obtain ⟨m,hm⟩:=zFD;unfold keyOf zH;rw [Tryz.underlying52,hm];simp [zGj,Value.formed,Tryz.underlying52,zKJ,Program.keyLits,Value.cells,Tryz.underlying23,Tryz.underlying3,zHE,zH2,h1,h2,h3,h4,List.range_succ,List.mapM_cons,List.mapM_nil];rw [if_pos (by decide)]
 exact ⟨_,rfl⟩
theorem zCK {x y z l x' y' z' l':Int} (h:zH x y z l=zH x' y' z' l'):x=x'∧y=y'∧z=z'∧l=l':=by
 unfold zH at h;injection h with h;simp at h;exact h
theorem zC8 (q:Int) (h:0≤q∧q≤16384):(Lit.int .i64 q).wf=true:=by
 have e:IntKind.i64.min = -9223372036854775808:=rfl;have:=IntWalk.i64_in q (by omega)
 simp [Lit.wf,this,e];omega
theorem zeroB (w:World):(zeroValue 4).run Tryz.prog w = .ok (.bool false) w:=by kernel_rfl
theorem zeroC (w:World):(zeroValue 42).run Tryz.prog w = .ok (.slice none 0 0) w:=by kernel_rfl
theorem zIJ (x:Int) (i:Nat) (h0:0≤x) (h1:x≤1000000000) (hi:i≤30):bits .andNot .i64 x (2 ^ i - 1)=x - x % 2 ^ i:=by
 obtain ⟨a,rfl⟩:=Int.eq_ofNat_of_zero_le h0;have hpos:0<2 ^ i:=Nat.two_pow_pos i;have h30:2 ^ i≤2 ^ 30:=Nat.pow_le_pow_right (by decide) hi
 have hc:((2:Int) ^ i - 1)=((2 ^ i - 1:Nat):Int):=by
  rw [Int.natCast_sub hpos];simp
 rw [hc]
 show IntKind.i64.wrap ((BitVec.ofInt 64 (a:Int) &&& ~~~BitVec.ofInt 64 ((2 ^ i - 1:Nat):Int)).toNat:Int)=_
 have e:(BitVec.ofInt 64 (a:Int) &&& ~~~BitVec.ofInt 64 ((2 ^ i - 1:Nat):Int))=BitVec.ofNat 64 (a / 2 ^ i * 2 ^ i):=by
  apply BitVec.eq_of_getLsbD_eq;intro j hj;simp only [BitVec.ofInt_natCast,BitVec.getLsbD_and,BitVec.getLsbD_not,BitVec.getLsbD_ofNat,Nat.testBit_two_pow_sub_one,Nat.testBit_mul_two_pow,Nat.testBit_div_two_pow,hj,decide_true,Bool.true_and];by_cases h:j<i
  · simp [h];omega
  · rw [show j - i+i=j by omega]
    simp [h];omega
 rw [e,BitVec.toNat_ofNat];have hle:a / 2 ^ i * 2 ^ i≤a:=Nat.div_mul_le_self a (2 ^ i);rw [Nat.mod_eq_of_lt (by omega),IntWalk.i64_in _ (by omega)]
 have h3:=Nat.div_add_mod a (2 ^ i);have h4:((2:Int) ^ i)=((2 ^ i:Nat):Int):=by simp
 rw [h4];rw [Nat.mul_comm] at h3;omega
theorem MapV.drewN {k:TypeId} {w:World} {b n:Nat} {f:Value→Option Value} (h:MapV k w b n f) (d:Nat):MapV k (w.drewN d) b n f:=h.of_block (by simp)
theorem zD4 (ax ay az l i:Int) (vt tm m:Nat) (ft:Value→Option Value) (t:Bool) (hwf : ∀ q∈[ax,ay,az,l],(Lit.int .i64 q).wf=true) (hft:(ft (zH ax ay az l)).getD (.bool false) = .bool t) (w:World) (kt:Bk w vt #[.map (some tm)] 82) (hM:MapV 52 w tm m ft) :
 Calls Tryz.prog 40 #[zH ax ay az l,i,.pointer (some ⟨vt,0,none⟩)] w fun e' w'=>e'=zLK i (!t) 0∧Below w.heap.size w w':=by
 obtain ⟨kl,hkl⟩:=zDF ax ay az l hwf;have HM:=Bx.mk hM;have Kt:=Bx.mk kt;have Hk:=Bx.mk hkl;have Hf:=Bx.mk hft;clear hM kt hkl hft hwf;go_enter Tryz.func40,Tryz.ntmps40;go_upto_region 1 with fail;generalize hW:World.alloc w _=W;have hB:=bl1 hW;have kc:Bk W w.heap.size #[ax,ay,az,l] 52:=bk0 hW;clear hW;obtain ⟨c0,c1,c2,c3⟩:=kc.c4;have t0:=(Kt.out.later hB).cell 0 rfl;have HM2:=Bx.mk (HM.out.of_block (hB.block tm HM.out.lt))
 have hl : ∀ d,(Instr.lookup 82 (.map (some tm)) (.agg #[ax,ay,az,l]) false).run Tryz.prog (W.drewN d) = .ok (.bool t) (W.drewN d):=fun d=>by
  rw [(MapV.look zDj Tryz.underlying82 (zeroB _) (HM2.out.drewN d) Hk.out).1,Hf.out]
 go_quiet (fail)
 go_wp2_with fail
 go_ret3
 exact ⟨rfl,hB.trans ⟨rfl,rfl,rfl,Nat.le_refl _,fun _ _=>rfl⟩⟩
end
section
open Go.RowKit Go.Sort Go.Maps
open Oct
theorem zGB (ax ay az:Int) (hx:0≤ax∧ax≤16384) (hy:0≤ay∧ay≤16384) (hz:0≤az∧az≤16384) (vb bm m g Bd cap:Nat) (fb:Value→Option Value) (hc:Option Addr) (hcp:Nat) (xs:List Int) (cs:List Chg) (hl:xs.length=64) (hC:cs.length≤4194304) (hcap:cs.length≤hcp) (hfb:(fb (zH ax ay az 2)).getD (.slice none 0 0) = .slice hc cs.length hcp) (w:World) (kb:Bk w vb #[.map (some bm)] 81) (hM:MapV 52 w bm m fb) (hs:SlC w hc cs) (ho:Own w Bd 3 .i64 (.slice (some ⟨g,0,none⟩) xs.length cap) xs) :
 Calls Tryz.prog 41 #[zH ax ay az 2,.slice (some ⟨g,0,none⟩) xs.length cap,.pointer (some ⟨vb,0,none⟩)] w fun e' w'=>e' = .returned (.tuple #[])∧Own w' Bd 3 .i64 (.slice (some ⟨g,0,none⟩) xs.length cap) (wrL ⟨⟨ax,ay,az⟩,⟨ax+4,ay+4,az+4⟩⟩ cs xs)∧Keeps (fun k=>k<Bd) w w':=by
 obtain ⟨kl,hkl⟩:=zDF ax ay az 2 (by
  intro q hq;simp only [List.mem_cons,List.not_mem_nil,or_false] at hq;have:0≤q∧q≤16384:=by rcases hq with rfl | rfl | rfl | rfl <;> omega
  exact zC8 q this)
 have Hk:=Bx.mk hkl;have Hf:=Bx.mk hfb;clear hkl hfb;have hbox:=Bx.mk (fun W=>zBe 2 (by omega) ax ay az 4 (by decide) (by omega) (by omega) (by omega) W)
 rw [show ((2:Nat):Int)=2 from rfl] at hbox;have hSA:Small ⟨⟨ax,ay,az⟩,⟨ax+4,ay+4,az+4⟩⟩ 1048575:=⟨by simp only [];omega,by simp only [];omega,by simp only [];omega,by simp only [];omega,by simp only [];omega,by simp only [];omega⟩
 have hxl:xs.length=(zU ⟨⟨ax,ay,az⟩,⟨ax+4,ay+4,az+4⟩⟩).toNat:=by rw [hl,(zIb ax ay az).2.2];rfl
 have hg:=Bx.mk (fun W h0 h=>zEr ax ay az (ax+4) (ay+4) (az+4) (some ⟨g,0,none⟩) hc cap hcp xs cs W hC hcap h0 hSA hxl (by omega) (by omega) h)
 unfold zIq at hg;have hzl:(wrL ⟨⟨ax,ay,az⟩,⟨ax+4,ay+4,az+4⟩⟩ cs xs).length=64:=by rw [zEU,hl]
 have Hzl:=Bx.mk hzl;generalize (wrL ⟨⟨ax,ay,az⟩,⟨ax+4,ay+4,az+4⟩⟩ cs xs)=zs at *;have HL:=Bx.mk hl;clear hl;clear hSA hxl hx hy hz hzl hC hcap;go_enter Tryz.func41,Tryz.ntmps41;go_upto_region 1 with fail;generalize hW:World.alloc w _=W;have hB:=bl1 hW;have kp:Bk W (w.heap.size) #[ax,ay,az,(2:Int)] 52:=bk0 hW;clear hW;have KP:=Bx.mk kp;have KB:=Bx.mk (kb.later hB);have HM:=Bx.mk (hM.of_block (hB.block bm hM.lt));have HS:=Bx.mk (hs.below hB);have HO:=Bx.mk (ho.below hB);have HB:=Bx.mk hB;have hgl:=(ho.lt g rfl);have hWs:=hB.size;clear kp kb hs ho hB hM
 refine zAH 9 (fun i v w'=>match i with
  | 0=>v=zH ax ay az 2
  | 1=>v = .agg #[ax,ay,az,.int .i64 (ax+4),.int .i64 (ay+4),.int .i64 (az+4)]
  | 2=>v = .slice (some ⟨g,0,none⟩) xs.length cap
  | 3=>v = .agg #[ax,ay,az,.int .i64 (ax+4),.int .i64 (ay+4),.int .i64 (az+4),.slice (some ⟨g,0,none⟩) xs.length cap]
  | 4=>v = .map (some bm)
  | 5=>v=zH ax ay az 2
  | 6=>v = .slice hc cs.length hcp
  | 7 => ∃ pa pc,v = .agg #[ax,ay,az,.int .i64 (ax+4),.int .i64 (ay+4),.int .i64 (az+4),.slice pa xs.length pc]∧Own w' W.heap.size 3 .i64 (.slice pa xs.length pc) zs
  | _ => ∃ g2,v = .pointer (some ⟨g2,0,none⟩)∧W.heap.size≤g2∧Bk w' g2 #[(0:Int),(0:Int),(0:Int),(0:Int),(0:Int),(0:Int),.slice none 0 0] 28) (by kernel_rfl) (by kernel_rfl) 18 (by kernel_rfl) (by rfl) ?_ ?_ ?_
 · intro i hi v u1 u2 hb h
   match i,hi with
   | 0,_=>exact h
   | 1,_=>exact h
   | 2,_=>exact h
   | 3,_=>exact h
   | 4,_=>exact h
   | 5,_=>exact h
   | 6,_=>exact h
   | 7,_=>obtain ⟨pa,pc,h1,h2⟩:=h;exact ⟨pa,pc,h1,h2.below hb⟩
   | 8,_=>obtain ⟨g2,h1,h2,h3⟩:=h;exact ⟨g2,h1,h2,h3.later hb⟩
 · intro i o hi ho ρ w1 hb hc1 hc2 hc3 hk
   match i,hi with
   | 0, _ =>
     obtain rfl:=Option.some.inj ho;have h2:ρ (.tmp 3) = .pointer (some ⟨w.heap.size,0,none⟩):=hk 3 (by simp [Op.operands])
     have k1:=KP.out.later hb;obtain ⟨c0,c1,c2,c3⟩:=k1.c4;clear hk hb hbox hg;go_simp;exact Below.refl _ _
   | 1, _ =>
     obtain rfl:=Option.some.inj ho;have h2:ρ (.tmp 6)=zH ax ay az 2:=hk 6 (by simp [Op.operands,Call.operands])
     have h4:=hbox.out w1;have H4:=Bx.mk h4;clear hk hb h4 hbox hg;go_simp
     all_goals exact H4.out
   | 2, _ =>
     obtain rfl:=Option.some.inj ho;have h2:ρ (.tmp 1) = .slice (some ⟨g,0,none⟩) xs.length cap:=hk 1 (by simp [Op.operands])
     clear hk hb hbox hg;go_simp;exact Below.refl _ _
   | 3, _ =>
     obtain rfl:=Option.some.inj ho;have h2:ρ (.tmp 7) = .agg #[ax,ay,az,.int .i64 (ax+4),.int .i64 (ay+4),.int .i64 (az+4)]:=hk 7 (by simp [Op.operands])
     have h3:ρ (.tmp 8) = .slice (some ⟨g,0,none⟩) xs.length cap:=hk 8 (by simp [Op.operands])
     clear hk hb hbox hg;go_simp;exact Below.refl _ _
   | 4, _ =>
     obtain rfl:=Option.some.inj ho;have h2:ρ (.tmp 2) = .pointer (some ⟨vb,0,none⟩):=hk 2 (by simp [Op.operands])
     have k1:=KB.out.later hb;have c0:=k1.cell 0 rfl;clear hk hb hbox hg;go_simp;exact Below.refl _ _
   | 5, _ =>
     obtain rfl:=Option.some.inj ho;have h2:ρ (.tmp 3) = .pointer (some ⟨w.heap.size,0,none⟩):=hk 3 (by simp [Op.operands])
     have k1:=KP.out.later hb;obtain ⟨c0,c1,c2,c3⟩:=k1.c4;clear hk hb hbox hg;go_simp;exact Below.refl _ _
   | 6, _ =>
     obtain rfl:=Option.some.inj ho;have h2:ρ (.tmp 10) = .map (some bm):=hk 10 (by simp [Op.operands])
     have h3:ρ (.tmp 11)=zH ax ay az 2:=hk 11 (by simp [Op.operands])
     have hl:(Instr.lookup 81 (.map (some bm)) (zH ax ay az 2) false).run Tryz.prog w1 = .ok (.slice hc cs.length hcp) w1:=by
      rw [(MapV.look zDj Tryz.underlying81 (zeroC _) (HM.out.of_block (hb.block bm HM.out.lt)) Hk.out).1,Hf.out]
     clear hk hb hbox hg;go_simp;exact Below.refl _ _
   | 7, _ =>
     obtain rfl:=Option.some.inj ho;have h2:ρ (.tmp 9) = .agg #[ax,ay,az,.int .i64 (ax+4),.int .i64 (ay+4),.int .i64 (az+4),.slice (some ⟨g,0,none⟩) xs.length cap]:=hk 9 (by simp [Op.operands,Call.operands])
     have h3:ρ (.tmp 12) = .slice hc cs.length hcp:=hk 12 (by simp [Op.operands,Call.operands])
     have h4:=(hg.out w1 (HS.out.below hb) (by obtain ⟨a1,c1,e1,h1⟩:=(HO.out.below hb).form;injection e1 with e1 _ _;subst e1;exact h1)).mono (R':=fun e' w'' => ∃ v,e' = .returned v∧Below w1.heap.size w1 w'' ∧ ∃ pa pc,v = .agg #[ax,ay,az,.int .i64 (ax+4),.int .i64 (ay+4),.int .i64 (az+4),.slice pa xs.length pc]∧Own w'' W.heap.size 3 .i64 (.slice pa xs.length pc) zs) (fun e' w'' ⟨pa,pc,x,_,y,z⟩=>⟨_,x,z,pa,pc,rfl,y.base hb.size⟩)
     have H4:=Bx.mk h4;clear hk hb h4 hbox hg;go_simp
     all_goals exact H4.out
   | 8, _ =>
     obtain rfl:=Option.some.inj ho;have hbs:=hb.size;have hnew:Bk (w1.alloc (.cells #[(0:Int),(0:Int),(0:Int),(0:Int),(0:Int),(0:Int),.slice none 0 0] 28)) w1.heap.size #[(0:Int),(0:Int),(0:Int),(0:Int),(0:Int),(0:Int),.slice none 0 0] 28:=Bk.new _ _ _;have Hn:=Bx.mk hnew;clear hk hb hbox hg hnew;go_simp;exact ⟨(Below.refl _ _).alloc (Nat.le_refl _) _,Hn.out⟩
 · intro vs W1 hlen hb hR
   match vs,hlen with
   | [v0, v1, v2, v3, v4, v5, v6, v7, v8], _ =>
     have r0:v0=zH ax ay az 2:=hR 0 v0 rfl;have r1:v1 = .agg #[ax,ay,az,.int .i64 (ax+4),.int .i64 (ay+4),.int .i64 (az+4)]:=hR 1 v1 rfl;have r2:v2 = .slice (some ⟨g,0,none⟩) xs.length cap:=hR 2 v2 rfl;have r3:v3 = .agg #[ax,ay,az,.int .i64 (ax+4),.int .i64 (ay+4),.int .i64 (az+4),.slice (some ⟨g,0,none⟩) xs.length cap]:=hR 3 v3 rfl;have r4:v4 = .map (some bm):=hR 4 v4 rfl;have r5:v5=zH ax ay az 2:=hR 5 v5 rfl;have r6:v6 = .slice hc cs.length hcp:=hR 6 v6 rfl;obtain ⟨pa,pc,r7,hown⟩ : ∃ pa pc,v7 = .agg #[ax,ay,az,.int .i64 (ax+4),.int .i64 (ay+4),.int .i64 (az+4),.slice pa xs.length pc]∧Own W1 W.heap.size 3 .i64 (.slice pa xs.length pc) zs:=hR 7 v7 rfl;obtain ⟨g2,r8,hg2,kg⟩ : ∃ g2,v8 = .pointer (some ⟨g2,0,none⟩)∧W.heap.size≤g2∧Bk W1 g2 #[(0:Int),(0:Int),(0:Int),(0:Int),(0:Int),(0:Int),.slice none 0 0] 28:=hR 8 v8 rfl;subst r0 r1 r2 r3 r4 r5 r6 r7 r8;clear hR hbox hg;obtain ⟨g3,c3,hv3,-,-,-,-,-⟩:=hown.at (by rw [Hzl.out];decide)
     injection hv3 with e1 e2 e3;subst e1;clear e2 e3
     have hne:g3 ≠ g2:=fun e=>by
      obtain ⟨cur3,q1,-⟩:=hown.raw;rw [e] at q1;have q2:W1.heap[g2]? = _:=kg;rw [q1] at q2;injection q2 with q2;injection q2 with _ q2;exact absurd q2 (by decide)
     have Hown:=Bx.mk hown;have Hb:=Bx.mk hb;clear hown hb;have cg0:=kg.cell 0 rfl;have fg0:=kg.frozen 0;have cg1:=kg.cell 1 rfl;have fg1:=kg.frozen 1;have cg2:=kg.cell 2 rfl;have fg2:=kg.frozen 2;have cg3:=kg.cell 3 rfl;have fg3:=kg.frozen 3;have cg4:=kg.cell 4 rfl;have fg4:=kg.frozen 4;have cg5:=kg.cell 5 rfl;have fg5:=kg.frozen 5;have cg6:=kg.cell 6 rfl;have fg6:=kg.frozen 6;simp only [zAk,List.take_succ_cons,List.take_zero,List.drop_succ_cons,List.drop_zero,List.map_cons,List.map_nil,List.zip_cons_cons,List.zip_nil_right,List.foldl_cons,List.foldl_nil];go_upto_region 2 with fail;have kg5:=kg.put7 (.int .i64 ax) (.int .i64 ay) (.int .i64 az) (.int .i64 (ax+4)) (.int .i64 (ay+4)) (.int .i64 (az+4)) (.slice (some ⟨g3,0,none⟩) xs.length pc);have hgr:W1.grownBy _ (some g2):=zC (zC (zC (zC (zC (zC (zC (World.grownBy.refl W1 (some g2)) 0 (.int .i64 ax)) 1 (.int .i64 ay)) 2 (.int .i64 az)) 3 (.int .i64 (ax+4))) 4 (.int .i64 (ay+4))) 5 (.int .i64 (az+4))) 6 (.slice (some ⟨g3,0,none⟩) xs.length pc);clear cg0 fg0 cg1 fg1 cg2 fg2 cg3 fg3 cg4 fg4 cg5 fg5 cg6 fg6 kg;generalize World.setCell _ ⟨g2,6,none⟩ _=W5 at *;have hg2w:Bd≤g2∧g ≠ g2:=by omega
     have hown5:Own W5 W.heap.size 3 .i64 (.slice (some ⟨g3,0,none⟩) xs.length pc) zs:=World.ownsRow.kept Hown.out hgr (.inr (fun e=>by injection e with e;exact hne e))
     have ho5:Own W5 Bd 3 .i64 (.slice (some ⟨g,0,none⟩) xs.length cap) xs:=World.ownsRow.kept (HO.out.below Hb.out) hgr (.inr (fun e=>by injection e with e;exact hg2w.2 e))
     obtain ⟨a3,c3',hv3,hsl3⟩:=hown5.form;injection hv3 with e1 e2 e3;subst e1;clear e2 e3;obtain ⟨cur,q1,q2,q3,q4,q5,q6,q7⟩:=ho5.raw;have HK:=Bx.mk ((((Keeps.below HB.out).trans (Keeps.below Hb.out)).trans (Keeps.grown hgr (fun k e hk=>by injection e with e;subst e;have:g2<Bd:=hk;omega))):Keeps (fun k=>k<Bd) w W5)
     have hcop:=Bx.mk (copied q1 q2 q4 q5 q6 (zs:=zs) (by rw [Hzl.out,HL.out]) (xs:=xs))
     have cc6:W5.cell? ⟨g2,6,none⟩=some (.slice (some ⟨g3,0,none⟩) xs.length pc):=kg5.cell 6 rfl;have Q1:=Bx.mk q1;have HSL:=Bx.mk hsl3;have hn1:(zs.map (Value.int .i64)).length=Nat.min xs.length xs.length:=by rw [List.length_map,Hzl.out,HL.out];rfl
     have hfit:0+(zs.map (Value.int .i64)).length≤cur.toArray.size:=by rw [List.length_map,Hzl.out,List.size_toArray,q2];have:=HL.out;omega
     have HN1:=Bx.mk hn1;have HF1:=Bx.mk hfit;clear hown5 ho5 hsl3 kg5 hgr q1 q3 Hown q2 q4 q5 q6 q7 hn1 hfit hg2w hgl hWs hg2 hne;go_wp2_with (refine wpList_copy_own rfl (.tmp 14) (.tmp 16) 26 26 rfl 3 Tryz.underlying26 (by kernel_rfl) g 0 xs.length cap ⟨g3,0,none⟩ xs.length pc rfl rfl cur.toArray 3 Q1.out (zs.map (Value.int .i64)) HN1.out (zDQ HSL.out) HF1.out (zDX zs) ?_)
     go_end0
     exact ⟨rfl,hcop.out.1,HK.out.trans hcop.out.2⟩
def zAI (n:Nat) (p:Pt):Pt:=⟨p.x - p.x % 2 ^ (n+2),p.y - p.y % 2 ^ (n+2),p.z - p.z % 2 ^ (n+2)⟩
theorem zOY (x m:Int):x - x % m=m * (x / m):=by have:=Int.mul_ediv_add_emod x m;omega
theorem low_al (n:Nat) (p:Pt):Tr.Al n (zAI n p):=by
 refine ⟨?_,?_,?_⟩ <;> (simp only [zAI];rw [zOY];exact Int.mul_emod_right _ _)
theorem zMj (n:Nat) (p:Pt):Tr.InC n (zAI n p) p:=by
 have hp:=Tr.pow_pos2 n;refine ⟨?_,?_,?_⟩ <;> (simp only [zAI];rw [zOY,Int.mul_ediv_cancel_left _ (by omega)])
theorem zJr {n:Nat} {a p:Pt} (h:Tr.Al n a):a=zAI n p ↔ Tr.InC n a p:=by
 refine ⟨fun e=>e ▸ zMj n p,fun hi=>?_⟩;obtain ⟨x,y,z⟩:=h;obtain ⟨i,j,k⟩:=hi;have e1:=Int.mul_ediv_add_emod a.x (2 ^ (n+2));have e2:=Int.mul_ediv_add_emod a.y (2 ^ (n+2));have e3:=Int.mul_ediv_add_emod a.z (2 ^ (n+2));unfold zAI;rw [zOY,zOY,zOY,i,j,k];cases a;simp only at *
 congr 1 <;> omega
instance (n:Nat) (a p:Pt):Decidable (Tr.InC n a p):=by unfold Tr.InC;infer_instance
def inb (l:List Chg) (a:Pt):List Chg:=l.filter fun c=>decide (Tr.InC 0 a c.at)
theorem zNs (l:List Chg) (c:Chg) (a:Pt):inb (l++[c]) a=inb l a++if Tr.InC 0 a c.at then [c] else []:=by
 unfold inb;rw [List.filter_append]
 congr 1
 by_cases h:Tr.InC 0 a c.at
 · simp [h]
 · simp [h]
abbrev zBv (l:List Chg):List Value:=l.flatMap Chg.cells
def TouchM (N tm m:Nat) (T:Nat→Pt→Prop) (W:World):Prop :=
 ∃ ft,MapV 52 W tm m ft ∧ ∀ n a,n≤N→Tr.Al n a→(T n a→ft (zH a.x a.y a.z ((n:Int)+2))=some (.bool true))∧(¬T n a→ft (zH a.x a.y a.z ((n:Int)+2))=none)
def BrickM (B bm m:Nat) (Av:Nat→Prop) (l:List Chg) (W:World):Prop :=
 ∃ fb, MapV 52 W bm m fb ∧
   (∀ a,Tr.Al 0 a→(inb l a=[]→fb (zH a.x a.y a.z 2)=none)∧(inb l a ≠ [] → ∃ v,fb (zH a.x a.y a.z 2)=some v∧W.ownsRow B 41 5 v (inb l a).length (zBv (inb l a)) ∧ ∀ g,v.ownBlock=some g → ¬Av g)) ∧
   ∀ a a' v v' g,Tr.Al 0 a→Tr.Al 0 a'→fb (zH a.x a.y a.z 2)=some v→fb (zH a'.x a'.y a'.z 2)=some v'→v.ownBlock=some g→v'.ownBlock=some g→a=a'
structure WK (w0:World) (Av:Nat→Prop) (N vt vb tm bm m:Nat) (T:Nat→Pt→Prop) (l:List Chg) (W:World):Prop where
 bel:Below w0.heap.size w0 W
 kt:Bk W vt #[.map (some tm)] 82
 kb:Bk W vb #[.map (some bm)] 81
 ge:w0.heap.size≤vt∧w0.heap.size≤vb∧w0.heap.size≤tm∧w0.heap.size≤bm
 av:Av vt∧Av vb∧Av tm∧Av bm
 lt : ∀ k,Av k→k<W.heap.size
 ne:vt ≠ tm∧vt ≠ bm∧vb ≠ tm∧vb ≠ bm∧tm ≠ bm
 tmap:TouchM N tm m T W
 bmap:BrickM w0.heap.size bm m Av l W
theorem WK.later {w0 W W':World} {Av:Nat→Prop} {N vt vb tm bm m:Nat} {T:Nat→Pt→Prop} {l:List Chg} (h:WK w0 Av N vt vb tm bm m T l W) (hb:Below W.heap.size W W'):WK w0 Av N vt vb tm bm m T l W':=by
 obtain ⟨h1,h2,h3,h4,hav,hlt,h5,⟨ft,t1,t2⟩,⟨fb,b1,b2,b3⟩⟩:=h;have hg:=zJ hb;refine ⟨h1.trans (hb.mono h1.size),h2.later hb,h3.later hb,h4,hav,fun k hk=>Nat.lt_of_lt_of_le (hlt k hk) hb.size,h5,⟨ft,t1.of_block (hb.block _ t1.lt),t2⟩,⟨fb,b1.of_block (hb.block _ b1.lt),fun a ha=>⟨(b2 a ha).1,fun hn=>?_⟩,b3⟩⟩;obtain ⟨v,q1,q2,q3⟩:=(b2 a ha).2 hn;exact ⟨v,q1,World.ownsRow.kept q2 hg (by cases v.ownBlock <;> simp),q3⟩
theorem WK.avoid {w0 W:World} {Av Av':Nat→Prop} {N vt vb tm bm m:Nat} {T:Nat→Pt→Prop} {l:List Chg} (h:WK w0 Av N vt vb tm bm m T l W) {W':World} (hb:Below W.heap.size W W') (h' : ∀ k,Av' k→Av k∨W.heap.size≤k) (hlt' : ∀ k,Av' k→k<W'.heap.size) (hav':Av' vt∧Av' vb∧Av' tm∧Av' bm):WK w0 Av' N vt vb tm bm m T l W':=by
 have hl:=h.later hb;obtain ⟨h1,h2,h3,h4,hav,hlt,h5,tm,⟨fb,b1,b2,b3⟩⟩:=hl;obtain ⟨-,-,-,-,-,-,-,-,⟨fb0,c1,c2,c3⟩⟩:=h;refine ⟨h1,h2,h3,h4,hav',hlt',h5,tm,⟨fb0,c1.of_block (hb.block _ c1.lt),fun a ha=>⟨(c2 a ha).1,fun hn=>?_⟩,c3⟩⟩;obtain ⟨v,q1,q2,q3⟩:=(c2 a ha).2 hn;refine ⟨v,q1,World.ownsRow.kept q2 (zJ hb) (by cases v.ownBlock <;> simp),fun g hg ha'=>?_⟩
 rcases h' g ha' with h | h
 · exact q3 g hg h
 · have:=(World.ownsRow.lt q2 g hg).2;omega
theorem zDq {w0 W W':World} {g:Nat} (h:Below w0.heap.size w0 W) (hg:W.grownBy W' (some g)) (hge:w0.heap.size≤g):Below w0.heap.size w0 W' :=
 h.trans ⟨hg.os,hg.tape,hg.output,hg.size,fun k hk=>hg.block k (Nat.lt_of_lt_of_le hk h.size) (fun e=>by injection e with e;omega)⟩
theorem WK.touch {w0 W:World} {Av:Nat→Prop} {N vt vb tm bm m:Nat} {T:Nat→Pt→Prop} {l:List Chg} (h:WK w0 Av N vt vb tm bm m T l W) (hm:m<maxLen) (n:Nat) (p:Pt) (hwf : ∀ q∈[(zAI n p).x,(zAI n p).y,(zAI n p).z,(n:Int)+2],(Lit.int .i64 q).wf=true) :
 ∃ W',(Instr.mapUpdate 82 (.map (some tm)) (zH (zAI n p).x (zAI n p).y (zAI n p).z ((n:Int)+2)) (.bool true)).run Tryz.prog W = .ok () W'∧WK w0 Av N vt vb tm bm (m+1) (fun n' a=>T n' a∨(n'=n∧Tr.InC n a p)) l W'∧W'.heap.size=W.heap.size∧W.grownBy W' (some tm):=by
 obtain ⟨h1,h2,h3,h4,hav,hlt,h5,⟨ft,t1,t2⟩,⟨fb,b1,b2,b3⟩⟩:=h;obtain ⟨kl,hkl⟩:=zDF _ _ _ _ hwf;obtain ⟨W',hrun,hM,hg,hs⟩:=t1.put zDj Tryz.underlying82 hm hkl (.bool true);refine ⟨W',hrun,⟨zDq h1 hg h4.2.2.1,h2.grown hg h5.1,h3.grown hg h5.2.2.1,h4,hav,fun k hk=>Nat.lt_of_lt_of_le (hlt k hk) hg.size,h5,⟨_,hM,fun n' a hn ha=>?_⟩,⟨fb,(b1.kept hg (by intro e;injection e with e;exact h5.2.2.2.2 e.symm)).mono (by omega),fun a ha=>⟨(b2 a ha).1,fun hn=>?_⟩,b3⟩⟩,hs,hg⟩
 · by_cases e:n'=n∧Tr.InC n a p
   · obtain ⟨rfl,e⟩:=e;have ea:=(zJr ha).2 e;rw [ea,zBV];exact ⟨fun _=>rfl,fun hne=>absurd (.inr ⟨rfl,ea ▸ e⟩) hne⟩
   · rw [zAL]
     · obtain ⟨q1,q2⟩:=t2 n' a hn ha;exact ⟨fun ht=>q1 (ht.resolve_right e),fun ht=>q2 (fun h=>ht (.inl h))⟩
     · intro ek;obtain ⟨x,y,z,hl⟩:=zCK ek;obtain rfl:n'=n:=by omega
       refine e ⟨rfl,(zJr ha).1 ?_⟩;cases a;cases hq:zAI n' p;rw [hq] at x y z;simp only at x y z;rw [x,y,z]
 · obtain ⟨v,q1,q2,q3⟩:=(b2 a ha).2 hn
   exact ⟨v,q1,World.ownsRow.kept q2 hg (by
    cases hv:v.ownBlock with
    | none=>exact .inl rfl
    | some g=>exact .inr (fun e=>q3 g hv (by injection e with e;exact e ▸ hav.2.2.1))),q3⟩
structure Mid (w0 W W2:World) (Av:Nat→Prop) (N vt vb tm bm m:Nat) (T:Nat→Pt→Prop) (l:List Chg) (c:Chg) (v0:Value) (st:Nat):Prop where
 own:W2.ownsRow w0.heap.size 41 5 v0 (inb l (zAI 0 c.at)).length (zBv (inb l (zAI 0 c.at)))
 nav : ∀ g,v0.ownBlock=some g → ¬Av g
 bel:Below w0.heap.size w0 W2
 size:W2.heap.size=W.heap.size
 grown:W.grownBy W2 (some bm)
 push : ∀ W3 v',W2.grownBy W3 v0.ownBlock→W3.ownsRow w0.heap.size 41 5 v' ((inb l (zAI 0 c.at)).length+1) (zBv (inb l (zAI 0 c.at))++c.cells)→(v'.ownBlock=v0.ownBlock∨v'.ownBlock=some W2.heap.size) →
  ∃ W4,(Instr.entryStore 81 (.map (some bm)) (.int .i64 st) v').run Tryz.prog W3 = .ok () W4∧WK w0 Av N vt vb tm bm (m+1) T (l++[c]) W4∧W4.heap.size=W3.heap.size∧(∀ g,g<W.heap.size→g ≠ bm→v0.ownBlock ≠ some g→W4.heap[g]? = W.heap[g]?)
theorem WK.entry {w0 W:World} {Av:Nat→Prop} {N vt vb tm bm m:Nat} {T:Nat→Pt→Prop} {l:List Chg} (h:WK w0 Av N vt vb tm bm m T l W) (hm:m<maxLen) (c:Chg) (hwf : ∀ q∈[(zAI 0 c.at).x,(zAI 0 c.at).y,(zAI 0 c.at).z,2],(Lit.int .i64 q).wf=true) :
 ∃ v0 st W2,(Instr.mapEntry 81 (.map (some bm)) (zH (zAI 0 c.at).x (zAI 0 c.at).y (zAI 0 c.at).z 2)).run Tryz.prog W = .ok (.tuple #[v0,.int .i64 (st:Nat)]) W2∧Mid w0 W W2 Av N vt vb tm bm m T l c v0 st:=by
 obtain ⟨h1,h2,h3,h4,hav,hlt,h5,⟨ft,t1,t2⟩,⟨fb,b1,b2,b3⟩⟩:=h;obtain ⟨kl,hkl⟩:=zDF _ _ _ _ hwf;obtain ⟨st,W2,hrun,hg,hs,hst⟩:=b1.entry zKI Tryz.underlying81 zeroC hm hkl;have ha0:=low_al 0 c.at
 have hi0:=zMj 0 c.at
 -- the row that stands there
 have hrow:W.ownsRow w0.heap.size 41 5 ((fb (zH (zAI 0 c.at).x (zAI 0 c.at).y (zAI 0 c.at).z 2)).getD (.slice none 0 0)) (inb l (zAI 0 c.at)).length (zBv (inb l (zAI 0 c.at)))∧(∀ g,((fb (zH (zAI 0 c.at).x (zAI 0 c.at).y (zAI 0 c.at).z 2)).getD (.slice none 0 0)).ownBlock=some g → ¬Av g) ∧
  ∀ g,((fb (zH (zAI 0 c.at).x (zAI 0 c.at).y (zAI 0 c.at).z 2)).getD (.slice none 0 0)).ownBlock=some g → ∀ a v,Tr.Al 0 a→fb (zH a.x a.y a.z 2)=some v→v.ownBlock=some g→a=zAI 0 c.at:=by
  obtain ⟨r1,r2⟩:=b2 _ ha0;by_cases hn:inb l (zAI 0 c.at)=[]
  · rw [r1 hn,hn];exact ⟨World.ownsRow_nil _ _ _ _,(fun g hg=>by cases hg),(fun g hg=>by cases hg)⟩
  · obtain ⟨v,q1,q2,q3⟩:=r2 hn;rw [q1];exact ⟨q2,q3,fun g hg a v' ha hv hg'=>b3 a _ v' v g ha ha0 hv q1 hg' hg⟩
 obtain ⟨hr1,hr2,hr3⟩:=hrow;generalize (fb (zH (zAI 0 c.at).x (zAI 0 c.at).y (zAI 0 c.at).z 2)).getD (.slice none 0 0)=v0 at *;refine ⟨v0,st,W2,hrun,⟨?_,hr2,zDq h1 hg h4.2.2.2,hs,hg,fun W3 v' hg3 hrow hat=>?_⟩⟩
 · exact World.ownsRow.kept hr1 hg (by
    cases hv:v0.ownBlock with
    | none=>exact .inl rfl
    | some g=>exact .inr (fun e=>hr2 g hv (by injection e with e;exact e ▸ hav.2.2.2)))
 · have hbm2:bm<W2.heap.size:=by rw [hs];exact b1.lt
   have hbmne:some bm ≠ v0.ownBlock:=fun e=>hr2 bm e.symm hav.2.2.2;obtain ⟨W4,hrun4,hM4,hg4,hs4⟩:=hst W3 v' (hg3.block bm hbm2 hbmne)
   have hnb : ∀ g,v'.ownBlock=some g → ¬Av g:=by
    intro g hgv;rcases hat with e | e
    · exact hr2 g (e.symm.trans hgv)
    · rw [e] at hgv;obtain rfl:=Option.some.inj hgv;intro h;have:=hlt _ h;omega
   have hold : ∀ g,g<W.heap.size→g ≠ bm→v0.ownBlock ≠ some g→W4.heap[g]? = W.heap[g]? := fun g hlt hne hv =>
    ((hg4.block g (Nat.lt_of_lt_of_le hlt (hs ▸ hg3.size)) (fun e=>hne (by injection e))).trans (hg3.block g (by omega) (fun e=>hv e.symm))).trans (hg.block g hlt (fun e=>hne (by injection e)))
   refine ⟨W4,hrun4,⟨?_,?_,?_,h4,hav,fun k hk=>Nat.lt_of_lt_of_le (hlt k hk) (Nat.le_trans hg.size (Nat.le_trans hg3.size hg4.size)),h5,?_,?_⟩,hs4,hold⟩
   · refine h1.trans ⟨hg4.os.trans (hg3.os.trans hg.os),hg4.tape.trans (hg3.tape.trans hg.tape),hg4.output.trans (hg3.output.trans hg.output),Nat.le_trans hg.size (Nat.le_trans hg3.size hg4.size),fun k hk=>hold k (Nat.lt_of_lt_of_le hk h1.size) (by omega) (fun e=>by have:=(World.ownsRow.lt hr1 k e).1;omega)⟩
   · exact (hold vt h2.lt h5.2.1 (fun e=>hr2 vt e hav.1)).trans h2
   · exact (hold vb h3.lt h5.2.2.2.1 (fun e=>hr2 vb e hav.2.1)).trans h3
   · exact ⟨ft,(t1.of_block (hold tm t1.lt h5.2.2.2.2 (fun e=>hr2 tm e hav.2.2.1))).mono (by omega),t2⟩
   · refine ⟨_,hM4,fun a ha=>?_,fun a a' v1 v2 g ha ha' e1 e2 g1 g2=>?_⟩
     · rw [zNs];by_cases e:a=zAI 0 c.at
       · subst e;rw [if_pos hi0,zBV];refine ⟨fun h=>by simp at h,fun _=>⟨v',rfl,?_,hnb⟩⟩
         rw [List.length_append,List.length_singleton,show zBv (inb l (zAI 0 c.at)++[c])=zBv (inb l (zAI 0 c.at))++c.cells by unfold zBv;rw [List.flatMap_append];simp]
         exact World.ownsRow.kept hrow hg4 (by
          cases hv:v'.ownBlock with
          | none=>exact .inl rfl
          | some g=>exact .inr (fun e=>hnb g hv (by injection e with e;exact e ▸ hav.2.2.2)))
       · rw [if_neg (fun hi=>e ((zJr ha).2 hi)),List.append_nil,zAL]
         · obtain ⟨r1,r2⟩:=b2 a ha;refine ⟨r1,fun hn=>?_⟩;obtain ⟨v,q1,q2,q3⟩:=r2 hn;refine ⟨v,q1,?_,q3⟩;refine zCx q2 fun g hgv=>hold g (World.ownsRow.lt q2 g hgv).2 (fun e0=>q3 g hgv (e0 ▸ hav.2.2.2)) (fun e0=>e (hr3 g e0 a v ha q1 hgv))
         · intro ek;obtain ⟨x,y,z,-⟩:=zCK ek;apply e;cases a;cases hq:zAI 0 c.at
           rw [hq] at x y z;simp only at x y z;rw [x,y,z]
     · have key : ∀ a1 a2 u1 u2,Tr.Al 0 a1→Tr.Al 0 a2→zLW fb (zH (zAI 0 c.at).x (zAI 0 c.at).y (zAI 0 c.at).z 2) v' (zH a1.x a1.y a1.z 2)=some u1→zLW fb (zH (zAI 0 c.at).x (zAI 0 c.at).y (zAI 0 c.at).z 2) v' (zH a2.x a2.y a2.z 2)=some u2→u1.ownBlock=some g→u2.ownBlock=some g→a1=zAI 0 c.at→a2=zAI 0 c.at:=by
        intro a1 a2 u1 u2 ha1 ha2 e1 e2 g1 g2 h;subst h;refine Classical.byContradiction fun hne=>?_;rw [zBV] at e1;obtain rfl:=Option.some.inj e1
        rw [zAL fb v' (fun ek=>hne (by
         obtain ⟨x,y,z,-⟩:=zCK ek;cases a2;cases hq:zAI 0 c.at
         rw [hq] at x y z;simp only at x y z;rw [x,y,z]))] at e2
        have hin:inb l a2 ≠ []:=fun h0=>by rw [(b2 a2 ha2).1 h0] at e2;cases e2
        obtain ⟨v,q1,q2,q3⟩:=(b2 a2 ha2).2 hin;rw [q1] at e2;obtain rfl:=Option.some.inj e2;rcases hat with e | e
        · exact hne (hr3 g (e.symm.trans g1) a2 _ ha2 q1 g2)
        · rw [e] at g1;obtain rfl:=Option.some.inj g1;have:=(World.ownsRow.lt q2 _ g2).2;omega
       by_cases h1':a=zAI 0 c.at
       · exact h1'.trans (key a a' v1 v2 ha ha' e1 e2 g1 g2 h1').symm
       · by_cases h2':a'=zAI 0 c.at
         · exact (key a' a v2 v1 ha' ha e2 e1 g2 g1 h2').trans h2'.symm
         · have ne : ∀ q,Tr.Al 0 q→q ≠ zAI 0 c.at→zH q.x q.y q.z 2 ≠ zH (zAI 0 c.at).x (zAI 0 c.at).y (zAI 0 c.at).z 2:=fun q _ hne ek=>hne (by
            obtain ⟨x,y,z,-⟩:=zCK ek;cases q;cases hq:zAI 0 c.at
            rw [hq] at x y z;simp only at x y z;rw [x,y,z])
           rw [zAL fb v' (ne a ha h1')] at e1;rw [zAL fb v' (ne a' ha' h2')] at e2;exact b3 a a' v1 v2 g ha ha' e1 e2 g1 g2
end
end Go.Proofs.YtfcbajmjaifjlaaGreatDoor
