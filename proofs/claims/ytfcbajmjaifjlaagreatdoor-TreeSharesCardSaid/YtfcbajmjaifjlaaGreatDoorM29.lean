/- Few2, Few3, Stf, Sch, Idx: joined by program, for one claim. -/
import Derived.Test.YtfcbajmjaifjlaaGreatDoorM28
import Derived.Deep.MidRow
import Derived.Deep.WholeRow
set_option maxHeartbeats 4000000
set_option maxRecDepth 100000
set_option linter.unusedVariables false
set_option linter.unusedSimpArgs false
namespace Go.Proofs.YtfcbajmjaifjlaaGreatDoor
section
open Go.RowKit Go.Sort Go.Maps
open Oct
structure Stp where
 kd:Int
 b:Box
 cell:Int
 g:Box
 ga:Option Addr
 ys:List Int
 gc:Nat
 la:Option Addr
 cs:List Chg
 lc:Nat
 c:Pt
 cl:Int
 d:Pt
 dl:Int
abbrev Stp.arr (s:Stp):Array Value:=#[s.kd,s.b.lo.x,s.b.lo.y,s.b.lo.z,s.b.hi.x,s.b.hi.y,s.b.hi.z,s.cell,s.g.lo.x,s.g.lo.y,s.g.lo.z,s.g.hi.x,s.g.hi.y,s.g.hi.z,.slice s.ga s.ys.length s.gc,.slice s.la s.cs.length s.lc,s.c.x,s.c.y,s.c.z,s.cl,s.d.x,s.d.y,s.d.z,s.dl]
structure StpOk (w:World) (s:Stp):Prop where
 ys:Sl w .i64 s.ga s.ys
 yc:s.ys.length≤s.gc
 cs:SlC w s.la s.cs
 cc:s.cs.length≤s.lc
theorem StpOk.below {w w':World} {s:Stp} (h:StpOk w s) (hb:Below w.heap.size w w'):StpOk w' s:=⟨h.ys.below hb,h.yc,h.cs.below hb,h.cc⟩
def SlS (w:World) (a:Option Addr) (L:List Stp):Prop := ∀ (i:Nat) (s:Stp),L[i]? = some s → ∃ b off,a=some ⟨b,off,none⟩∧(∀ j v,s.arr[j]? = some v→w.cell? ⟨b,off+i * 24+j,none⟩=some v)∧StpOk w s
theorem SlS.below {w w':World} {a:Option Addr} {L:List Stp} (h:SlS w a L) (hb:Below w.heap.size w w'):SlS w' a L:=by
 intro i s hs;obtain ⟨b,off,rfl,hc,ho⟩:=h i s hs;exact ⟨b,off,rfl,fun j v hj=>cell_later hb (hc j v hj),ho.below hb⟩
def zBu (n:Nat) (s:Stp):Bool:=decide (s.ys.length≤300) && (decide (s.cs.length≤20) && (zAA s.g s.ys && (okP s.b.lo && (okP s.b.hi && (decide (n≤3) || (decide (zU s.b≤4000) || zHc n s.b))))))
theorem zMT {n k:Nat} {L:List Stp} {s:Stp} (hs:L[k]? = some s) (h:(L.take k).all (zBu n)=true) (h':zBu n s=true):(L.take (k+1)).all (zBu n)=true:=by
 have hj:=List.getElem?_eq_some_iff.1 hs;rw [List.take_succ_eq_append_getElem hj.1,hj.2,List.all_append,h];simp [h']
theorem zOS {n k:Nat} {L:List Stp} {s:Stp} (hs:L[k]? = some s) (h':zBu n s=false):L.all (zBu n)=false:=by
 rw [List.all_eq_false];exact ⟨s,List.mem_of_getElem? hs,by simp [h']⟩
theorem zLA {b:Box} (h1:okP b.lo=true) (h2:okP b.hi=true):Small b 1048575:=by
 rw [zDY] at h1 h2;exact ⟨by omega,by omega,by omega,by omega,by omega,by omega⟩
theorem zJ9 {a b:Nat} {F:Prop} (h : ¬b≤a→F):(decide ((a:Int)<(b:Int))=true∧Bx F)∨(decide ((a:Int)<(b:Int))=false∧Bx (b≤a)):=by
 by_cases h1:b≤a
 · exact .inr ⟨by simp;omega,⟨h1⟩⟩
 · exact .inl ⟨by simp;omega,⟨h h1⟩⟩
theorem zEt {b:Bool} {F:Prop} (h:b=false→F):(b=false∧Bx F)∨(b=true∧Bx (b=true)):=by
 cases b with
 | false=>exact .inl ⟨rfl,⟨h rfl⟩⟩
 | true=>exact .inr ⟨rfl,⟨rfl⟩⟩
theorem few_n {n:Nat} {F:Prop} (h:n≤3→F):(decide ((5:Int)<(n:Int)+2)=false∧Bx F)∨(decide ((5:Int)<(n:Int)+2)=true∧Bx (¬n≤3)):=by
 by_cases h1:n≤3
 · exact .inl ⟨by simp;omega,⟨h h1⟩⟩
 · exact .inr ⟨by simp;omega,⟨h1⟩⟩
theorem zN3 {v:Int} {F:Prop} (h:v≤4000→F):(decide ((4000:Int)<v)=false∧Bx F)∨(decide ((4000:Int)<v)=true∧Bx (¬v≤4000)):=by
 by_cases h1:v≤4000
 · exact .inl ⟨by simp;omega,⟨h h1⟩⟩
 · exact .inr ⟨by simp;omega,⟨h1⟩⟩
theorem zL1 {b:Bool} {F G:Prop} (h:b=true→F) (h':b=false→G):(b=true∧Bx F)∨(b=false∧Bx G):=by
 cases b with
 | true=>exact .inl ⟨rfl,⟨h rfl⟩⟩
 | false=>exact .inr ⟨rfl,⟨h' rfl⟩⟩
theorem zFq (a b c d e f:Int) (ha:Option Addr) (hcp:Nat) (xs:List Int) (hl:xs.length≤300) (n:Nat) (hn:n≤12) (hE:zA9 ⟨⟨a,b,c⟩,⟨d,e,f⟩⟩ xs ((n:Int)+2)=0) (la:Option Addr) (lc:Nat) (L:List Stp) (hL:L.length≤8) (w:World) (hsl:Sl w .i64 ha xs) (hS:SlS w la L) :
 Calls Tryz.prog 4 #[.agg #[a,b,c,d,e,f,.slice ha xs.length hcp],.int .i64 ((n:Int)+2),.slice la L.length lc] w fun e' w'=>e' = .returned (.bool (L.all (zBu n)))∧Below w.heap.size w w':=by
 have hch:=Bx.mk fun W h=>zCf a b c d e f ha hcp xs hl ((n:Int)+2) W h;rw [hE] at hch;have hwide:=Bx.mk fun b0 b1 b2 b3 b4 b5 W=>zKr n hn b0 b1 b2 b3 b4 b5 W;have Hsl:=Bx.mk hsl;have HS:=Bx.mk hS;have t1:decide ((300:Int)<(xs.length:Int))=false:=by simp;omega
 have t2:decide ((8:Int)<(L.length:Int))=false:=by simp;omega
 generalize hm:L.length=m at *;generalize xs.length=xl at *;have HM:=Bx.mk hm;clear hsl hS hE hm hl;go_enter Tryz.func4,Tryz.ntmps4;go_upto_region 1 with fail;generalize hW:World.alloc w _=W;have hB:=bl1 hW;have kg:Bk W w.heap.size #[a,b,c,d,e,f,.slice ha xl hcp] 28:=bk0 hW;clear hW;obtain ⟨c0,c1,c2,c3,c4,c5,c6⟩:=kg.c7;have HC:=Bx.mk (hch.out W (Hsl.out.below hB));have HB0:=Bx.mk hB;clear kg hB hch;go_wp2_with fail;refine HC.out.mono ?_;rintro _ w2 ⟨rfl,hb2⟩;have HI:Bx (Below w.heap.size w w2∧(L.take 0).all (zBu n)=true):=⟨HB0.out.trans (hb2.mono HB0.out.size),rfl⟩;clear hb2 HB0 HC c0 c1 c2 c3 c4 c5 c6 t1 t2;go_wp2_with fail
 go_loopw [26] (fun v26 wr => ∃ k:Nat,k≤m∧v26 = .int .i64 k∧Bx (Below w.heap.size w wr∧(L.take k).all (zBu n)=true)) (fun i _=>m - (intOf i).toNat)
 case atStart=>exact ⟨0,Nat.zero_le _,rfl,HI⟩
 case round =>
  clear HI;obtain ⟨k,hk,rfl,HI⟩:=hrel;by_cases hlt:k<m
  · have t0:decide ((k:Int)<(m:Int))=true:=by simp;omega
    obtain ⟨s,hs⟩ : ∃ s,L[k]? = some s:=⟨_,List.getElem?_eq_getElem (by have:=HM.out;omega)⟩
    obtain ⟨bA,oA,rfl,hcell,hok⟩:=(HS.out.below HI.out.1) k s hs;have z1:(0:Int)≤(k:Int):=by omega
    have z2:(k:Int)<(m:Int):=by omega
    obtain ⟨AL,hA⟩ : ∃ AL,AL=s.arr.toList:=⟨_,rfl⟩;have hAs:AL.length=24:=by rw [hA];rfl
    have hA1:Bx (AL.toArray.all (·.oneCell')=true):=⟨by rw [hA];simp [Value.oneCell']⟩
    have hi24:Bx ((Tryz.prog.info? 54).map (·.size)=some AL.length):=⟨by rw [hAs];kernel_rfl⟩
    have hi25:Bx ((Tryz.prog.info? 54).map (·.size)=some AL.toArray.size):=⟨by rw [List.size_toArray,hAs];kernel_rfl⟩
    have HR:Bx (∀ W',Below wr.heap.size wr W'→W'.rangeAt bA (oA+k * 24) AL):=⟨fun W' hb j v hj=>cell_later hb (hcell j v (by rw [hA] at hj;simpa using hj))⟩
    have HA:=Bx.mk hA;have HA24:=Bx.mk hAs;clear hA hAs hcell;have HOK:=Bx.mk hok;have hstep:Bx (zBu n s=true→(L.take (k+1)).all (zBu n)=true):=⟨fun h=>zMT hs HI.out.2 h⟩;have hbad:Bx (zBu n s=false→L.all (zBu n)=false):=⟨fun h=>zOS hs h⟩;clear hok hs
    go_upto_region 6 with (first
     | (refine wpList_load_mid rfl _ _ rfl bA (oA+k * 24) rfl AL _ (HR.out _ (Below.refl _ _)) Tryz.underlying54 rfl hi24.out ?_)
     | (refine zE rfl _ _ _ rfl wr.heap.size rfl _ AL.toArray rfl 54 (heap_alloc_new _ _) hi25.out (by rw [show AL.toArray.size=24 by simp [HA24.out]];rfl) hA1.out ?_))
    generalize hW:World.setRow (World.alloc wr _) _ _=W;have hB:Below wr.heap.size wr W:=by rw [←hW];exact below_setRow ((Below.refl _ _).alloc (Nat.le_refl _) _) (Nat.le_refl _) _
    have KS:=Bx.mk (show Bk W wr.heap.size #[s.kd,s.b.lo.x,s.b.lo.y,s.b.lo.z,s.b.hi.x,s.b.hi.y,s.b.hi.z,s.cell,s.g.lo.x,s.g.lo.y,s.g.lo.z,s.g.hi.x,s.g.hi.y,s.g.hi.z,.slice s.ga s.ys.length s.gc,.slice s.la s.cs.length s.lc,s.c.x,s.c.y,s.c.z,s.cl,s.d.x,s.d.y,s.d.z,s.dl] 54 by rw [←hW,HA.out];exact setRow_heap _ _ _ _ _ (0,0) (heap_alloc_new _ _))
    have HB:=Bx.mk hB;clear hW hA1 hi24 hi25 HR HA HA24;have hlo0:=fun W' (_:Below wr.heap.size wr W')=>zAj s.b.lo.x s.b.lo.y s.b.lo.z W';have hhi0:=fun W' (_:Below wr.heap.size wr W')=>zAj s.b.hi.x s.b.hi.y s.b.hi.z W';have hwi0:=fun W' (_:Below wr.heap.size wr W')=>hwide.out s.b.lo.x s.b.lo.y s.b.lo.z s.b.hi.x s.b.hi.y s.b.hi.z W';rw [show (⟨s.b.lo.x,s.b.lo.y,s.b.lo.z⟩:Pt)=s.b.lo from rfl] at hlo0;rw [show (⟨s.b.hi.x,s.b.hi.y,s.b.hi.z⟩:Pt)=s.b.hi from rfl] at hhi0;rw [show (⟨⟨s.b.lo.x,s.b.lo.y,s.b.lo.z⟩,⟨s.b.hi.x,s.b.hi.y,s.b.hi.z⟩⟩:Box)=s.b from rfl] at hwi0;have hlo:=Bx.mk hlo0;have hhi:=Bx.mk hhi0;have hwi:=Bx.mk hwi0;clear hlo0 hhi0 hwi0;have q1:=KS.out.cell 1 rfl;have q2:=KS.out.cell 2 rfl;have q3:=KS.out.cell 3 rfl;have q4:=KS.out.cell 4 rfl;have q5:=KS.out.cell 5 rfl;have q6:=KS.out.cell 6 rfl;have q8:=KS.out.cell 8 rfl;have q9:=KS.out.cell 9 rfl;have q10:=KS.out.cell 10 rfl;have q11:=KS.out.cell 11 rfl;have q12:=KS.out.cell 12 rfl;have q13:=KS.out.cell 13 rfl;have q14:=KS.out.cell 14 rfl;have q15:=KS.out.cell 15 rfl;rcases (show (decide ((300:Int)<(s.ys.length:Int))=true∧Bx (zBu n s=false))∨(decide ((300:Int)<(s.ys.length:Int))=false∧Bx (s.ys.length≤300)) from zJ9 fun h=>(by unfold zBu;simp [h])) with ⟨t1,G⟩ | ⟨t1,Ht1⟩
    rotate_left
    rcases (show (decide ((20:Int)<(s.cs.length:Int))=true∧Bx (zBu n s=false))∨(decide ((20:Int)<(s.cs.length:Int))=false∧Bx (s.cs.length≤20)) from zJ9 fun h=>(by unfold zBu;simp [h])) with ⟨t2,G⟩ | ⟨t2,Ht2⟩
    rotate_left
    have hva0:=fun W' (hb:Below wr.heap.size wr W')=>zFP s.g.lo.x s.g.lo.y s.g.lo.z s.g.hi.x s.g.hi.y s.g.hi.z s.ga s.gc s.ys Ht1.out W' (HOK.out.ys.below hb);rw [show (⟨⟨s.g.lo.x,s.g.lo.y,s.g.lo.z⟩,⟨s.g.hi.x,s.g.hi.y,s.g.hi.z⟩⟩:Box)=s.g from rfl] at hva0;have hva:=Bx.mk hva0;clear hva0;rcases (show (zAA s.g s.ys=false∧Bx (zBu n s=false))∨(zAA s.g s.ys=true∧Bx (zAA s.g s.ys=true)) from zEt fun h=>(by unfold zBu;simp [h])) with ⟨h3,G⟩ | ⟨h3,Hh3⟩
    rotate_left
    rcases (show (okP s.b.lo=false∧Bx (zBu n s=false))∨(okP s.b.lo=true∧Bx (okP s.b.lo=true)) from zEt fun h=>(by unfold zBu;simp [h])) with ⟨h4,G⟩ | ⟨h4,Hh4⟩
    rotate_left
    rcases (show (okP s.b.hi=false∧Bx (zBu n s=false))∨(okP s.b.hi=true∧Bx (okP s.b.hi=true)) from zEt fun h=>(by unfold zBu;simp [h])) with ⟨h5,G⟩ | ⟨h5,Hh5⟩
    rotate_left
    rcases (show (decide ((5:Int)<(n:Int)+2)=false∧Bx (zBu n s=true))∨(decide ((5:Int)<(n:Int)+2)=true∧Bx (¬n≤3)) from few_n fun h=>(by unfold zBu;simp [h,Ht1.out,Ht2.out,h3,h4,h5])) with ⟨t6,G⟩ | ⟨t6,Ht6⟩
    rotate_left
    have hvo:=Bx.mk fun W' (_:Below wr.heap.size wr W')=>zCe s.b.lo.x s.b.lo.y s.b.lo.z s.b.hi.x s.b.hi.y s.b.hi.z (zLA h4 h5) W';rw [show (⟨⟨s.b.lo.x,s.b.lo.y,s.b.lo.z⟩,⟨s.b.hi.x,s.b.hi.y,s.b.hi.z⟩⟩:Box)=s.b from rfl] at hvo;rcases (show (decide ((4000:Int)<zU s.b)=false∧Bx (zBu n s=true))∨(decide ((4000:Int)<zU s.b)=true∧Bx (¬zU s.b≤4000)) from zN3 fun h=>(by unfold zBu;simp [h,Ht1.out,Ht2.out,h3,h4,h5])) with ⟨t7,G⟩ | ⟨t7,Ht7⟩
    rotate_left
    rcases (show (zHc n s.b=true∧Bx (zBu n s=true))∨(zHc n s.b=false∧Bx (zBu n s=false)) from zL1 (fun h=>(by unfold zBu;simp [h,Ht1.out,Ht2.out,h3,h4,h5])) (fun h=>(by unfold zBu;simp [h,Ht6.out,Ht7.out]))) with ⟨h8,G⟩ | ⟨h8,Hh8⟩
    all_goals
     go_wp2_with (first | (go_at_call 15;(with_reducible refine (hva.out _ HB.out).mono ?_);clear hva;rintro _ w3 ⟨rfl,hb3⟩;have KS3:=Bx.mk (KS.out.later hb3);have HB3:=Bx.mk (HB.out.trans (hb3.mono HB.out.size));clear q1 q2 q3 q4 q5 q6 q8 q9 q10 q11 q12 q13 q14 q15;clear KS HB hb3;have KS:=KS3;have HB:=HB3;clear KS3 HB3;have q1:=KS.out.cell 1 rfl;have q2:=KS.out.cell 2 rfl;have q3:=KS.out.cell 3 rfl;have q4:=KS.out.cell 4 rfl;have q5:=KS.out.cell 5 rfl;have q6:=KS.out.cell 6 rfl;have q8:=KS.out.cell 8 rfl;have q9:=KS.out.cell 9 rfl;have q10:=KS.out.cell 10 rfl;have q11:=KS.out.cell 11 rfl;have q12:=KS.out.cell 12 rfl;have q13:=KS.out.cell 13 rfl;have q14:=KS.out.cell 14 rfl;have q15:=KS.out.cell 15 rfl) | (go_at_call 16;(with_reducible refine (hlo.out _ HB.out).mono ?_);clear hlo;rintro _ w3 ⟨rfl,hb3⟩;have KS3:=Bx.mk (KS.out.later hb3);have HB3:=Bx.mk (HB.out.trans (hb3.mono HB.out.size));clear q1 q2 q3 q4 q5 q6 q8 q9 q10 q11 q12 q13 q14 q15;clear KS HB hb3;have KS:=KS3;have HB:=HB3;clear KS3 HB3;have q1:=KS.out.cell 1 rfl;have q2:=KS.out.cell 2 rfl;have q3:=KS.out.cell 3 rfl;have q4:=KS.out.cell 4 rfl;have q5:=KS.out.cell 5 rfl;have q6:=KS.out.cell 6 rfl;have q8:=KS.out.cell 8 rfl;have q9:=KS.out.cell 9 rfl;have q10:=KS.out.cell 10 rfl;have q11:=KS.out.cell 11 rfl;have q12:=KS.out.cell 12 rfl;have q13:=KS.out.cell 13 rfl;have q14:=KS.out.cell 14 rfl;have q15:=KS.out.cell 15 rfl) | (go_at_call 16;(with_reducible refine (hhi.out _ HB.out).mono ?_);clear hhi;rintro _ w3 ⟨rfl,hb3⟩;have KS3:=Bx.mk (KS.out.later hb3);have HB3:=Bx.mk (HB.out.trans (hb3.mono HB.out.size));clear q1 q2 q3 q4 q5 q6 q8 q9 q10 q11 q12 q13 q14 q15;clear KS HB hb3;have KS:=KS3;have HB:=HB3;clear KS3 HB3;have q1:=KS.out.cell 1 rfl;have q2:=KS.out.cell 2 rfl;have q3:=KS.out.cell 3 rfl;have q4:=KS.out.cell 4 rfl;have q5:=KS.out.cell 5 rfl;have q6:=KS.out.cell 6 rfl;have q8:=KS.out.cell 8 rfl;have q9:=KS.out.cell 9 rfl;have q10:=KS.out.cell 10 rfl;have q11:=KS.out.cell 11 rfl;have q12:=KS.out.cell 12 rfl;have q13:=KS.out.cell 13 rfl;have q14:=KS.out.cell 14 rfl;have q15:=KS.out.cell 15 rfl) | (go_at_call 17;(with_reducible refine (hvo.out _ HB.out).mono ?_);clear hvo;rintro _ w3 ⟨rfl,hb3⟩;have KS3:=Bx.mk (KS.out.later hb3);have HB3:=Bx.mk (HB.out.trans (hb3.mono HB.out.size));clear q1 q2 q3 q4 q5 q6 q8 q9 q10 q11 q12 q13 q14 q15;clear KS HB hb3;have KS:=KS3;have HB:=HB3;clear KS3 HB3;have q1:=KS.out.cell 1 rfl;have q2:=KS.out.cell 2 rfl;have q3:=KS.out.cell 3 rfl;have q4:=KS.out.cell 4 rfl;have q5:=KS.out.cell 5 rfl;have q6:=KS.out.cell 6 rfl;have q8:=KS.out.cell 8 rfl;have q9:=KS.out.cell 9 rfl;have q10:=KS.out.cell 10 rfl;have q11:=KS.out.cell 11 rfl;have q12:=KS.out.cell 12 rfl;have q13:=KS.out.cell 13 rfl;have q14:=KS.out.cell 14 rfl;have q15:=KS.out.cell 15 rfl) | (go_at_call 18;(with_reducible refine (hwi.out _ HB.out).mono ?_);clear hwi;rintro _ w3 ⟨rfl,hb3⟩;have KS3:=Bx.mk (KS.out.later hb3);have HB3:=Bx.mk (HB.out.trans (hb3.mono HB.out.size));clear q1 q2 q3 q4 q5 q6 q8 q9 q10 q11 q12 q13 q14 q15;clear KS HB hb3;have KS:=KS3;have HB:=HB3;clear KS3 HB3;have q1:=KS.out.cell 1 rfl;have q2:=KS.out.cell 2 rfl;have q3:=KS.out.cell 3 rfl;have q4:=KS.out.cell 4 rfl;have q5:=KS.out.cell 5 rfl;have q6:=KS.out.cell 6 rfl;have q8:=KS.out.cell 8 rfl;have q9:=KS.out.cell 9 rfl;have q10:=KS.out.cell 10 rfl;have q11:=KS.out.cell 11 rfl;have q12:=KS.out.cell 12 rfl;have q13:=KS.out.cell 13 rfl;have q14:=KS.out.cell 14 rfl;have q15:=KS.out.cell 15 rfl))
     first
      | (have HJ : Bx (Below w.heap.size w _ ∧ (L.take (k + 1)).all (zBu n) = true) := ⟨HI.out.1.trans (HB.out.mono HI.out.1.size), hstep.out (by first | exact G.out | exact Hh8.out)⟩
         go_roundw
         case rel=>exact ⟨k+1,by omega,by go_num,HJ⟩
         case measure=>simp [intOf];omega)
      | (go_ret;exact ⟨by rw [hbad.out (by first | exact G.out | exact Hh8.out)];rfl,HI.out.1.trans (HB.out.mono HI.out.1.size)⟩)
  · obtain rfl:k=m:=by omega
    have t0:decide ((k:Int)<(k:Int))=false:=by simp
    have he:Bx (L.all (zBu n)=true):=⟨by
     have h:=HI.out.2;rwa [List.take_of_length_le (by have:=HM.out;omega)] at h⟩
    go_wp2_with fail;go_ret;exact ⟨by rw [he.out];rfl,HI.out.1⟩
theorem zL2 (a b c d e f dd:Int) (ha:Option Addr) (hcp:Nat) (xs:List Int) (la:Option Addr) (m lc:Nat) (h : ¬(xs.length≤300∧m≤8∧zA9 ⟨⟨a,b,c⟩,⟨d,e,f⟩⟩ xs dd=0)) (w:World) (hsl:Sl w .i64 ha xs) :
 Calls Tryz.prog 4 #[.agg #[a,b,c,d,e,f,.slice ha xs.length hcp],dd,.slice la m lc] w fun e' w'=>e' = .returned (.bool false)∧Below w.heap.size w w':=by
 by_cases hl:xs.length≤300
 rotate_left
 · have t1:decide ((300:Int)<(xs.length:Int))=true:=by simp;omega
   generalize xs.length=xl at *;clear h hl hsl;go_enter Tryz.func4,Tryz.ntmps4;go_wp2_with fail;go_ret;exact ⟨rfl,(Below.refl _ _).alloc (Nat.le_refl _) _⟩
 have t1:decide ((300:Int)<(xs.length:Int))=false:=by simp;omega
 by_cases hm:m≤8
 rotate_left
 · have t2:decide ((8:Int)<(m:Int))=true:=by simp;omega
   generalize xs.length=xl at *;clear h hl hsl hm;go_enter Tryz.func4,Tryz.ntmps4;go_wp2_with fail;go_ret;exact ⟨rfl,(Below.refl _ _).alloc (Nat.le_refl _) _⟩
 have t2:decide ((8:Int)<(m:Int))=false:=by simp;omega
 have hE:zA9 ⟨⟨a,b,c⟩,⟨d,e,f⟩⟩ xs dd ≠ 0:=fun he=>h ⟨hl,hm,he⟩;have hch:=Bx.mk fun W h=>zCf a b c d e f ha hcp xs hl dd W h;have t3:(zA9 ⟨⟨a,b,c⟩,⟨d,e,f⟩⟩ xs dd != 0)=true:=bne_iff_ne.2 hE;generalize zA9 ⟨⟨a,b,c⟩,⟨d,e,f⟩⟩ xs dd=r at *;have Hsl:=Bx.mk hsl;generalize xs.length=xl at *;clear h hl hsl hm hE;go_enter Tryz.func4,Tryz.ntmps4;go_upto_region 1 with fail;generalize hW:World.alloc w _=W;have hB:=bl1 hW;have kg:Bk W w.heap.size #[a,b,c,d,e,f,.slice ha xl hcp] 28:=bk0 hW;clear hW;obtain ⟨c0,c1,c2,c3,c4,c5,c6⟩:=kg.c7;have HC:=Bx.mk (hch.out W (Hsl.out.below hB));have HB0:=Bx.mk hB;clear kg hB hch;go_wp2_with fail;refine HC.out.mono ?_;rintro _ w2 ⟨rfl,hb2⟩;have HB2:=Bx.mk (HB0.out.trans (hb2.mono HB0.out.size));clear hb2 HB0 HC c0 c1 c2 c3 c4 c5 c6;go_wp2_with fail;go_ret;exact ⟨rfl,HB2.out⟩
theorem Done.before {Far:Nat→Prop} {sb:Nat} {most:Int} {ts ts':List Tr} {t:Tr} {w W W':World} {e:Ending} (hb:Below w.heap.size w W) (h:Done Far sb most ts ts' t W e W'):Done Far sb most ts ts' t w e W' :=
 ⟨(Keeps.below hb).trans h.keeps,Nat.le_trans hb.size h.size,h.way⟩
end
section
open Go.RowKit Go.Sort Go.Maps
def sg0 (x:Int):Int:=bits .xor .u32 (bits .xor .u32 (rot x 7) (rot x 18)) (x / 2 ^ 3)
def sg1 (x:Int):Int:=bits .xor .u32 (bits .xor .u32 (rot x 17) (rot x 19)) (x / 2 ^ 10)
def be (bs:List Int) (t:Nat):Nat→Int
 | 0=>0
 | j+1=>be bs t j * 256+bs.getD (4 * t+j) 0
def nxt (l:List Int):Int:=(l.getD (l.length - 16) 0+sg0 (l.getD (l.length - 15) 0)+l.getD (l.length - 7) 0+sg1 (l.getD (l.length - 2) 0)) % 4294967296
def sch (bs:List Int):Nat→List Int
 | 0=>[]
 | n+1=>sch bs n++[if n<16 then be bs n 4 else nxt (sch bs n)]
theorem zAo (bs:List Int) : ∀ n,(sch bs n).length=n
 | 0=>rfl
 | n+1=>by unfold sch;rw [List.length_append,zAo bs n];rfl
theorem be_bd {bs:List Int} (hb : ∀ x∈bs,0≤x∧x≤255) (t:Nat) : ∀ j,0≤be bs t j∧be bs t j<256 ^ j
 | 0=>by unfold be;decide
 | j + 1 => by
   have h:=be_bd hb t j
   have hx:0≤bs.getD (4 * t+j) 0∧bs.getD (4 * t+j) 0≤255:=by
    rw [List.getD_eq_getElem?_getD];cases h1:bs[4 * t+j]? with
    | none=>exact ⟨Int.le_refl 0,by decide⟩
    | some x=>exact hb x (List.mem_of_getElem? h1)
   unfold be;rw [Int.pow_succ];generalize (256:Int) ^ j=p at *;omega
theorem zNW {x y:Int} (hx:0≤x∧x<16777216) (hy:0≤y∧y≤255):bits .or .u32 (x * 256) y=x * 256+y :=
 bits_join .u32 32 (by decide) wraps_u32 8 _ _ (by omega) (by have:(2:Int) ^ 8=256:=(by decide);omega) (by have:(2:Int) ^ 32=4294967296:=(by decide);omega) (by omega) (by have:(2:Int) ^ 8=256:=(by decide);omega) (by have:(2:Int) ^ 32=4294967296:=(by decide);omega)
theorem zJH (bs:List Int) (t:Nat) (x y:Int) (r:List Int):(sch bs t++x::r).set t y=sch bs t++y::r:=by
 rw [List.set_append_right _ _ (by rw [zAo];omega),zAo,Nat.sub_self,List.set_cons_zero]
theorem zFL (bs:List Int) (t:Nat) (x:Int) (r:List Int):(sch bs t++x::r)[t]? = some x:=by
 rw [List.getElem?_append_right (by rw [zAo];omega),zAo,Nat.sub_self];rfl
theorem zCC (bs:List Int) (t i:Nat) (hi:i<t) (r:List Int):(sch bs t++r)[i]? = some ((sch bs t).getD i 0):=by
 rw [List.getElem?_append_left (by rw [zAo];exact hi),List.getD_eq_getElem?_getD,List.getElem?_eq_getElem (by rw [zAo];exact hi)];rfl
theorem zLM {t:Nat} (h:t<64):List.replicate (64 - t) (0:Int)=0::List.replicate (63 - t) 0:=by
 rw [show 64 - t=(63 - t)+1 by omega,List.replicate_succ]
structure SchI (w:World) (bs:List Int) (t:Nat) (r:List Int) (wr:World):Prop where
 bel:Below w.heap.size w wr
 kr:Bl wr w.heap.size .u32 (List.replicate 64 0) 184
 kw:Bl wr (w.heap.size+1) .u32 (sch bs t++r) 184
theorem SchI.put {w wr:World} {bs:List Int} {t:Nat} {x:Int} {r:List Int} (h:SchI w bs t (x::r) wr) (y:Int):SchI w bs t (y::r) (wr.setCell ⟨w.heap.size+1,t,none⟩ (.int .u32 y)):=by
 refine ⟨h.bel.setCell (by simp) _,h.kr.other _ _ (by simp),?_⟩
 have:=h.kw.put t y;rwa [zJH] at this
theorem SchI.later {w wr w':World} {bs:List Int} {t:Nat} {r:List Int} (h:SchI w bs t r wr) (hb:Below wr.heap.size wr w'):SchI w bs t r w':=⟨h.bel.trans (hb.mono h.bel.size),h.kr.later hb,h.kw.later hb⟩
theorem SchI.next {w wr:World} {bs:List Int} {t:Nat} {x:Int} {r:List Int} (h:SchI w bs t (x::r) wr) (hx:x=if t<16 then be bs t 4 else nxt (sch bs t)):SchI w bs (t+1) r wr:=by
 refine ⟨h.bel,h.kr,?_⟩
 have e:sch bs (t+1)++r=sch bs t++x::r:=by
  rw [hx,sch,List.append_assoc];rfl
 rw [e];exact h.kw
theorem zJI (a:Option Addr) (cap:Nat) (bs:List Int) (hn:bs.length=64) (hcap:64≤cap) (hb : ∀ x∈bs,0≤x∧x≤255) (w:World) (hs:Sl w .u8 a bs) :
 Calls Tryz.prog 157 #[.slice a 64 cap] w fun e w'=>e = .returned (zDr .u32 (sch bs 64))∧Below w.heap.size w w':=by
 have Hs:=Bx.mk hs;have Hb:=Bx.mk hb;have Hn:=Bx.mk hn;obtain ⟨x0,hx0⟩ : ∃ x,bs[0]? = some x:=⟨_,List.getElem?_eq_getElem (by omega)⟩
 obtain ⟨pb,po,rfl,-⟩:=hs 0 x0 hx0;clear hs hb hn hx0;go_enter Tryz.func157,Tryz.ntmps157;go_wp2_with fail;generalize hW:World.alloc (World.alloc w _) _=W;have HI:Bx (SchI w bs 0 (List.replicate (64 - 0) 0) W):=⟨by rw [←hW];exact ((Below.refl _ _).alloc (Nat.le_refl _) _).alloc (by simp) _,by rw [←hW];exact zB (zI _ _ _ (by simp)),by rw [←hW];exact zI _ _ _ (by simp)⟩
 clear hW
 go_loopw [11] (fun v11 wr => ∃ t:Nat,t≤64∧v11 = .int .i64 t∧Bx (SchI w bs t (List.replicate (64 - t) 0) wr)) (fun i _=>64 - (intOf i).toNat)
 case atStart=>exact ⟨0,Nat.zero_le _,rfl,HI⟩
 case round =>
  clear HI;obtain ⟨t,ht,rfl,HI⟩:=hrel;by_cases hlt:t<64
  · have t0:decide ((t:Int)<64)=true:=by simp;omega
    rw [zLM hlt] at HI;generalize hr:List.replicate (63 - t) (0:Int)=r at *;have hr:=Bx.mk hr;by_cases h16:t<16
    · have t1:decide ((t:Int)<16)=true:=by simp;omega
      have h4:4 * t+4 - 4 * t=4:=by omega
      go_wp2_with fail;have HJ:Bx (SchI w bs t (be bs t 0::r) wr):=HI
      go_loopw [24] (fun v24 wj => ∃ j:Nat,j≤4∧v24 = .int .i64 j∧Bx (SchI w bs t (be bs t j::r) wj)) (fun i _=>4 - (intOf i).toNat)
      case atStart=>exact ⟨0,Nat.zero_le _,rfl,HJ⟩
      case round =>
       clear HI HJ;obtain ⟨j,hj,rfl,HJ⟩:=hrel;by_cases hlt4:j<4
       · have t2:decide ((j:Int)<4)=true:=by simp;omega
         have b1:(0:Int)≤(j:Int):=by omega
         have b2:(j:Int)<4:=by omega
         have b3:(0:Int)≤(t:Int):=by omega
         have b4:(t:Int)<64:=by omega
         obtain ⟨x,hx⟩ : ∃ x,bs[4 * t+j]? = some x:=⟨_,List.getElem?_eq_getElem (by have:=Hn.out;omega)⟩
         obtain ⟨pb',po',he,hck⟩:=(Hs.out.below HJ.out.bel) (4 * t+j) x hx;simp only [Option.some.injEq,Addr.mk.injEq,and_true] at he;obtain ⟨rfl,rfl⟩:=he;rw [←Nat.add_assoc] at hck;have hxb:=Hb.out x (List.mem_of_getElem? hx);have hbd:=be_bd Hb.out t j
         have hbd2:be bs t j<16777216:=Int.lt_of_lt_of_le hbd.2 (by
          rcases (show j=0∨j=1∨j=2∨j=3 by omega) with rfl | rfl | rfl | rfl <;> decide)
         have e0:be bs t (j+1)=be bs t j * 256+x:=by
          rw [be,List.getD_eq_getElem?_getD,hx];rfl
         have e2:bits .or .u32 (be bs t j * 256) x=be bs t (j+1):=by rw [e0];exact zNW ⟨hbd.1,hbd2⟩ hxb
         have e1:be bs t j * 256 % 4294967296=be bs t j * 256:=by omega
         have cw:=HJ.out.kw.cell (zFL bs t (be bs t j) r);have fw:=HJ.out.kw.frozen t;have HJ2:=Bx.mk (HJ.out.put (be bs t (j+1)));clear HJ e0 hbd hbd2 hx;generalize hy:be bs t (j+1)=y' at *;have hy:=Bx.mk hy;generalize be bs t j=y at *;go_wp2_with fail
         go_roundw
         case rel=>exact ⟨j+1,by omega,by go_num,by rw [hy.out];exact HJ2⟩
         case measure=>simp [intOf];omega
       · obtain rfl:j=4:=by omega
         have t2:decide (((4:Nat):Int)<4)=false:=by decide
         have HI2:=Bx.mk (HJ.out.next (by rw [if_pos h16]))
         clear HJ;go_wp2_with fail
         go_roundw
         case rel=>exact ⟨t+1,by omega,by go_num,by rw [show 64 - (t+1)=63 - t by omega,hr.out];exact HI2⟩
         case measure=>simp [intOf];omega
    · have t1:decide ((t:Int)<16)=false:=by simp;omega
      have n1:(t:Int) - 15=((t - 15:Nat):Int):=by omega
      have n2:(t:Int) - 2=((t - 2:Nat):Int):=by omega
      have n3:(t:Int) - 16=((t - 16:Nat):Int):=by omega
      have n4:(t:Int) - 7=((t - 7:Nat):Int):=by omega
      have l1:((t - 15:Nat):Int)<64:=by omega
      have l2:((t - 2:Nat):Int)<64:=by omega
      have l3:((t - 16:Nat):Int)<64:=by omega
      have l4:((t - 7:Nat):Int)<64:=by omega
      have l5:(t:Int)<64:=by omega
      have hnx:Bx (nxt (sch bs t)=((sch bs t).getD (t - 16) 0+sg0 ((sch bs t).getD (t - 15) 0)+(sch bs t).getD (t - 7) 0+sg1 ((sch bs t).getD (t - 2) 0)) % 4294967296):=⟨by unfold nxt;rw [zAo]⟩
      have k1:=HI.out.kw.cell (zCC bs t (t - 15) (by omega) (0::r))
      have k2:=HI.out.kw.cell (zCC bs t (t - 2) (by omega) (0::r))
      have k3:=HI.out.kw.cell (zCC bs t (t - 16) (by omega) (0::r))
      have k4:=HI.out.kw.cell (zCC bs t (t - 7) (by omega) (0::r))
      have k1:=Bx.mk k1;have k2:=Bx.mk k2;have k3:=Bx.mk k3;have k4:=Bx.mk k4;generalize (sch bs t).getD (t - 15) 0=x1 at *;generalize (sch bs t).getD (t - 2) 0=x2 at *;generalize (sch bs t).getD (t - 16) 0=x3 at *;generalize (sch bs t).getD (t - 7) 0=x4 at *;go_wp2_with fail;have c1 : ∀ dk osk,(grow (redrawn wr dk) osk).cell? ⟨w.heap.size+1,t - 15,none⟩=some (.int .u32 x1):=cell_regrown k1.out;have c2 : ∀ dk osk,(grow (redrawn wr dk) osk).cell? ⟨w.heap.size+1,t - 2,none⟩=some (.int .u32 x2):=cell_regrown k2.out;refine wp_region_quiet_below (by kernel_rfl) (by kernel_rfl) ?_
      repeat (first | go_big_quiet_step (fail) | quiet_step (fail))
      refine wpQuiet_nil ?_;rintro _ ⟨⟨dq,osq⟩,rfl⟩;have hb0:=below_regrown wr dq osq;have HI2:=Bx.mk (HI.out.later hb0);replace k3:=Bx.mk (cell_later hb0 k3.out);replace k4:=Bx.mk (cell_later hb0 k4.out);clear c1 c2 HI hb0 k1 k2;generalize grow (redrawn wr dq) osq=w1 at *;go_wp2_with fail;have hx:Bx (bits .xor .u32 (bits .xor .u32 (rot x1 7) (rot x1 18)) (x1 / 8)=sg0 x1):=⟨rfl⟩;have hy:Bx (bits .xor .u32 (bits .xor .u32 (rot x2 17) (rot x2 19)) (x2 / 1024)=sg1 x2):=⟨rfl⟩;have q1:=Bx.mk fun W=>zBF x1 7 (by decide) W
      have q2:=Bx.mk fun W=>zBF x1 18 (by decide) W
      have q3:=Bx.mk fun W=>zBF x2 17 (by decide) W
      have q4:=Bx.mk fun W=>zBF x2 19 (by decide) W
      generalize rot x1 7=a1 at *;generalize rot x1 18=a2 at *;generalize rot x2 17=a3 at *;generalize rot x2 19=a4 at *;generalize sg0 x1=s1 at *;generalize sg1 x2=s2 at *;refine (q1.out _).mono ?_;rintro _ _ ⟨rfl,rfl⟩;go_wp2_with fail;refine (q2.out _).mono ?_;rintro _ _ ⟨rfl,rfl⟩;go_wp2_with fail;refine (q3.out _).mono ?_;rintro _ _ ⟨rfl,rfl⟩;go_wp2_with fail;refine (q4.out _).mono ?_;rintro _ _ ⟨rfl,rfl⟩;have hx:=hx.out;have hy:=hy.out;go_wp2_with fail;have c3 : ∀ dk osk,(grow (redrawn w1 dk) osk).cell? ⟨w.heap.size+1,t - 16,none⟩=some (.int .u32 x3):=cell_regrown k3.out;have c4 : ∀ dk osk,(grow (redrawn w1 dk) osk).cell? ⟨w.heap.size+1,t - 7,none⟩=some (.int .u32 x4):=cell_regrown k4.out;refine zA 15 (by kernel_rfl) (by kernel_rfl) ?_
      simp only [List.take_succ_cons,List.take_zero,List.drop_succ_cons,List.drop_zero]
      repeat (first | go_big_quiet_step (fail) | quiet_step (fail))
      refine wpQuiet_nil ?_;rintro _ ⟨⟨dq,osq⟩,rfl⟩;have HI3:=Bx.mk (HI2.out.later (below_regrown w1 dq osq));clear c3 c4 HI2 k3 k4;generalize grow (redrawn w1 dq) osq=w2 at *;have cw:=HI3.out.kw.cell (zFL bs t 0 r);have fw:=HI3.out.kw.frozen t;have HI4:=Bx.mk ((HI3.out.put (nxt (sch bs t))).next (by rw [if_neg h16]))
      rw [hnx.out] at HI4;clear HI3 hnx;go_wp2_with fail
      go_roundw
      case rel=>exact ⟨t+1,by omega,by go_num,by rw [show 64 - (t+1)=63 - t by omega,hr.out];exact HI4⟩
      case measure=>simp [intOf];omega
  · have t0:decide ((t:Int)<64)=false:=by simp;omega
    obtain rfl:t=64:=by omega
    rw [Nat.sub_self,List.replicate_zero] at HI;have hsz:(((sch bs 64++[]).map (Value.int .u32)).toArray).size=64:=by rw [List.append_nil,List.size_toArray,List.length_map,zAo]
    have hs2:(((List.replicate 64 (0:Int)).map (Value.int .u32)).toArray).size=(((sch bs 64++[]).map (Value.int .u32)).toArray).size:=by rw [hsz];rfl
    have H1:=Bx.mk (show ∀ cs:Array Value,cs.size=64→(Tryz.prog.info? 184).map (·.size)=some cs.size from fun cs h=>by rw [h];kernel_rfl)
    have hkw:=Bx.mk HI.out.kw;have hkr:=Bx.mk HI.out.kr;have hsz:=Bx.mk hsz;have hs2:=Bx.mk hs2;go_upto_region 16 with fail
    go_wp2_with (first
     | refine zh rfl _ _ rfl (w.heap.size+1) rfl _ _ hkw.out _ Tryz.underlying184 rfl (H1.out _ hsz.out) ?_
     | refine zE rfl _ _ _ rfl w.heap.size rfl _ _ rfl _ hkr.out (H1.out _ hsz.out) hs2.out (zAR _ _) ?_)
    refine bodyPost_ret (v:=zDr .u32 (sch bs 64++[])) (results_cell_row rfl _ _ w.heap.size 184 _ (0,0) _ rfl (hkr.out.whole _) Tryz.underlying184 rfl (H1.out _ hsz.out)) rfl ⟨by rw [List.append_nil],below_setRow HI.out.bel (Nat.le_refl _) _⟩
end
section
open Go.RowKit
theorem idx64 (xs:List Int) (k:Nat) (x:Int) (hk:k<64) (hx:xs[k]? = some x) (W:World):(Instr.index 184 (.agg (xs.map (Value.int .u32)).toArray) (.int .i64 (k:Int))).run Tryz.prog W = .ok (.int .u32 x) W:=by
 have hu:=Tryz.underlying184;have h1 : Tryz.prog.cellsOf 145=1:=by kernel_rfl
 have hc:((xs.map (Value.int .u32)).toArray)[k]? = some (.int .u32 x):=by rw [List.getElem?_toArray,List.getElem?_map,hx];rfl
 have h0:(0:Int)≤(k:Int)∧(k:Int)<64:=by omega
 generalize (xs.map (Value.int .u32)).toArray=cs at *;simp [Instr.index,run_underlying hu,asIntOf,h0,go_sem];rw [if_pos hk,hc];rfl
end
end Go.Proofs.YtfcbajmjaifjlaaGreatDoor
