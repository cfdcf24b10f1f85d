/- Few2, Few3, Stf, Stg, Stc, Std, Ste, Stn: joined by program, for one claim. -/
import Derived.Test.YtfcbajmjaifjlaaGreatM47
import Derived.Deep.MidRow
import Derived.Deep.WholeRow
import Derived.Test.YtfcbajmjaifjlaaGreatM19
set_option linter.unusedVariables false
set_option linter.unusedSimpArgs false
namespace Go.Proofs.YtfcbajmjaifjlaaGreat
section
open Go.RowKit Go.Sort Go.Maps
open Oct
structure Stp where
 kd:Int
 b:Box
 cell:Int
 g:Box
 ga:Option Addr
 ys:List Int
 gc:Nat
 la:Option Addr
 cs:List Chg
 lc:Nat
 c:Pt
 cl:Int
 d:Pt
 dl:Int
abbrev Stp.arr (s:Stp):Array Value:=#[s.kd,s.b.lo.x,s.b.lo.y,s.b.lo.z,s.b.hi.x,s.b.hi.y,s.b.hi.z,s.cell,s.g.lo.x,s.g.lo.y,s.g.lo.z,s.g.hi.x,s.g.hi.y,s.g.hi.z,.slice s.ga s.ys.length s.gc,.slice s.la s.cs.length s.lc,s.c.x,s.c.y,s.c.z,s.cl,s.d.x,s.d.y,s.d.z,s.dl]
structure StpOk (w:World) (s:Stp):Prop where
 ys:Sl w .i64 s.ga s.ys
 yc:s.ys.length≤s.gc
 cs:SlC w s.la s.cs
 cc:s.cs.length≤s.lc
theorem StpOk.below {w w':World} {s:Stp} (h:StpOk w s) (hb:Below w.heap.size w w'):StpOk w' s:=⟨h.ys.below hb,h.yc,h.cs.below hb,h.cc⟩
def SlS (w:World) (a:Option Addr) (L:List Stp):Prop := ∀ (i:Nat) (s:Stp),L[i]? = some s → ∃ b off,a=some ⟨b,off,none⟩∧(∀ j v,s.arr[j]? = some v→w.cell? ⟨b,off+i * 24+j,none⟩=some v)∧StpOk w s
theorem SlS.below {w w':World} {a:Option Addr} {L:List Stp} (h:SlS w a L) (hb:Below w.heap.size w w'):SlS w' a L:=by
 intro i s hs
 obtain ⟨b,off,rfl,hc,ho⟩:=h i s hs
 exact ⟨b,off,rfl,fun j v hj=>cell_later hb (hc j v hj),ho.below hb⟩
def fewS (n:Nat) (s:Stp):Bool:=decide (s.ys.length≤300) && (decide (s.cs.length≤20) && (validG s.g s.ys && (okP s.b.lo && (okP s.b.hi && (decide (n≤3) || (decide (volB s.b≤4000) || wideP n s.b))))))
theorem all_take {n k:Nat} {L:List Stp} {s:Stp} (hs:L[k]? = some s) (h:(L.take k).all (fewS n)=true) (h':fewS n s=true):(L.take (k+1)).all (fewS n)=true:=by
 have hj:=List.getElem?_eq_some_iff.1 hs
 rw [List.take_succ_eq_append_getElem hj.1,hj.2,List.all_append,h]
 simp [h']
theorem all_bad {n k:Nat} {L:List Stp} {s:Stp} (hs:L[k]? = some s) (h':fewS n s=false):L.all (fewS n)=false:=by
 rw [List.all_eq_false]
 exact ⟨s,List.mem_of_getElem? hs,by simp [h']⟩
theorem small_ok {b:Box} (h1:okP b.lo=true) (h2:okP b.hi=true):Small b 1048575:=by
 rw [okP_iff] at h1 h2
 exact ⟨by omega,by omega,by omega,by omega,by omega,by omega⟩
theorem few_two {a b:Nat} {F:Prop} (h : ¬b≤a→F):(decide ((a:Int)<(b:Int))=true∧Bx F)∨(decide ((a:Int)<(b:Int))=false∧Bx (b≤a)):=by
 by_cases h1:b≤a
 · exact .inr ⟨by simp;omega,⟨h1⟩⟩
 · exact .inl ⟨by simp;omega,⟨h h1⟩⟩
theorem few_bool {b:Bool} {F:Prop} (h:b=false→F):(b=false∧Bx F)∨(b=true∧Bx (b=true)):=by
 cases b with
 | false=>exact .inl ⟨rfl,⟨h rfl⟩⟩
 | true=>exact .inr ⟨rfl,⟨rfl⟩⟩
theorem few_n {n:Nat} {F:Prop} (h:n≤3→F):(decide ((5:Int)<(n:Int)+2)=false∧Bx F)∨(decide ((5:Int)<(n:Int)+2)=true∧Bx (¬n≤3)):=by
 by_cases h1:n≤3
 · exact .inl ⟨by simp;omega,⟨h h1⟩⟩
 · exact .inr ⟨by simp;omega,⟨h1⟩⟩
theorem few_vol {v:Int} {F:Prop} (h:v≤4000→F):(decide ((4000:Int)<v)=false∧Bx F)∨(decide ((4000:Int)<v)=true∧Bx (¬v≤4000)):=by
 by_cases h1:v≤4000
 · exact .inl ⟨by simp;omega,⟨h h1⟩⟩
 · exact .inr ⟨by simp;omega,⟨h1⟩⟩
theorem few_wide {b:Bool} {F G:Prop} (h:b=true→F) (h':b=false→G):(b=true∧Bx F)∨(b=false∧Bx G):=by
 cases b with
 | true=>exact .inl ⟨rfl,⟨h rfl⟩⟩
 | false=>exact .inr ⟨rfl,⟨h' rfl⟩⟩
set_option maxRecDepth 100000 in
set_option maxHeartbeats 4000000 in
theorem few10_yes (a b c d e f:Int) (ha:Option Addr) (hcp:Nat) (xs:List Int) (hl:xs.length≤300) (n:Nat) (hn:n≤12) (hE:fromE ⟨⟨a,b,c⟩,⟨d,e,f⟩⟩ xs ((n:Int)+2)=0) (la:Option Addr) (lc:Nat) (L:List Stp) (hL:L.length≤8) (w:World) (hsl:Sl w .i64 ha xs) (hS:SlS w la L) :
 Calls Tryz.prog 9 #[.agg #[a,b,c,d,e,f,.slice ha xs.length hcp],.int .i64 ((n:Int)+2),.slice la L.length lc] w fun e' w'=>e' = .returned (.bool (L.all (fewS n)))∧Below w.heap.size w w':=by
 have hch:=Bx.mk fun W h=>ref9_check a b c d e f ha hcp xs hl ((n:Int)+2) W h
 rw [hE] at hch
 have hwide:=Bx.mk fun b0 b1 b2 b3 b4 b5 W=>wide_any n hn b0 b1 b2 b3 b4 b5 W
 have Hsl:=Bx.mk hsl
 have HS:=Bx.mk hS
 have t1:decide ((300:Int)<(xs.length:Int))=false:=by simp;omega
 have t2:decide ((8:Int)<(L.length:Int))=false:=by simp;omega
 generalize hm:L.length=m at *
 generalize xs.length=xl at *
 have HM:=Bx.mk hm
 clear hsl hS hE hm hl
 go_enter Tryz.func9,Tryz.ntmps9
 go_upto_region 1 with fail
 generalize hW:World.alloc w _=W
 have hB:=bl1 hW
 have kg:Bk W w.heap.size #[a,b,c,d,e,f,.slice ha xl hcp] 28:=bk0 hW
 clear hW
 obtain ⟨c0,c1,c2,c3,c4,c5,c6⟩:=kg.c7
 have HC:=Bx.mk (hch.out W (Hsl.out.below hB))
 have HB0:=Bx.mk hB
 clear kg hB hch
 go_wp2_with fail
 refine HC.out.mono ?_
 rintro _ w2 ⟨rfl,hb2⟩
 have HI:Bx (Below w.heap.size w w2∧(L.take 0).all (fewS n)=true):=⟨HB0.out.trans (hb2.mono HB0.out.size),rfl⟩
 clear hb2 HB0 HC c0 c1 c2 c3 c4 c5 c6 t1 t2
 go_wp2_with fail
 go_loopw [26] (fun v26 wr => ∃ k:Nat,k≤m∧v26 = .int .i64 k∧Bx (Below w.heap.size w wr∧(L.take k).all (fewS n)=true)) (fun i _=>m - (intOf i).toNat)
 case atStart=>exact ⟨0,Nat.zero_le _,rfl,HI⟩
 case round =>
  clear HI
  obtain ⟨k,hk,rfl,HI⟩:=hrel
  by_cases hlt:k<m
  · have t0:decide ((k:Int)<(m:Int))=true:=by simp;omega
    obtain ⟨s,hs⟩ : ∃ s,L[k]? = some s:=⟨_,List.getElem?_eq_getElem (by have:=HM.out;omega)⟩
    obtain ⟨bA,oA,rfl,hcell,hok⟩:=(HS.out.below HI.out.1) k s hs
    have z1:(0:Int)≤(k:Int):=by omega
    have z2:(k:Int)<(m:Int):=by omega
    obtain ⟨AL,hA⟩ : ∃ AL,AL=s.arr.toList:=⟨_,rfl⟩
    have hAs:AL.length=24:=by rw [hA];rfl
    have hA1:Bx (AL.toArray.all (·.oneCell')=true):=⟨by rw [hA];simp [Value.oneCell']⟩
    have hi24:Bx ((Tryz.prog.info? 41).map (·.size)=some AL.length):=⟨by rw [hAs];kernel_rfl⟩
    have hi25:Bx ((Tryz.prog.info? 41).map (·.size)=some AL.toArray.size):=⟨by rw [List.size_toArray,hAs];kernel_rfl⟩
    have HR:Bx (∀ W',Below wr.heap.size wr W'→W'.rangeAt bA (oA+k * 24) AL):=⟨fun W' hb j v hj=>cell_later hb (hcell j v (by rw [hA] at hj;simpa using hj))⟩
    have HA:=Bx.mk hA
    have HA24:=Bx.mk hAs
    clear hA hAs hcell
    have HOK:=Bx.mk hok
    have hstep:Bx (fewS n s=true→(L.take (k+1)).all (fewS n)=true):=⟨fun h=>all_take hs HI.out.2 h⟩
    have hbad:Bx (fewS n s=false→L.all (fewS n)=false):=⟨fun h=>all_bad hs h⟩
    clear hok hs
    go_upto_region 6 with (first
     | (refine wpList_load_mid rfl _ _ rfl bA (oA+k * 24) rfl AL _ (HR.out _ (Below.refl _ _)) Tryz.underlying41 rfl hi24.out ?_)
     | (refine wpList_store_whole rfl _ _ _ rfl wr.heap.size rfl _ AL.toArray rfl 41 (heap_alloc_new _ _) hi25.out (by rw [show AL.toArray.size=24 by simp [HA24.out]];rfl) hA1.out ?_))
    generalize hW:World.setRow (World.alloc wr _) _ _=W
    have hB:Below wr.heap.size wr W:=by rw [←hW];exact below_setRow ((Below.refl _ _).alloc (Nat.le_refl _) _) (Nat.le_refl _) _
    have KS:=Bx.mk (show Bk W wr.heap.size #[s.kd,s.b.lo.x,s.b.lo.y,s.b.lo.z,s.b.hi.x,s.b.hi.y,s.b.hi.z,s.cell,s.g.lo.x,s.g.lo.y,s.g.lo.z,s.g.hi.x,s.g.hi.y,s.g.hi.z,.slice s.ga s.ys.length s.gc,.slice s.la s.cs.length s.lc,s.c.x,s.c.y,s.c.z,s.cl,s.d.x,s.d.y,s.d.z,s.dl] 41 by rw [←hW,HA.out];exact setRow_heap _ _ _ _ _ (0,0) (heap_alloc_new _ _))
    have HB:=Bx.mk hB
    clear hW hA1 hi24 hi25 HR HA HA24
    have hlo0:=fun W' (_:Below wr.heap.size wr W')=>ref_ranged s.b.lo.x s.b.lo.y s.b.lo.z W'
    have hhi0:=fun W' (_:Below wr.heap.size wr W')=>ref_ranged s.b.hi.x s.b.hi.y s.b.hi.z W'
    have hwi0:=fun W' (_:Below wr.heap.size wr W')=>hwide.out s.b.lo.x s.b.lo.y s.b.lo.z s.b.hi.x s.b.hi.y s.b.hi.z W'
    rw [show (⟨s.b.lo.x,s.b.lo.y,s.b.lo.z⟩:Pt)=s.b.lo from rfl] at hlo0
    rw [show (⟨s.b.hi.x,s.b.hi.y,s.b.hi.z⟩:Pt)=s.b.hi from rfl] at hhi0
    rw [show (⟨⟨s.b.lo.x,s.b.lo.y,s.b.lo.z⟩,⟨s.b.hi.x,s.b.hi.y,s.b.hi.z⟩⟩:Box)=s.b from rfl] at hwi0
    have hlo:=Bx.mk hlo0
    have hhi:=Bx.mk hhi0
    have hwi:=Bx.mk hwi0
    clear hlo0 hhi0 hwi0
    have q1:=KS.out.cell 1 rfl
    have q2:=KS.out.cell 2 rfl
    have q3:=KS.out.cell 3 rfl
    have q4:=KS.out.cell 4 rfl
    have q5:=KS.out.cell 5 rfl
    have q6:=KS.out.cell 6 rfl
    have q8:=KS.out.cell 8 rfl
    have q9:=KS.out.cell 9 rfl
    have q10:=KS.out.cell 10 rfl
    have q11:=KS.out.cell 11 rfl
    have q12:=KS.out.cell 12 rfl
    have q13:=KS.out.cell 13 rfl
    have q14:=KS.out.cell 14 rfl
    have q15:=KS.out.cell 15 rfl
    rcases (show (decide ((300:Int)<(s.ys.length:Int))=true∧Bx (fewS n s=false))∨(decide ((300:Int)<(s.ys.length:Int))=false∧Bx (s.ys.length≤300)) from few_two fun h=>(by unfold fewS;simp [h])) with ⟨t1,G⟩ | ⟨t1,Ht1⟩
    rotate_left
    rcases (show (decide ((20:Int)<(s.cs.length:Int))=true∧Bx (fewS n s=false))∨(decide ((20:Int)<(s.cs.length:Int))=false∧Bx (s.cs.length≤20)) from few_two fun h=>(by unfold fewS;simp [h])) with ⟨t2,G⟩ | ⟨t2,Ht2⟩
    rotate_left
    have hva0:=fun W' (hb:Below wr.heap.size wr W')=>ref_valid s.g.lo.x s.g.lo.y s.g.lo.z s.g.hi.x s.g.hi.y s.g.hi.z s.ga s.gc s.ys Ht1.out W' (HOK.out.ys.below hb)
    rw [show (⟨⟨s.g.lo.x,s.g.lo.y,s.g.lo.z⟩,⟨s.g.hi.x,s.g.hi.y,s.g.hi.z⟩⟩:Box)=s.g from rfl] at hva0
    have hva:=Bx.mk hva0
    clear hva0
    rcases (show (validG s.g s.ys=false∧Bx (fewS n s=false))∨(validG s.g s.ys=true∧Bx (validG s.g s.ys=true)) from few_bool fun h=>(by unfold fewS;simp [h])) with ⟨h3,G⟩ | ⟨h3,Hh3⟩
    rotate_left
    rcases (show (okP s.b.lo=false∧Bx (fewS n s=false))∨(okP s.b.lo=true∧Bx (okP s.b.lo=true)) from few_bool fun h=>(by unfold fewS;simp [h])) with ⟨h4,G⟩ | ⟨h4,Hh4⟩
    rotate_left
    rcases (show (okP s.b.hi=false∧Bx (fewS n s=false))∨(okP s.b.hi=true∧Bx (okP s.b.hi=true)) from few_bool fun h=>(by unfold fewS;simp [h])) with ⟨h5,G⟩ | ⟨h5,Hh5⟩
    rotate_left
    rcases (show (decide ((5:Int)<(n:Int)+2)=false∧Bx (fewS n s=true))∨(decide ((5:Int)<(n:Int)+2)=true∧Bx (¬n≤3)) from few_n fun h=>(by unfold fewS;simp [h,Ht1.out,Ht2.out,h3,h4,h5])) with ⟨t6,G⟩ | ⟨t6,Ht6⟩
    rotate_left
    have hvo:=Bx.mk fun W' (_:Below wr.heap.size wr W')=>ref_vol s.b.lo.x s.b.lo.y s.b.lo.z s.b.hi.x s.b.hi.y s.b.hi.z (small_ok h4 h5) W'
    rw [show (⟨⟨s.b.lo.x,s.b.lo.y,s.b.lo.z⟩,⟨s.b.hi.x,s.b.hi.y,s.b.hi.z⟩⟩:Box)=s.b from rfl] at hvo
    rcases (show (decide ((4000:Int)<volB s.b)=false∧Bx (fewS n s=true))∨(decide ((4000:Int)<volB s.b)=true∧Bx (¬volB s.b≤4000)) from few_vol fun h=>(by unfold fewS;simp [h,Ht1.out,Ht2.out,h3,h4,h5])) with ⟨t7,G⟩ | ⟨t7,Ht7⟩
    rotate_left
    rcases (show (wideP n s.b=true∧Bx (fewS n s=true))∨(wideP n s.b=false∧Bx (fewS n s=false)) from few_wide (fun h=>(by unfold fewS;simp [h,Ht1.out,Ht2.out,h3,h4,h5])) (fun h=>(by unfold fewS;simp [h,Ht6.out,Ht7.out]))) with ⟨h8,G⟩ | ⟨h8,Hh8⟩
    all_goals
     go_wp2_with (first | (go_at_call 44;(with_reducible refine (hva.out _ HB.out).mono ?_);clear hva;rintro _ w3 ⟨rfl,hb3⟩;have KS3:=Bx.mk (KS.out.later hb3);have HB3:=Bx.mk (HB.out.trans (hb3.mono HB.out.size));clear q1 q2 q3 q4 q5 q6 q8 q9 q10 q11 q12 q13 q14 q15;clear KS HB hb3;have KS:=KS3;have HB:=HB3;clear KS3 HB3;have q1:=KS.out.cell 1 rfl;have q2:=KS.out.cell 2 rfl;have q3:=KS.out.cell 3 rfl;have q4:=KS.out.cell 4 rfl;have q5:=KS.out.cell 5 rfl;have q6:=KS.out.cell 6 rfl;have q8:=KS.out.cell 8 rfl;have q9:=KS.out.cell 9 rfl;have q10:=KS.out.cell 10 rfl;have q11:=KS.out.cell 11 rfl;have q12:=KS.out.cell 12 rfl;have q13:=KS.out.cell 13 rfl;have q14:=KS.out.cell 14 rfl;have q15:=KS.out.cell 15 rfl) | (go_at_call 17;(with_reducible refine (hlo.out _ HB.out).mono ?_);clear hlo;rintro _ w3 ⟨rfl,hb3⟩;have KS3:=Bx.mk (KS.out.later hb3);have HB3:=Bx.mk (HB.out.trans (hb3.mono HB.out.size));clear q1 q2 q3 q4 q5 q6 q8 q9 q10 q11 q12 q13 q14 q15;clear KS HB hb3;have KS:=KS3;have HB:=HB3;clear KS3 HB3;have q1:=KS.out.cell 1 rfl;have q2:=KS.out.cell 2 rfl;have q3:=KS.out.cell 3 rfl;have q4:=KS.out.cell 4 rfl;have q5:=KS.out.cell 5 rfl;have q6:=KS.out.cell 6 rfl;have q8:=KS.out.cell 8 rfl;have q9:=KS.out.cell 9 rfl;have q10:=KS.out.cell 10 rfl;have q11:=KS.out.cell 11 rfl;have q12:=KS.out.cell 12 rfl;have q13:=KS.out.cell 13 rfl;have q14:=KS.out.cell 14 rfl;have q15:=KS.out.cell 15 rfl) | (go_at_call 17;(with_reducible refine (hhi.out _ HB.out).mono ?_);clear hhi;rintro _ w3 ⟨rfl,hb3⟩;have KS3:=Bx.mk (KS.out.later hb3);have HB3:=Bx.mk (HB.out.trans (hb3.mono HB.out.size));clear q1 q2 q3 q4 q5 q6 q8 q9 q10 q11 q12 q13 q14 q15;clear KS HB hb3;have KS:=KS3;have HB:=HB3;clear KS3 HB3;have q1:=KS.out.cell 1 rfl;have q2:=KS.out.cell 2 rfl;have q3:=KS.out.cell 3 rfl;have q4:=KS.out.cell 4 rfl;have q5:=KS.out.cell 5 rfl;have q6:=KS.out.cell 6 rfl;have q8:=KS.out.cell 8 rfl;have q9:=KS.out.cell 9 rfl;have q10:=KS.out.cell 10 rfl;have q11:=KS.out.cell 11 rfl;have q12:=KS.out.cell 12 rfl;have q13:=KS.out.cell 13 rfl;have q14:=KS.out.cell 14 rfl;have q15:=KS.out.cell 15 rfl) | (go_at_call 45;(with_reducible refine (hvo.out _ HB.out).mono ?_);clear hvo;rintro _ w3 ⟨rfl,hb3⟩;have KS3:=Bx.mk (KS.out.later hb3);have HB3:=Bx.mk (HB.out.trans (hb3.mono HB.out.size));clear q1 q2 q3 q4 q5 q6 q8 q9 q10 q11 q12 q13 q14 q15;clear KS HB hb3;have KS:=KS3;have HB:=HB3;clear KS3 HB3;have q1:=KS.out.cell 1 rfl;have q2:=KS.out.cell 2 rfl;have q3:=KS.out.cell 3 rfl;have q4:=KS.out.cell 4 rfl;have q5:=KS.out.cell 5 rfl;have q6:=KS.out.cell 6 rfl;have q8:=KS.out.cell 8 rfl;have q9:=KS.out.cell 9 rfl;have q10:=KS.out.cell 10 rfl;have q11:=KS.out.cell 11 rfl;have q12:=KS.out.cell 12 rfl;have q13:=KS.out.cell 13 rfl;have q14:=KS.out.cell 14 rfl;have q15:=KS.out.cell 15 rfl) | (go_at_call 46;(with_reducible refine (hwi.out _ HB.out).mono ?_);clear hwi;rintro _ w3 ⟨rfl,hb3⟩;have KS3:=Bx.mk (KS.out.later hb3);have HB3:=Bx.mk (HB.out.trans (hb3.mono HB.out.size));clear q1 q2 q3 q4 q5 q6 q8 q9 q10 q11 q12 q13 q14 q15;clear KS HB hb3;have KS:=KS3;have HB:=HB3;clear KS3 HB3;have q1:=KS.out.cell 1 rfl;have q2:=KS.out.cell 2 rfl;have q3:=KS.out.cell 3 rfl;have q4:=KS.out.cell 4 rfl;have q5:=KS.out.cell 5 rfl;have q6:=KS.out.cell 6 rfl;have q8:=KS.out.cell 8 rfl;have q9:=KS.out.cell 9 rfl;have q10:=KS.out.cell 10 rfl;have q11:=KS.out.cell 11 rfl;have q12:=KS.out.cell 12 rfl;have q13:=KS.out.cell 13 rfl;have q14:=KS.out.cell 14 rfl;have q15:=KS.out.cell 15 rfl))
     first
      | (have HJ : Bx (Below w.heap.size w _ ∧ (L.take (k + 1)).all (fewS n) = true) := ⟨HI.out.1.trans (HB.out.mono HI.out.1.size), hstep.out (by first | exact G.out | exact Hh8.out)⟩
         go_roundw
         case rel=>exact ⟨k+1,by omega,by go_num,HJ⟩
         case measure=>simp [intOf];omega)
      | (go_ret;exact ⟨by rw [hbad.out (by first | exact G.out | exact Hh8.out)];rfl,HI.out.1.trans (HB.out.mono HI.out.1.size)⟩)
  · obtain rfl:k=m:=by omega
    have t0:decide ((k:Int)<(k:Int))=false:=by simp
    have he:Bx (L.all (fewS n)=true):=⟨by
     have h:=HI.out.2
     rwa [List.take_of_length_le (by have:=HM.out;omega)] at h⟩
    go_wp2_with fail
    go_ret
    exact ⟨by rw [he.out];rfl,HI.out.1⟩
end
section
open Go.RowKit Go.Sort Go.Maps
open Oct
set_option maxRecDepth 100000 in
set_option maxHeartbeats 1000000 in
theorem few10_no (a b c d e f dd:Int) (ha:Option Addr) (hcp:Nat) (xs:List Int) (la:Option Addr) (m lc:Nat) (h : ¬(xs.length≤300∧m≤8∧fromE ⟨⟨a,b,c⟩,⟨d,e,f⟩⟩ xs dd=0)) (w:World) (hsl:Sl w .i64 ha xs) :
 Calls Tryz.prog 9 #[.agg #[a,b,c,d,e,f,.slice ha xs.length hcp],dd,.slice la m lc] w fun e' w'=>e' = .returned (.bool false)∧Below w.heap.size w w':=by
 by_cases hl:xs.length≤300
 rotate_left
 · have t1:decide ((300:Int)<(xs.length:Int))=true:=by simp;omega
   generalize xs.length=xl at *
   clear h hl hsl
   go_enter Tryz.func9,Tryz.ntmps9
   go_wp2_with fail
   go_ret
   exact ⟨rfl,(Below.refl _ _).alloc (Nat.le_refl _) _⟩
 have t1:decide ((300:Int)<(xs.length:Int))=false:=by simp;omega
 by_cases hm:m≤8
 rotate_left
 · have t2:decide ((8:Int)<(m:Int))=true:=by simp;omega
   generalize xs.length=xl at *
   clear h hl hsl hm
   go_enter Tryz.func9,Tryz.ntmps9
   go_wp2_with fail
   go_ret
   exact ⟨rfl,(Below.refl _ _).alloc (Nat.le_refl _) _⟩
 have t2:decide ((8:Int)<(m:Int))=false:=by simp;omega
 have hE:fromE ⟨⟨a,b,c⟩,⟨d,e,f⟩⟩ xs dd ≠ 0:=fun he=>h ⟨hl,hm,he⟩
 have hch:=Bx.mk fun W h=>ref9_check a b c d e f ha hcp xs hl dd W h
 have t3:(fromE ⟨⟨a,b,c⟩,⟨d,e,f⟩⟩ xs dd != 0)=true:=bne_iff_ne.2 hE
 generalize fromE ⟨⟨a,b,c⟩,⟨d,e,f⟩⟩ xs dd=r at *
 have Hsl:=Bx.mk hsl
 generalize xs.length=xl at *
 clear h hl hsl hm hE
 go_enter Tryz.func9,Tryz.ntmps9
 go_upto_region 1 with fail
 generalize hW:World.alloc w _=W
 have hB:=bl1 hW
 have kg:Bk W w.heap.size #[a,b,c,d,e,f,.slice ha xl hcp] 28:=bk0 hW
 clear hW
 obtain ⟨c0,c1,c2,c3,c4,c5,c6⟩:=kg.c7
 have HC:=Bx.mk (hch.out W (Hsl.out.below hB))
 have HB0:=Bx.mk hB
 clear kg hB hch
 go_wp2_with fail
 refine HC.out.mono ?_
 rintro _ w2 ⟨rfl,hb2⟩
 have HB2:=Bx.mk (HB0.out.trans (hb2.mono HB0.out.size))
 clear hb2 HB0 HC c0 c1 c2 c3 c4 c5 c6
 go_wp2_with fail
 go_ret
 exact ⟨rfl,HB2.out⟩
end
section
open Go.RowKit Go.Sort Go.Maps
open Oct
noncomputable def copyF (F:Pt→Int) (m:Nat) (d:Pt) (T:Tr) (c:Pt):Pt→Int :=
 open Classical in fun p=>if Tr.InC m d p then (match T with | .uni k=>k | _=>F ⟨p.x - d.x+c.x,p.y - d.y+c.y,p.z - d.z+c.z⟩) else F p
open Classical in
noncomputable def stepF (N:Nat) (F:Pt→Int) (s:Stp):Option (Pt→Int) :=
 if s.kd=1 then (if 0≤s.cell∧s.cell≤255 then some (fillF N s.b s.cell F) else none)
 else if s.kd=2 then some (pasteF N s.g s.ys F)
 else if s.kd=3 then (if ∀ c∈s.cs,okChg N c then some (writeF (pts s.cs) F) else none)
 else if partOK N s.c.x s.c.y s.c.z s.cl∧partOK N s.d.x s.d.y s.d.z s.dl∧fitsAt (Tr.can F (s.cl.toNat - 2) s.c) s.dl then some (copyF F (s.dl.toNat - 2) s.d (Tr.can F (s.cl.toNat - 2) s.c) s.c) else none
theorem Done.before {Far:Nat→Prop} {sb:Nat} {most:Int} {ts ts':List Tr} {t:Tr} {w W W':World} {e:Ending} (hb:Below w.heap.size w W) (h:Done Far sb most ts ts' t W e W'):Done Far sb most ts ts' t w e W' :=
 ⟨(Keeps.below hb).trans h.keeps,Nat.le_trans hb.size h.size,h.way⟩
structure PlayR (Far:Nat→Prop) (sb:Nat) (most:Int) (ts:List Tr) (N:Nat) (F:Pt→Int) (s:Stp) (w:World) (e:Ending) (W':World):Prop where
 yes : ∀ F',stepF N F s=some F'→Done Far sb most ts (addn N F' ts) (trF N F') w e W'
 no:stepF N F s=none→e=ret2 0 1∧Below w.heap.size w W'
theorem PlayR.pair {Far:Nat→Prop} {sb:Nat} {most:Int} {ts:List Tr} {N:Nat} {F:Pt→Int} {s:Stp} {w:World} (e:Ending) (W':World) (h:PlayR Far sb most ts N F s w e W') : ∃ a b:Int,e=ret2 a b:=by
 cases hs:stepF N F s with
 | none=>exact ⟨0,1,(h.no hs).1⟩
 | some F' =>
   rcases (h.yes F' hs).way with ⟨_,h2,_⟩ | ⟨_,h2,_⟩
   · exact ⟨_,_,h2⟩
   · exact ⟨_,_,h2⟩
theorem PlayR.of_some {Far:Nat→Prop} {sb:Nat} {most:Int} {ts:List Tr} {N:Nat} {F F':Pt→Int} {s:Stp} {w:World} {e:Ending} {W':World} (hs:stepF N F s=some F') (h:Done Far sb most ts (addn N F' ts) (trF N F') w e W'):PlayR Far sb most ts N F s w e W' :=
 ⟨fun F2 h2=>by rw [hs] at h2;obtain rfl:=Option.some.inj h2;exact h,fun h2=>by rw [hs] at h2;cases h2⟩
theorem PlayR.of_none {Far:Nat→Prop} {sb:Nat} {most:Int} {ts:List Tr} {N:Nat} {F:Pt→Int} {s:Stp} {w:World} {e:Ending} {W':World} (hs:stepF N F s=none) (h:e=ret2 0 1∧Below w.heap.size w W'):PlayR Far sb most ts N F s w e W' :=
 ⟨fun F2 h2=>(by rw [hs] at h2;cases h2),fun _=>h⟩
theorem play_s123 {N:Nat} (hN:N≤12) (F:Pt→Int) (hF:FnC N F) (s:Stp) (h123:s.kd=1∨s.kd=2∨s.kd=3) (hfew:fewS N s=true) (sb:Nat) (most:Int) (ts:List Tr) (hG:Good ts) (ht:trF N F∈ts) (hlen : ∀ F',stepF N F s=some F'→(addn N F' ts).length≤4000000) (w:World) (hok:StpOk w s) (Far:Nat→Prop) (hfx:s.ys ≠ [] → ∀ b,s.ga.map (·.block)=some b→Far b) (hFar : ∀ k,Far k→k<w.heap.size) (hS:StoreIs w Far sb most ts) :
 Calls Tryz.prog 13 #[.pointer (some ⟨sb,0,none⟩),.int .i64 (idn ts N F),.int .i64 ((N:Int)+2),.agg s.arr] w (PlayR Far sb most ts N F s w):=by
 simp only [fewS,Bool.and_eq_true,decide_eq_true_eq] at hfew
 obtain ⟨f1,f2,f3,-⟩:=hfew
 have hfar : ∀ W,Below w.heap.size w W → ∀ k,Far k→k<W.heap.size:=fun W hb k hk=>Nat.lt_of_lt_of_le (hFar k hk) hb.size
 rcases h123 with hk | hk | hk
 · refine play_1 sb (idn ts N F) ((N:Int)+2) s.kd s.b.lo.x s.b.lo.y s.b.lo.z s.b.hi.x s.b.hi.y s.b.hi.z s.cell _ _ _ _ _ _ _ _ _ _ _ _ _ _ _ _ _ _ _ _ hk w _ PlayR.pair (fun W hb=>?_)
   by_cases hc:0≤s.cell∧s.cell≤255
   · have hs:stepF N F s=some (fillF N s.b s.cell F):=by unfold stepF;rw [if_pos hk,if_pos hc]
     have h:=fillbox_any hN sb s.b.lo.x s.b.lo.y s.b.lo.z s.b.hi.x s.b.hi.y s.b.hi.z s.cell hc most F hF.range (fillF_fn hF hc).range W Far ts hG ht (hlen _ hs) (hfar W hb) (hS.later hb)
     exact Calls.mono h fun e W' hd=>.of_some hs (hd.before hb)
   · have hs:stepF N F s=none:=by unfold stepF;rw [if_pos hk,if_neg hc]
     exact Calls.mono (fillbox_bad sb _ _ _ _ _ _ _ _ s.cell hc W) fun e W' hd=>.of_none hs ⟨hd.1,hb.trans (hd.2.mono hb.size)⟩
 · refine play_2 sb (idn ts N F) ((N:Int)+2) s.kd _ _ _ _ _ _ _ s.g.lo.x s.g.lo.y s.g.lo.z s.g.hi.x s.g.hi.y s.g.hi.z s.ga s.ys.length s.gc _ _ _ _ _ _ _ _ _ _ _ hk w _ PlayR.pair (fun W hb=>?_)
   have hs:stepF N F s=some (pasteF N s.g s.ys F):=by unfold stepF;rw [if_neg (by omega),if_pos hk]
   have HX:=goodG_of (hcp:=s.gc) f3 f1 hok.yc
   have h:=tpaste_any hN sb s.g.lo.x s.g.lo.y s.g.lo.z s.g.hi.x s.g.hi.y s.g.hi.z s.ga s.gc s.ys HX.small HX.len (by omega) hok.yc most F hF.range (pasteF_fn HX hF).range W (hok.ys.below hb) Far hfx ts hG ht (hlen _ hs) (hfar W hb) (hS.later hb)
   exact Calls.mono h fun e W' hd=>.of_some hs (hd.before hb)
 · refine play_3 sb (idn ts N F) ((N:Int)+2) s.kd _ _ _ _ _ _ _ _ _ _ _ _ _ _ _ _ s.la s.cs.length s.lc _ _ _ _ _ _ _ _ hk w _ PlayR.pair (fun W hb=>?_)
   by_cases hc : ∀ c∈s.cs,okChg N c
   · have hs:stepF N F s=some (writeF (pts s.cs) F):=by unfold stepF;rw [if_neg (by omega),if_neg (by omega),if_pos hk,if_pos hc]
     have h:=twrite_any hN sb s.la s.lc s.cs (by omega) hok.cc most F hF.range W (hok.cs.below hb) Far ts hG ht (fun _=>⟨(writeF_fn (l:=pts s.cs) (fun x hx=>by
      obtain ⟨c,hcm,rfl⟩:=List.mem_map.1 hx
      exact hc c hcm) hF).range,hlen _ hs⟩) (hfar W hb) (hS.later hb)
     exact Calls.mono h fun e W' hd=>.of_some hs ((hd.ok hc).before hb)
   · have hs:stepF N F s=none:=by unfold stepF;rw [if_neg (by omega),if_neg (by omega),if_pos hk,if_neg hc]
     have h:=twrite_any hN sb s.la s.lc s.cs (by omega) hok.cc most F hF.range W (hok.cs.below hb) Far ts hG ht (fun h=>absurd h hc) (hfar W hb) (hS.later hb)
     exact Calls.mono h fun e W' hd=>.of_none hs ⟨(hd.bad hc).1,hb.trans ((hd.bad hc).2.mono hb.size)⟩
end
section
open Go.RowKit Go.Sort Go.Maps
open Oct
structure TellR (N:Nat) (F:Pt→Int) (s:Stp) (w:World) (e:Ending) (W':World):Prop where
 bel:Below w.heap.size w W'
 yes : ∀ F',stepF N F s=some F'→e = .returned (.tuple #[.string (txt N F'),(0:Int)])
 no:stepF N F s=none→e = .returned (.tuple #[.string ByteArray.empty,(1:Int)])
theorem TellR.pair {N:Nat} {F:Pt→Int} {s:Stp} {w:World} (e:Ending) (W':World) (h:TellR N F s w e W') : ∃ (S:ByteArray) (b:Int),e = .returned (.tuple #[.string S,b]):=by
 cases hs:stepF N F s with
 | none=>exact ⟨_,_,h.no hs⟩
 | some F'=>exact ⟨_,_,h.yes F' hs⟩
theorem TellR.of_some {N:Nat} {F F':Pt→Int} {s:Stp} {w:World} {e:Ending} {W':World} (hs:stepF N F s=some F') (hb:Below w.heap.size w W') (h:e = .returned (.tuple #[.string (txt N F'),(0:Int)])):TellR N F s w e W' :=
 ⟨hb,fun F2 h2=>(by rw [hs] at h2;obtain rfl:=Option.some.inj h2;exact h),fun h2=>(by rw [hs] at h2;cases h2)⟩
theorem TellR.of_none {N:Nat} {F:Pt→Int} {s:Stp} {w:World} {e:Ending} {W':World} (hs:stepF N F s=none) (hb:Below w.heap.size w W') (h:e = .returned (.tuple #[.string ByteArray.empty,(1:Int)])):TellR N F s w e W' :=
 ⟨hb,fun F2 h2=>(by rw [hs] at h2;cases h2),fun _=>h⟩
theorem told_s123 {N:Nat} (hN:N≤12) (F:Pt→Int) (hF:FnC N F) (s:Stp) (h123:s.kd=1∨s.kd=2∨s.kd=3) (hfew:fewS N s=true) (w:World) (hok:StpOk w s) :
 Calls Tryz.prog 14 #[.string (txt N F),.int .i64 ((N:Int)+2),.agg s.arr] w (TellR N F s w):=by
 simp only [fewS,Bool.and_eq_true,decide_eq_true_eq] at hfew
 obtain ⟨f1,f2,f3,-⟩:=hfew
 rcases h123 with hk | hk | hk
 · refine told_1 (txt N F) ((N:Int)+2) s.kd s.b.lo.x s.b.lo.y s.b.lo.z s.b.hi.x s.b.hi.y s.b.hi.z s.cell _ _ _ _ _ _ _ _ _ _ _ _ _ _ _ _ _ _ _ _ hk w _ TellR.pair (fun W hb=>?_)
   by_cases hc:0≤s.cell∧s.cell≤255
   · have hs:stepF N F s=some (fillF N s.b s.cell F):=by unfold stepF;rw [if_pos hk,if_pos hc]
     have h:=fill10_any hN s.b.lo.x s.b.lo.y s.b.lo.z s.b.hi.x s.b.hi.y s.b.hi.z s.cell hc F hF.range (fillF_fn hF hc).range W
     exact Calls.mono h fun e W' hd=>.of_some hs (hb.trans (hd.2.mono hb.size)) hd.1
   · have hs:stepF N F s=none:=by unfold stepF;rw [if_pos hk,if_neg hc]
     exact Calls.mono (fill10_bad _ _ _ _ _ _ _ _ s.cell hc W) fun e W' hd=>.of_none hs (hb.trans (hd.2.mono hb.size)) hd.1
 · have hs:stepF N F s=some (pasteF N s.g s.ys F):=by unfold stepF;rw [if_neg (by omega),if_pos hk]
   have HX:=goodG_of (hcp:=s.gc) f3 f1 hok.yc
   refine told_2 (txt N F) ((N:Int)+2) s.kd _ _ _ _ _ _ _ s.g.lo.x s.g.lo.y s.g.lo.z s.g.hi.x s.g.hi.y s.g.hi.z s.ga s.ys.length s.gc _ _ _ _ _ _ _ _ _ _ _ hk w _ (txt N (pasteF N s.g s.ys F)) (fun W hb=>?_)
   have h:=paste10_any hN s.g.lo.x s.g.lo.y s.g.lo.z s.g.hi.x s.g.hi.y s.g.hi.z s.ga s.gc s.ys HX F hF.range (pasteF_fn HX hF).range W (hok.ys.below hb)
   exact Calls.mono h fun e W' hd=>⟨hd.1,.of_some hs (hb.trans (hd.2.mono hb.size)) rfl⟩
 · refine told_3 (txt N F) ((N:Int)+2) s.kd _ _ _ _ _ _ _ _ _ _ _ _ _ _ _ _ s.la s.cs.length s.lc _ _ _ _ _ _ _ _ hk w _ TellR.pair (fun W hb=>?_)
   have h:=write10_any hN s.la s.lc s.cs (by omega) hok.cc F hF.range W (hok.cs.below hb)
   by_cases hc : ∀ c∈s.cs,okChg N c
   · have hs:stepF N F s=some (writeF (pts s.cs) F):=by unfold stepF;rw [if_neg (by omega),if_neg (by omega),if_pos hk,if_pos hc]
     exact Calls.mono h fun e W' hd=>.of_some hs (hb.trans (hd.bel.mono hb.size)) (hd.ok hc)
   · have hs:stepF N F s=none:=by unfold stepF;rw [if_neg (by omega),if_neg (by omega),if_pos hk,if_neg hc]
     exact Calls.mono h fun e W' hd=>.of_none hs (hb.trans (hd.bel.mono hb.size)) (hd.bad hc)
end
section
open Go.RowKit
open Oct
theorem dep_flat {n:Nat} {t:Tr} (h:Dep n t) (hk:kindV t ≠ 1):depV t=(n:Int)+2:=by
 cases h with
 | uni n c=>exact absurd rfl hk
 | brick l=>rfl
 | node n ch _=>show ((n+3:Nat):Int)=_;omega
theorem copyF_off {F:Pt→Int} {m:Nat} {d c:Pt} {T:Tr} {p:Pt} (h : ¬Tr.InC m d p):copyF F m d T c p=F p:=by
 unfold copyF;rw [if_neg h]
theorem copyF_range {F:Pt→Int} (hF : ∀ p,0≤F p∧F p≤255) {m n:Nat} (hn:n≤200) {d c a:Pt} (p:Pt):0≤copyF F m d (Tr.can F n a) c p∧copyF F m d (Tr.can F n a) c p≤255:=by
 unfold copyF
 split
 · have hw:=wf_can hF n a
   cases hT:Tr.can F n a with
   | uni k =>
     have h:=hw hn
     rw [hT] at h
     exact h
   | brick l=>exact hF _
   | node d ch=>exact hF _
 · exact hF p
theorem copy_can {F:Pt→Int} {m n:Nat} {d c:Pt} (hd:Tr.Al m d) (hf:fitsAt (Tr.can F n c) ((m:Int)+2)):Tr.can (copyF F m d (Tr.can F n c) c) m d=Tr.can F n c:=by
 by_cases hk:kindV (Tr.can F n c)=1
 · obtain ⟨k,hT⟩ : ∃ k,Tr.can F n c = .uni k:=by
    cases hT:Tr.can F n c with
    | uni k=>exact ⟨k,rfl⟩
    | brick l=>rw [hT] at hk;simp [kindV] at hk
    | node d ch=>rw [hT] at hk;simp [kindV] at hk
   rw [hT]
   exact can_uni m d _ hd fun p hp=>by unfold copyF;rw [if_pos hp]
 · have hdv:=dep_flat (dep_can F n c) hk
   have hmn:m=n:=by
    rcases hf with h | h
    · exact absurd h hk
    · omega
   subst hmn
   have hsh:=can_shift ⟨c.x - d.x,c.y - d.y,c.z - d.z⟩ F m d
   rw [show (⟨c.x - d.x+d.x,c.y - d.y+d.y,c.z - d.z+d.z⟩:Pt)=c by cases c;simp] at hsh
   rw [←hsh]
   refine Tr.can_congr m d hd fun p hp=>?_
   unfold copyF
   rw [if_pos hp,hsh]
   cases hT:Tr.can F m c with
   | uni k=>rw [hT] at hk;exact absurd rfl hk
   | brick l =>
     show F _=shf _ F p
     unfold shf
     congr 1
     simp only [Pt.mk.injEq]
     omega
   | node d' ch =>
     show F _=shf _ F p
     unfold shf
     congr 1
     simp only [Pt.mk.injEq]
     omega
end
section
open Go.RowKit Go.Sort Go.Maps
open Oct
theorem play_s4 {N:Nat} (hN:N≤12) (F:Pt→Int) (hF:FnC N F) (s:Stp) (hk:s.kd ≠ 1∧s.kd ≠ 2∧s.kd ≠ 3) (sb:Nat) (most:Int) (ts:List Tr) (hG:Good ts) (hl0:ts.length≤4000000) (ht:trF N F∈ts) (hlen : ∀ F',stepF N F s=some F'→(addn N F' ts).length≤4000000) (w:World) (Far:Nat→Prop) (hFar : ∀ k,Far k→k<w.heap.size) (hS:StoreIs w Far sb most ts) :
 Calls Tryz.prog 13 #[.pointer (some ⟨sb,0,none⟩),.int .i64 (idn ts N F),.int .i64 ((N:Int)+2),.agg s.arr] w (PlayR Far sb most ts N F s w):=by
 have h123 : ¬s.kd=1 ∧ ¬s.kd=2 ∧ ¬s.kd=3:=hk
 refine play_4 sb (idn ts N F) ((N:Int)+2) s.kd _ _ _ _ _ _ _ _ _ _ _ _ _ _ _ _ _ _ _ s.c.x s.c.y s.c.z s.cl s.d.x s.d.y s.d.z s.dl hk w _ PlayR.pair (fun W hb=>?_)
 by_cases hp:partOK N s.c.x s.c.y s.c.z s.cl
 rotate_left
 · have hs:stepF N F s=none:=by unfold stepF;rw [if_neg h123.1,if_neg h123.2.1,if_neg h123.2.2,if_neg (fun h=>hp h.1)]
   exact Calls.mono (part_bad W sb N hN (idn ts N F) _ _ _ _ hp) fun e W' hd=>⟨hd.2,.inl ⟨hd.1,.of_none hs ⟨hd.1,hb.trans (hd.2.mono hb.size)⟩⟩⟩
 obtain ⟨p1,p2,p3,p4⟩:=hp
 have hp:partOK N s.c.x s.c.y s.c.z s.cl:=⟨p1,p2,p3,p4⟩
 obtain ⟨L,hL⟩ : ∃ L:Nat,s.cl=(L:Int):=⟨s.cl.toNat,by omega⟩
 have hLn:s.cl.toNat=L:=by omega
 rw [hLn] at p4
 have hT:partT (trF N F) N L s.c=Tr.can F (L - 2) s.c:=partT_can F N L ⟨0,0,0⟩ s.c (al_zero N) (inC_of_in p1) (by omega) (by omega) (alB_iff.1 p4)
 have hTm:Tr.can F (L - 2) s.c∈ts:=by rw [←hT];exact partT_in hG L s.c N _ ht (dep_can F N _)
 have hpo:=part_ok W sb N L hN (by omega) (by omega) s.c.x s.c.y s.c.z p1 p4 Far most ts (trF N F) ht (dep_can F N _) hG (by omega) (hS.later hb)
 rw [show (⟨s.c.x,s.c.y,s.c.z⟩:Pt)=s.c from rfl,hT,←hL] at hpo
 refine Calls.mono hpo fun e W1 hd=>⟨hd.2,.inr ⟨_,hd.1,?_⟩⟩
 have hb1:=hb.trans (hd.2.mono hb.size)
 by_cases hq:partOK N s.d.x s.d.y s.d.z s.dl
 rotate_left
 · have hs:stepF N F s=none:=by unfold stepF;rw [if_neg h123.1,if_neg h123.2.1,if_neg h123.2.2,if_neg (fun h=>hq h.2.1)]
   exact Calls.mono (tgraft_bad sb N hN (idn ts N F) _ _ _ _ _ hq W1) fun e W' hg=>.of_none hs ⟨hg.1,hb1.trans (hg.2.mono hb1.size)⟩
 have q2:=hq.2.1
 obtain ⟨m,hm⟩ : ∃ m:Nat,s.dl=((m+2:Nat):Int):=⟨s.dl.toNat - 2,by omega⟩
 have hmn:s.dl.toNat - 2=m:=by omega
 have hq':=hq
 rw [hm] at hq'
 have hin:=hq'.inT
 have hst:fitsAt (Tr.can F (L - 2) s.c) ((m+2:Nat):Int)→stepF N F s=some (copyF F m s.d (Tr.can F (L - 2) s.c) s.c):=fun hf=>by
  unfold stepF
  rw [if_neg h123.1,if_neg h123.2.1,if_neg h123.2.2,hLn,hmn,if_pos ⟨hp,hq,by rw [hm];exact hf⟩]
 have hg:=tgraft_any hN sb m s.d hq' most F (copyF F m s.d (Tr.can F (L - 2) s.c) s.c) hF.range W1 Far ts hG (Tr.can F (L - 2) s.c) hTm ht hl0 (fun hf=>⟨copy_can hin.al (by rw [show ((m+2:Nat):Int)=(m:Int)+2 by omega] at hf;exact hf),fun p hp=>copyF_off hp,copyF_range hF.range (by omega),hlen _ (hst hf)⟩) (fun k hk=>Nat.lt_of_lt_of_le (hFar k hk) hb1.size) (hS.later hb1)
 rw [show cubeV s.d.x s.d.y s.d.z ((m+2:Nat):Int) = .agg #[s.d.x,s.d.y,s.d.z,s.dl] by rw [hm]] at hg
 refine Calls.mono hg fun e W' hgd=>?_
 by_cases hf:fitsAt (Tr.can F (L - 2) s.c) ((m+2:Nat):Int)
 · exact .of_some (hst hf) ((hgd.ok hf).before hb1)
 · have hs:stepF N F s=none:=by
    unfold stepF
    rw [if_neg h123.1,if_neg h123.2.1,if_neg h123.2.2,hLn,if_neg (fun h=>hf (by rw [←hm];exact h.2.2))]
   obtain ⟨g1,g2⟩:=hgd.bad hf
   exact .of_none hs ⟨g1,hb1.trans (g2.mono hb1.size)⟩
end
section
open Go.RowKit Go.Sort Go.Maps
open Oct
theorem told_s4 {N:Nat} (hN:N≤12) (F:Pt→Int) (hF:FnC N F) (s:Stp) (hk:s.kd ≠ 1∧s.kd ≠ 2∧s.kd ≠ 3) (w:World) :
 Calls Tryz.prog 14 #[.string (txt N F),.int .i64 ((N:Int)+2),.agg s.arr] w (TellR N F s w):=by
 have h123 : ¬s.kd=1 ∧ ¬s.kd=2 ∧ ¬s.kd=3:=hk
 refine told_4 (txt N F) ((N:Int)+2) s.kd _ _ _ _ _ _ _ _ _ _ _ _ _ _ _ _ _ _ _ s.c.x s.c.y s.c.z s.cl s.d.x s.d.y s.d.z s.dl hk w _ TellR.pair (fun W hb=>?_)
 by_cases hp:partOK N s.c.x s.c.y s.c.z s.cl
 rotate_left
 · have hs:stepF N F s=none:=by unfold stepF;rw [if_neg h123.1,if_neg h123.2.1,if_neg h123.2.2,if_neg (fun h=>hp h.1)]
   exact Calls.mono (Part9_bad N hN F _ _ _ _ hp W) fun e W' hd=>⟨hd.2,.inl ⟨hd.1,.of_none hs (hb.trans (hd.2.mono hb.size)) hd.1⟩⟩
 obtain ⟨p1,p2,p3,p4⟩:=hp
 have hp:partOK N s.c.x s.c.y s.c.z s.cl:=⟨p1,p2,p3,p4⟩
 obtain ⟨L,hL⟩ : ∃ L:Nat,s.cl=(L:Int):=⟨s.cl.toNat,by omega⟩
 have hLn:s.cl.toNat=L:=by omega
 rw [hLn] at p4
 have hT:partT (trF N F) N L s.c=Tr.can F (L - 2) s.c:=partT_can F N L ⟨0,0,0⟩ s.c (al_zero N) (inC_of_in p1) (by omega) (by omega) (alB_iff.1 p4)
 have hpo:=Part9_ok N L hN (by omega) (by omega) F hF.range s.c.x s.c.y s.c.z p1 p4 W
 rw [show (⟨s.c.x,s.c.y,s.c.z⟩:Pt)=s.c from rfl,hT,←hL] at hpo
 refine Calls.mono hpo fun e W1 hd=>⟨hd.2,.inr ⟨_,hd.1,?_⟩⟩
 have hb1:=hb.trans (hd.2.mono hb.size)
 by_cases hq:partOK N s.d.x s.d.y s.d.z s.dl
 rotate_left
 · have hs:stepF N F s=none:=by unfold stepF;rw [if_neg h123.1,if_neg h123.2.1,if_neg h123.2.2,if_neg (fun h=>hq h.2.1)]
   exact Calls.mono (graft10_bad N hN F _ _ _ _ _ hq W1) fun e W' hg=>.of_none hs (hb1.trans (hg.2.mono hb1.size)) hg.1
 have q2:=hq.2.1
 obtain ⟨m,hm⟩ : ∃ m:Nat,s.dl=((m+2:Nat):Int):=⟨s.dl.toNat - 2,by omega⟩
 have hmn:s.dl.toNat - 2=m:=by omega
 have hq':=hq
 rw [hm] at hq'
 have hin:=hq'.inT
 have hst:fitsAt (Tr.can F (L - 2) s.c) ((m+2:Nat):Int)→stepF N F s=some (copyF F m s.d (Tr.can F (L - 2) s.c) s.c):=fun hf=>by
  unfold stepF
  rw [if_neg h123.1,if_neg h123.2.1,if_neg h123.2.2,hLn,hmn,if_pos ⟨hp,hq,by rw [hm];exact hf⟩]
 have hg:=graft10_any hN m s.d hq' (Tr.can F (L - 2) s.c) (wf_can hF.range _ _ (by omega)) F (copyF F m s.d (Tr.can F (L - 2) s.c) s.c) hF.range (fun hf=>⟨copy_can hin.al (by rw [show ((m+2:Nat):Int)=(m:Int)+2 by omega] at hf;exact hf),fun p hp=>copyF_off hp,copyF_range hF.range (by omega)⟩) W1
 rw [show cubeV s.d.x s.d.y s.d.z ((m+2:Nat):Int) = .agg #[s.d.x,s.d.y,s.d.z,s.dl] by rw [hm]] at hg
 refine Calls.mono hg fun e W' hgd=>?_
 by_cases hf:fitsAt (Tr.can F (L - 2) s.c) ((m+2:Nat):Int)
 · exact .of_some (hst hf) (hb1.trans (hgd.bel.mono hb1.size)) (hgd.ok hf)
 · have hs:stepF N F s=none:=by
    unfold stepF
    rw [if_neg h123.1,if_neg h123.2.1,if_neg h123.2.2,hLn,if_neg (fun h=>hf (by rw [←hm];exact h.2.2))]
   exact .of_none hs (hb1.trans (hgd.bel.mono hb1.size)) (hgd.bad hf)
theorem told_any {N:Nat} (hN:N≤12) (F:Pt→Int) (hF:FnC N F) (s:Stp) (hfew:fewS N s=true) (w:World) (hok:StpOk w s) :
 Calls Tryz.prog 14 #[.string (txt N F),.int .i64 ((N:Int)+2),.agg s.arr] w (TellR N F s w):=by
 by_cases h:s.kd=1∨s.kd=2∨s.kd=3
 · exact told_s123 hN F hF s h hfew w hok
 · exact told_s4 hN F hF s (by omega) w
theorem play_any {N:Nat} (hN:N≤12) (F:Pt→Int) (hF:FnC N F) (s:Stp) (hfew:fewS N s=true) (sb:Nat) (most:Int) (ts:List Tr) (hG:Good ts) (hl0:ts.length≤4000000) (ht:trF N F∈ts) (hlen : ∀ F',stepF N F s=some F'→(addn N F' ts).length≤4000000) (w:World) (hok:StpOk w s) (Far:Nat→Prop) (hfx:s.ys ≠ [] → ∀ b,s.ga.map (·.block)=some b→Far b) (hFar : ∀ k,Far k→k<w.heap.size) (hS:StoreIs w Far sb most ts) :
 Calls Tryz.prog 13 #[.pointer (some ⟨sb,0,none⟩),.int .i64 (idn ts N F),.int .i64 ((N:Int)+2),.agg s.arr] w (PlayR Far sb most ts N F s w):=by
 by_cases h:s.kd=1∨s.kd=2∨s.kd=3
 · exact play_s123 hN F hF s h hfew sb most ts hG ht hlen w hok Far hfx hFar hS
 · exact play_s4 hN F hF s (by omega) sb most ts hG hl0 ht hlen w Far hFar hS
end
section
open Go.RowKit
open Oct
theorem wide_uni {N:Nat} {b:Box} {c:Int} {F:Pt→Int} (h:wideP N b=true):trF N (fillF N b c F) = .uni c:=by
 have hp:=Tr.pow_pos2 N
 have he:emptyB (cubeB (2 ^ (N+2)))=false:=emptyB_iff.2 ⟨by simp only [cubeB,Pt.zero];omega,by simp only [cubeB,Pt.zero];omega,by simp only [cubeB,Pt.zero];omega⟩
 unfold wideP at h
 rw [vol_meet he,decide_eq_true_eq] at h
 refine fill_in (InT.top N) ?_
 have hcube:cubeAtB N ⟨0,0,0⟩=cubeB (2 ^ (N+2)):=by unfold cubeAtB cubeB Pt.zero;simp
 rw [hcube]
 unfold containsB
 rw [h]
 simp
theorem step_both {N:Nat} (hN:N≤12) {F F':Pt→Int} (hF:FnC N F) {s:Stp} (hfew:fewS N s=true) (hs:stepF N F s=some F') :
 FnC N F' ∧ ∀ ts:List Tr,Good ts→trF N F∈ts→(addn N F' ts).length≤ts.length+52000:=by
 simp only [fewS,Bool.and_eq_true,Bool.or_eq_true,decide_eq_true_eq] at hfew
 obtain ⟨f1,f2,f3,-,-,f6⟩:=hfew
 unfold stepF at hs
 split at hs
 · split at hs
   · rename_i hc
     obtain rfl:=Option.some.inj hs
     refine ⟨fillF_fn hF hc,fun ts hG ht=>?_⟩
     rcases f6 with h | h | h
     · exact Nat.le_trans (any_len h _ ts) (by omega)
     · exact fill_len hN hF hc hG ht h
     · unfold addn
       rw [wide_uni h,Tr.add_uni]
       have:=ins_len' (.uni s.cell) ts
       omega
   · cases hs
 · split at hs
   · obtain rfl:=Option.some.inj hs
     have HX:=goodG_of (hcp:=s.ys.length) f3 f1 (Nat.le_refl _)
     exact ⟨pasteF_fn HX hF,fun ts hG ht=>Nat.le_trans (paste_len HX hN hF hG ht) (by omega)⟩
   · split at hs
     · split at hs
       · rename_i hc
         obtain rfl:=Option.some.inj hs
         have hl : ∀ x∈pts s.cs,inB x.1 (wholeB N)=true∧0≤x.2∧x.2≤255:=fun x hx=>by
          obtain ⟨c,hcm,rfl⟩:=List.mem_map.1 hx
          exact hc c hcm
         refine ⟨writeF_fn hl hF,fun ts hG ht=>?_⟩
         have h:=write_len hN hl hF hG ht
         rw [List.length_map] at h
         unfold addn
         omega
       · cases hs
     · split at hs
       · rename_i hc
         obtain ⟨hp,hq,hf⟩:=hc
         obtain rfl:=Option.some.inj hs
         obtain ⟨p1,p2,p3,p4⟩:=hp
         have q2:=hq.2.1
         have q3:=hq.2.2.1
         obtain ⟨m,hm⟩ : ∃ m:Nat,s.dl=((m+2:Nat):Int):=⟨s.dl.toNat - 2,by omega⟩
         have hmn:s.dl.toNat - 2=m:=by omega
         have hq':=hq
         rw [hm] at hq' hf
         have hin:=hq'.inT
         rw [hmn]
         have hcop:Tr.can (copyF F m s.d (Tr.can F (s.cl.toNat - 2) s.c) s.c) m s.d=Tr.can F (s.cl.toNat - 2) s.c:=copy_can hin.al (by rw [show ((m+2:Nat):Int)=(m:Int)+2 by omega] at hf;exact hf)
         refine ⟨⟨copyF_range hF.range (by omega),fun p hp=>?_⟩,fun ts hG ht=>?_⟩
         · rw [copyF_off (fun h=>by have:=hin.whole h;rw [this] at hp;cases hp)]
           exact hF.out p hp
         · have hT:partT (trF N F) N s.cl.toNat s.c=Tr.can F (s.cl.toNat - 2) s.c:=partT_can F N s.cl.toNat ⟨0,0,0⟩ s.c (al_zero N) (inC_of_in p1) (by omega) (by omega) (alB_iff.1 p4)
           have hTm:Tr.can F (s.cl.toNat - 2) s.c∈ts:=by rw [←hT];exact partT_in hG _ s.c N _ ht (dep_can F N _)
           have h:=graft_len (f:=F) (copyF_range (d:=s.d) (c:=s.c) (a:=s.c) (m:=m) hF.range (show s.cl.toNat - 2≤200 by omega)) m s.d hin.al hG (by rw [hcop];exact hTm) (fun p hp=>copyF_off hp) N ⟨0,0,0⟩ (by omega) hin.le (al_zero N) (inC_of_in hq.1) ht
           unfold addn
           exact Nat.le_trans h (by omega)
       · cases hs
end
end Go.Proofs.YtfcbajmjaifjlaaGreat
