/- M48, M49, M50: joined by program. -/
import Derived.Test.YtfcbajmjaifjlaaGreatM15
import Derived.Deep.MidRow
import Derived.Deep.WholeRow
import Derived.Great.BuildSlice
set_option maxHeartbeats 8000000
set_option maxRecDepth 100000
set_option linter.all false
attribute [local simp] Go.Op.operands Go.Call.operands
namespace Go.Proofs.YtfcbajmjaifjlaaGreat
section
open Go.RowKit Go.Sort Go.Maps
open Oct
structure Stp where
 kd:Int
 b:Box
 cell:Int
 g:Box
 ga:Option Addr
 ys:List Int
 gc:Nat
 la:Option Addr
 cs:List Chg
 lc:Nat
 c:Pt
 cl:Int
 d:Pt
 dl:Int
abbrev Stp.arr (s:Stp):Array Value:=#[s.kd,s.b.lo.x,s.b.lo.y,s.b.lo.z,s.b.hi.x,s.b.hi.y,s.b.hi.z,s.cell,s.g.lo.x,s.g.lo.y,s.g.lo.z,s.g.hi.x,s.g.hi.y,s.g.hi.z,.slice s.ga s.ys.length s.gc,.slice s.la s.cs.length s.lc,s.c.x,s.c.y,s.c.z,s.cl,s.d.x,s.d.y,s.d.z,s.dl]
structure StpOk (w:World) (s:Stp):Prop where
 ys:Sl w .i64 s.ga s.ys
 yc:s.ys.length≤s.gc
 cs:SlC w s.la s.cs
 cc:s.cs.length≤s.lc
theorem StpOk.below {w w':World} {s:Stp} (h:StpOk w s) (hb:Below w.heap.size w w'):StpOk w' s:=⟨h.ys.below hb,h.yc,h.cs.below hb,h.cc⟩
def SlS (w:World) (a:Option Addr) (L:List Stp):Prop := ∀ (i:Nat) (s:Stp),L[i]? = some s → ∃ b off,a=some ⟨b,off,none⟩∧(∀ j v,s.arr[j]? = some v→w.cell? ⟨b,off+i * 24+j,none⟩=some v)∧StpOk w s
theorem SlS.below {w w':World} {a:Option Addr} {L:List Stp} (h:SlS w a L) (hb:Below w.heap.size w w'):SlS w' a L:=by
 intro i s hs;obtain ⟨b,off,rfl,hc,ho⟩:=h i s hs;exact ⟨b,off,rfl,fun j v hj=>cell_later hb (hc j v hj),ho.below hb⟩
def zE0 (n:Nat) (s:Stp):Bool:=decide (s.ys.length≤300) && (decide (s.cs.length≤20) && (zN6 s.g s.ys && (okP s.b.lo && (okP s.b.hi && (decide (n≤3) || (decide (zAE s.b≤4000) || zOL n s.b))))))
theorem zA9 {n k:Nat} {L:List Stp} {s:Stp} (hs:L[k]? = some s) (h:(L.take k).all (zE0 n)=true) (h':zE0 n s=true):(L.take (k+1)).all (zE0 n)=true:=by
 have hj:=List.getElem?_eq_some_iff.1 hs;rw [List.take_succ_eq_append_getElem hj.1,hj.2,List.all_append,h];simp [h']
theorem zA4 {n k:Nat} {L:List Stp} {s:Stp} (hs:L[k]? = some s) (h':zE0 n s=false):L.all (zE0 n)=false:=by
 rw [List.all_eq_false];exact ⟨s,List.mem_of_getElem? hs,by simp [h']⟩
theorem zMU {b:Box} (h1:okP b.lo=true) (h2:okP b.hi=true):Small b 1048575:=by
 rw [zJK] at h1 h2;exact ⟨by omega,by omega,by omega,by omega,by omega,by omega⟩
theorem zE2 {a b:Nat} {F:Prop} (h : ¬b≤a→F):(decide ((a:Int)<(b:Int))=true∧Bx F)∨(decide ((a:Int)<(b:Int))=false∧Bx (b≤a)):=by
 by_cases h1:b≤a
 · exact .inr ⟨by simp;omega,⟨h1⟩⟩
 · exact .inl ⟨by simp;omega,⟨h h1⟩⟩
theorem zE1 {b:Bool} {F:Prop} (h:b=false→F):(b=false∧Bx F)∨(b=true∧Bx (b=true)):=by
 cases b with
 | false=>exact .inl ⟨rfl,⟨h rfl⟩⟩
 | true=>exact .inr ⟨rfl,⟨rfl⟩⟩
theorem few_n {n:Nat} {F:Prop} (h:n≤3→F):(decide ((5:Int)<(n:Int)+2)=false∧Bx F)∨(decide ((5:Int)<(n:Int)+2)=true∧Bx (¬n≤3)):=by
 by_cases h1:n≤3
 · exact .inl ⟨by simp;omega,⟨h h1⟩⟩
 · exact .inr ⟨by simp;omega,⟨h1⟩⟩
theorem zE3 {v:Int} {F:Prop} (h:v≤4000→F):(decide ((4000:Int)<v)=false∧Bx F)∨(decide ((4000:Int)<v)=true∧Bx (¬v≤4000)):=by
 by_cases h1:v≤4000
 · exact .inl ⟨by simp;omega,⟨h h1⟩⟩
 · exact .inr ⟨by simp;omega,⟨h1⟩⟩
theorem zE4 {b:Bool} {F G:Prop} (h:b=true→F) (h':b=false→G):(b=true∧Bx F)∨(b=false∧Bx G):=by
 cases b with
 | true=>exact .inl ⟨rfl,⟨h rfl⟩⟩
 | false=>exact .inr ⟨rfl,⟨h' rfl⟩⟩
theorem zEz (a b c d e f:Int) (ha:Option Addr) (hcp:Nat) (xs:List Int) (hl:xs.length≤300) (n:Nat) (hn:n≤12) (hE:zFd ⟨⟨a,b,c⟩,⟨d,e,f⟩⟩ xs ((n:Int)+2)=0) (la:Option Addr) (lc:Nat) (L:List Stp) (hL:L.length≤8) (w:World) (Rn:Sl w .i64 ha xs) (hS:SlS w la L) :
 Calls Tryz.prog 9 #[.agg #[a,b,c,d,e,f,.slice ha xs.length hcp],((n:Int)+2:Int),.slice la L.length lc] w fun e' w'=>e' = .returned (.bool (L.all (zE0 n)))∧Below w.heap.size w w':=by
 have LT:=Bx.mk fun W h=>zKs a b c d e f ha hcp xs hl ((n:Int)+2) W h;rw [hE] at LT;have Sy:=Bx.mk fun b0 b1 b2 b3 b4 b5 W=>zOM n hn b0 b1 b2 b3 b4 b5 W;have Db:=Bx.mk Rn;have HS:=Bx.mk hS;have t1:decide ((300:Int)<(xs.length:Int))=false:=by simp;omega
 have t2:decide ((8:Int)<(L.length:Int))=false:=by simp;omega
 generalize hm:L.length=m at *;generalize xs.length=xl at *;have HM:=Bx.mk hm;clear Rn hS hE hm hl;go_enter Tryz.func9,Tryz.ntmps9;go_upto_region 1 with fail;generalize hW:w.alloc _=W;have hB:=bl1 hW;have kg:Bk W w.heap.size #[a,b,c,d,e,f,.slice ha xl hcp] 28:=bk0 hW;clear hW;obtain ⟨c0,c1,c2,c3,c4,c5,c6⟩:=kg.c7;have HC:=Bx.mk (LT.o W (Db.o.below hB));have A2:=Bx.mk hB;clear kg hB LT;go_wp2_with fail;refine HC.o.mono ?_;rintro _ w2 ⟨rfl,Js⟩;have HI:Bx (Below w.heap.size w w2∧(L.take 0).all (zE0 n)=true):=⟨tr A2.o Js,rfl⟩;clear Js A2 HC c0 c1 c2 c3 c4 c5 c6 t1 t2;go_wp2_with fail
 go_loopw [26] (fun v26 wr => ∃ k:Nat,k≤m∧v26 = .int .i64 k∧Bx (Below w.heap.size w wr∧(L.take k).all (zE0 n)=true)) (fun i _=>m - (intOf i).toNat)
 case atStart=>exact ⟨0,Nat.zero_le _,rfl,HI⟩
 case round =>
  clear HI;obtain ⟨k,hk,rfl,HI⟩:=hrel;by_cases hlt:k<m
  · have t0:decide ((k:Int)<(m:Int))=true:=by simp;omega
    obtain ⟨s,hs⟩ : ∃ s,L[k]? = some s:=⟨_,lge (by have:=HM.o;omega)⟩
    obtain ⟨bA,oA,rfl,LO,QE⟩:=(HS.o.below HI.o.1) k s hs;have z1:(0:Int)≤(k:Int):=by omega
    have z2:(k:Int)<(m:Int):=by omega
    obtain ⟨AL,hA⟩ : ∃ AL,AL=s.arr.toList:=⟨_,rfl⟩;have Hj:AL.length=24:=by rw [hA];rfl
    have H6:Bx (AL.toArray.all (·.oneCell')=true):=⟨by rw [hA];simp [Value.oneCell']⟩
    have Nd:Bx ((Tryz.prog.info? 41).map (·.size)=some AL.length):=⟨by rw [Hj];kernel_rfl⟩
    have Nf:Bx ((Tryz.prog.info? 41).map (·.size)=some AL.toArray.size):=⟨by rw [List.size_toArray,Hj];kernel_rfl⟩
    have HR:Bx (∀ W',Below wr.heap.size wr W'→W'.rangeAt bA (oA+k * 24) AL):=⟨fun W' hb j v hj=>cell_later hb (LO j v (by rw [hA] at hj;simpa using hj))⟩
    have HA:=Bx.mk hA;have A1:=Bx.mk Hj;clear hA Hj LO;have BU:=Bx.mk QE;have S7:Bx (zE0 n s=true→(L.take (k+1)).all (zE0 n)=true):=⟨fun h=>zA9 hs HI.o.2 h⟩;have KF:Bx (zE0 n s=false→L.all (zE0 n)=false):=⟨fun h=>zA4 hs h⟩;clear QE hs
    go_upto_region 6 with (first
     | (refine wpList_load_mid rfl _ _ rfl bA (oA+k * 24) rfl AL _ (HR.o _ br) Tryz.underlying41 rfl Nd.o ?_)
     | (refine zOd rfl _ _ _ rfl wr.heap.size rfl _ AL.toArray rfl 41 (heap_alloc_new _ _) Nf.o (by rw [show AL.toArray.size=24 by simp [A1.o]];rfl) H6.o ?_))
    generalize hW:World.setRow (World.alloc wr _) _ _=W;have hB:Below wr.heap.size wr W:=by rw [←hW];exact below_setRow bf (Nat.le_refl _) _
    have KS:=Bx.mk (show Bk W wr.heap.size #[s.kd,s.b.lo.x,s.b.lo.y,s.b.lo.z,s.b.hi.x,s.b.hi.y,s.b.hi.z,s.cell,s.g.lo.x,s.g.lo.y,s.g.lo.z,s.g.hi.x,s.g.hi.y,s.g.hi.z,.slice s.ga s.ys.length s.gc,.slice s.la s.cs.length s.lc,s.c.x,s.c.y,s.c.z,s.cl,s.d.x,s.d.y,s.d.z,s.dl] 41 by rw [←hW,HA.o];exact setRow_heap _ _ _ _ _ (0,0) (heap_alloc_new _ _))
    have HB:=Bx.mk hB;clear hW H6 Nd Nf HR HA A1;have Oz:=fun W' (_:Below wr.heap.size wr W')=>zw s.b.lo.x s.b.lo.y s.b.lo.z W';have NY:=fun W' (_:Below wr.heap.size wr W')=>zw s.b.hi.x s.b.hi.y s.b.hi.z W';have Sx:=fun W' (_:Below wr.heap.size wr W')=>Sy.o s.b.lo.x s.b.lo.y s.b.lo.z s.b.hi.x s.b.hi.y s.b.hi.z W';rw [show (⟨s.b.lo.x,s.b.lo.y,s.b.lo.z⟩:Pt)=s.b.lo from rfl] at Oz;rw [show (⟨s.b.hi.x,s.b.hi.y,s.b.hi.z⟩:Pt)=s.b.hi from rfl] at NY;rw [show (⟨⟨s.b.lo.x,s.b.lo.y,s.b.lo.z⟩,⟨s.b.hi.x,s.b.hi.y,s.b.hi.z⟩⟩:Box)=s.b from rfl] at Sx;have Oy:=Bx.mk Oz;have NX:=Bx.mk NY;have Sw:=Bx.mk Sx;clear Oz NY Sx;have q1:=KS.o.cell 1 rfl;have q2:=KS.o.cell 2 rfl;have q3:=KS.o.cell 3 rfl;have q4:=KS.o.cell 4 rfl;have q5:=KS.o.cell 5 rfl;have q6:=KS.o.cell 6 rfl;have q8:=KS.o.cell 8 rfl;have q9:=KS.o.cell 9 rfl;have UG:=KS.o.cell 10 rfl;have UH:=KS.o.cell 11 rfl;have UI:=KS.o.cell 12 rfl;have UJ:=KS.o.cell 13 rfl;have UK:=KS.o.cell 14 rfl;have UL:=KS.o.cell 15 rfl;rcases (show (decide ((300:Int)<(s.ys.length:Int))=true∧Bx (zE0 n s=false))∨(decide ((300:Int)<(s.ys.length:Int))=false∧Bx (s.ys.length≤300)) from zE2 fun h=>(by unfold zE0;simp [h])) with ⟨t1,G⟩ | ⟨t1,Ht1⟩
    rotate_left
    rcases (show (decide ((20:Int)<(s.cs.length:Int))=true∧Bx (zE0 n s=false))∨(decide ((20:Int)<(s.cs.length:Int))=false∧Bx (s.cs.length≤20)) from zE2 fun h=>(by unfold zE0;simp [h])) with ⟨t2,G⟩ | ⟨t2,Ht2⟩
    rotate_left
    have Sa:=fun W' (hb:Below wr.heap.size wr W')=>zLN s.g.lo.x s.g.lo.y s.g.lo.z s.g.hi.x s.g.hi.y s.g.hi.z s.ga s.gc s.ys Ht1.o W' (BU.o.ys.below hb);rw [show (⟨⟨s.g.lo.x,s.g.lo.y,s.g.lo.z⟩,⟨s.g.hi.x,s.g.hi.y,s.g.hi.z⟩⟩:Box)=s.g from rfl] at Sa;have SZ:=Bx.mk Sa;clear Sa;rcases (show (zN6 s.g s.ys=false∧Bx (zE0 n s=false))∨(zN6 s.g s.ys=true∧Bx (zN6 s.g s.ys=true)) from zE1 fun h=>(by unfold zE0;simp [h])) with ⟨h3,G⟩ | ⟨h3,Hh3⟩
    rotate_left
    rcases (show (okP s.b.lo=false∧Bx (zE0 n s=false))∨(okP s.b.lo=true∧Bx (okP s.b.lo=true)) from zE1 fun h=>(by unfold zE0;simp [h])) with ⟨h4,G⟩ | ⟨h4,Hh4⟩
    rotate_left
    rcases (show (okP s.b.hi=false∧Bx (zE0 n s=false))∨(okP s.b.hi=true∧Bx (okP s.b.hi=true)) from zE1 fun h=>(by unfold zE0;simp [h])) with ⟨h5,G⟩ | ⟨h5,Hh5⟩
    rotate_left
    rcases (show (decide ((5:Int)<(n:Int)+2)=false∧Bx (zE0 n s=true))∨(decide ((5:Int)<(n:Int)+2)=true∧Bx (¬n≤3)) from few_n fun h=>(by unfold zE0;simp [h,Ht1.o,Ht2.o,h3,h4,h5])) with ⟨t6,G⟩ | ⟨t6,Ht6⟩
    rotate_left
    have Sm:=Bx.mk fun W' (_:Below wr.heap.size wr W')=>zLO s.b.lo.x s.b.lo.y s.b.lo.z s.b.hi.x s.b.hi.y s.b.hi.z (zMU h4 h5) W';rw [show (⟨⟨s.b.lo.x,s.b.lo.y,s.b.lo.z⟩,⟨s.b.hi.x,s.b.hi.y,s.b.hi.z⟩⟩:Box)=s.b from rfl] at Sm;rcases (show (decide ((4000:Int)<zAE s.b)=false∧Bx (zE0 n s=true))∨(decide ((4000:Int)<zAE s.b)=true∧Bx (¬zAE s.b≤4000)) from zE3 fun h=>(by unfold zE0;simp [h,Ht1.o,Ht2.o,h3,h4,h5])) with ⟨t7,G⟩ | ⟨t7,Ht7⟩
    rotate_left
    rcases (show (zOL n s.b=true∧Bx (zE0 n s=true))∨(zOL n s.b=false∧Bx (zE0 n s=false)) from zE4 (fun h=>(by unfold zE0;simp [h,Ht1.o,Ht2.o,h3,h4,h5])) (fun h=>(by unfold zE0;simp [h,Ht6.o,Ht7.o]))) with ⟨h8,G⟩ | ⟨h8,Hh8⟩
    all_goals
     go_wp2_with (first | (go_at_call 44;(with_reducible refine (SZ.o _ HB.o).mono ?_);clear SZ;rintro _ w3 ⟨rfl,Jv⟩;have EJ:=Bx.mk (KS.o.la Jv);have A6:=Bx.mk (tr HB.o Jv);clear q1 q2 q3 q4 q5 q6 q8 q9 UG UH UI UJ UK UL;clear KS HB Jv;have KS:=EJ;have HB:=A6;clear EJ A6;have q1:=KS.o.cell 1 rfl;have q2:=KS.o.cell 2 rfl;have q3:=KS.o.cell 3 rfl;have q4:=KS.o.cell 4 rfl;have q5:=KS.o.cell 5 rfl;have q6:=KS.o.cell 6 rfl;have q8:=KS.o.cell 8 rfl;have q9:=KS.o.cell 9 rfl;have UG:=KS.o.cell 10 rfl;have UH:=KS.o.cell 11 rfl;have UI:=KS.o.cell 12 rfl;have UJ:=KS.o.cell 13 rfl;have UK:=KS.o.cell 14 rfl;have UL:=KS.o.cell 15 rfl) | (go_at_call 17;(with_reducible refine (Oy.o _ HB.o).mono ?_);clear Oy;rintro _ w3 ⟨rfl,Jv⟩;have EJ:=Bx.mk (KS.o.la Jv);have A6:=Bx.mk (tr HB.o Jv);clear q1 q2 q3 q4 q5 q6 q8 q9 UG UH UI UJ UK UL;clear KS HB Jv;have KS:=EJ;have HB:=A6;clear EJ A6;have q1:=KS.o.cell 1 rfl;have q2:=KS.o.cell 2 rfl;have q3:=KS.o.cell 3 rfl;have q4:=KS.o.cell 4 rfl;have q5:=KS.o.cell 5 rfl;have q6:=KS.o.cell 6 rfl;have q8:=KS.o.cell 8 rfl;have q9:=KS.o.cell 9 rfl;have UG:=KS.o.cell 10 rfl;have UH:=KS.o.cell 11 rfl;have UI:=KS.o.cell 12 rfl;have UJ:=KS.o.cell 13 rfl;have UK:=KS.o.cell 14 rfl;have UL:=KS.o.cell 15 rfl) | (go_at_call 17;(with_reducible refine (NX.o _ HB.o).mono ?_);clear NX;rintro _ w3 ⟨rfl,Jv⟩;have EJ:=Bx.mk (KS.o.la Jv);have A6:=Bx.mk (tr HB.o Jv);clear q1 q2 q3 q4 q5 q6 q8 q9 UG UH UI UJ UK UL;clear KS HB Jv;have KS:=EJ;have HB:=A6;clear EJ A6;have q1:=KS.o.cell 1 rfl;have q2:=KS.o.cell 2 rfl;have q3:=KS.o.cell 3 rfl;have q4:=KS.o.cell 4 rfl;have q5:=KS.o.cell 5 rfl;have q6:=KS.o.cell 6 rfl;have q8:=KS.o.cell 8 rfl;have q9:=KS.o.cell 9 rfl;have UG:=KS.o.cell 10 rfl;have UH:=KS.o.cell 11 rfl;have UI:=KS.o.cell 12 rfl;have UJ:=KS.o.cell 13 rfl;have UK:=KS.o.cell 14 rfl;have UL:=KS.o.cell 15 rfl) | (go_at_call 45;(with_reducible refine (Sm.o _ HB.o).mono ?_);clear Sm;rintro _ w3 ⟨rfl,Jv⟩;have EJ:=Bx.mk (KS.o.la Jv);have A6:=Bx.mk (tr HB.o Jv);clear q1 q2 q3 q4 q5 q6 q8 q9 UG UH UI UJ UK UL;clear KS HB Jv;have KS:=EJ;have HB:=A6;clear EJ A6;have q1:=KS.o.cell 1 rfl;have q2:=KS.o.cell 2 rfl;have q3:=KS.o.cell 3 rfl;have q4:=KS.o.cell 4 rfl;have q5:=KS.o.cell 5 rfl;have q6:=KS.o.cell 6 rfl;have q8:=KS.o.cell 8 rfl;have q9:=KS.o.cell 9 rfl;have UG:=KS.o.cell 10 rfl;have UH:=KS.o.cell 11 rfl;have UI:=KS.o.cell 12 rfl;have UJ:=KS.o.cell 13 rfl;have UK:=KS.o.cell 14 rfl;have UL:=KS.o.cell 15 rfl) | (go_at_call 46;(with_reducible refine (Sw.o _ HB.o).mono ?_);clear Sw;rintro _ w3 ⟨rfl,Jv⟩;have EJ:=Bx.mk (KS.o.la Jv);have A6:=Bx.mk (tr HB.o Jv);clear q1 q2 q3 q4 q5 q6 q8 q9 UG UH UI UJ UK UL;clear KS HB Jv;have KS:=EJ;have HB:=A6;clear EJ A6;have q1:=KS.o.cell 1 rfl;have q2:=KS.o.cell 2 rfl;have q3:=KS.o.cell 3 rfl;have q4:=KS.o.cell 4 rfl;have q5:=KS.o.cell 5 rfl;have q6:=KS.o.cell 6 rfl;have q8:=KS.o.cell 8 rfl;have q9:=KS.o.cell 9 rfl;have UG:=KS.o.cell 10 rfl;have UH:=KS.o.cell 11 rfl;have UI:=KS.o.cell 12 rfl;have UJ:=KS.o.cell 13 rfl;have UK:=KS.o.cell 14 rfl;have UL:=KS.o.cell 15 rfl))
     first
      | (have HJ : Bx (Below w.heap.size w _ ∧ (L.take (k + 1)).all (zE0 n) = true) := ⟨HI.o.1.trans (HB.o.mono HI.o.1.size), S7.o (by first | exact G.o | exact Hh8.o)⟩
         go_roundw
         case rel=>exact ⟨k+1,by omega,by go_num,HJ⟩
         case measure=>simp [intOf];omega)
      | (go_ret;exact ⟨by rw [KF.o (by first | exact G.o | exact Hh8.o)];rfl,tr HI.o.1 HB.o⟩)
  · obtain rfl:k=m:=by omega
    have t0:decide ((k:Int)<(k:Int))=false:=by simp
    have he:Bx (L.all (zE0 n)=true):=⟨by
     have h:=HI.o.2;rwa [List.take_of_length_le (by have:=HM.o;omega)] at h⟩
    go_wp2_with fail;go_ret;exact ⟨by rw [he.o];rfl,HI.o.1⟩
theorem zEy (a b c d e f dd:Int) (ha:Option Addr) (hcp:Nat) (xs:List Int) (la:Option Addr) (m lc:Nat) (h : ¬(xs.length≤300∧m≤8∧zFd ⟨⟨a,b,c⟩,⟨d,e,f⟩⟩ xs dd=0)) (w:World) (Rn:Sl w .i64 ha xs) :
 Calls Tryz.prog 9 #[.agg #[a,b,c,d,e,f,.slice ha xs.length hcp],dd,.slice la m lc] w fun e' w'=>e' = .returned (.bool false)∧Below w.heap.size w w':=by
 by_cases hl:xs.length≤300
 rotate_left
 · have t1:decide ((300:Int)<(xs.length:Int))=true:=by simp;omega
   generalize xs.length=xl at *;clear h hl Rn;go_enter Tryz.func9,Tryz.ntmps9;go_wp2_with fail;go_ret;exact ⟨rfl,bf⟩
 have t1:decide ((300:Int)<(xs.length:Int))=false:=by simp;omega
 by_cases hm:m≤8
 rotate_left
 · have t2:decide ((8:Int)<(m:Int))=true:=by simp;omega
   generalize xs.length=xl at *;clear h hl Rn hm;go_enter Tryz.func9,Tryz.ntmps9;go_wp2_with fail;go_ret;exact ⟨rfl,bf⟩
 have t2:decide ((8:Int)<(m:Int))=false:=by simp;omega
 have hE:zFd ⟨⟨a,b,c⟩,⟨d,e,f⟩⟩ xs dd ≠ 0:=fun he=>h ⟨hl,hm,he⟩;have LT:=Bx.mk fun W h=>zKs a b c d e f ha hcp xs hl dd W h;have t3:(zFd ⟨⟨a,b,c⟩,⟨d,e,f⟩⟩ xs dd != 0)=true:=bne_iff_ne.2 hE;generalize zFd ⟨⟨a,b,c⟩,⟨d,e,f⟩⟩ xs dd=r at *;have Db:=Bx.mk Rn;generalize xs.length=xl at *;clear h hl Rn hm hE;go_enter Tryz.func9,Tryz.ntmps9;go_upto_region 1 with fail;generalize hW:w.alloc _=W;have hB:=bl1 hW;have kg:Bk W w.heap.size #[a,b,c,d,e,f,.slice ha xl hcp] 28:=bk0 hW;clear hW;obtain ⟨c0,c1,c2,c3,c4,c5,c6⟩:=kg.c7;have HC:=Bx.mk (LT.o W (Db.o.below hB));have A2:=Bx.mk hB;clear kg hB LT;go_wp2_with fail;refine HC.o.mono ?_;rintro _ w2 ⟨rfl,Js⟩;have A4:=Bx.mk (tr A2.o Js);clear Js A2 HC c0 c1 c2 c3 c4 c5 c6;go_wp2_with fail;go_ret;exact ⟨rfl,A4.o⟩
noncomputable def zDN (F:Pt→Int) (m:Nat) (d:Pt) (T:Tr) (c:Pt):Pt→Int :=
 open Classical in fun p=>if Tr.InC m d p then (match T with | .uni k=>k | _=>F ⟨p.x - d.x+c.x,p.y - d.y+c.y,p.z - d.z+c.z⟩) else F p
open Classical in
noncomputable def zAB (N:Nat) (F:Pt→Int) (s:Stp):Option (Pt→Int) :=
 if s.kd=1 then (if 0≤s.cell∧s.cell≤255 then some (zE9 N s.b s.cell F) else none)
 else if s.kd=2 then some (zr N s.g s.ys F)
 else if s.kd=3 then (if ∀ c∈s.cs,zJH N c then some (zAM (pts s.cs) F) else none)
 else if partOK N s.c.x s.c.y s.c.z s.cl∧partOK N s.d.x s.d.y s.d.z s.dl∧zFW (Tr.can F (s.cl.toNat - 2) s.c) s.dl then some (zDN F (s.dl.toNat - 2) s.d (Tr.can F (s.cl.toNat - 2) s.c) s.c) else none
theorem Done.before {Far:Nat→Prop} {sb:Nat} {UA:Int} {ts ts':List Tr} {t:Tr} {w W W':World} {e:Ending} (hb:Below w.heap.size w W) (h:Done Far sb UA ts ts' t W e W'):Done Far sb UA ts ts' t w e W' :=
 ⟨(Keeps.below hb).trans h.keeps,nlt hb.size h.size,h.way⟩
structure PlayR (Far:Nat→Prop) (sb:Nat) (UA:Int) (ts:List Tr) (N:Nat) (F:Pt→Int) (s:Stp) (w:World) (e:Ending) (W':World):Prop where
 yes : ∀ F',zAB N F s=some F'→Done Far sb UA ts (zAv N F' ts) (trF N F') w e W'
 no:zAB N F s=none→e=zLY 0 1∧Below w.heap.size w W'
theorem PlayR.pair {Far:Nat→Prop} {sb:Nat} {UA:Int} {ts:List Tr} {N:Nat} {F:Pt→Int} {s:Stp} {w:World} (e:Ending) (W':World) (h:PlayR Far sb UA ts N F s w e W') : ∃ a b:Int,e=zLY a b:=by
 cases hs:zAB N F s with
 | none=>exact ⟨0,1,(h.no hs).1⟩
 | some F' =>
   rcases (h.yes F' hs).way with ⟨_,h2,_⟩ | ⟨_,h2,_⟩
   · exact ⟨_,_,h2⟩
   · exact ⟨_,_,h2⟩
theorem PlayR.of_some {Far:Nat→Prop} {sb:Nat} {UA:Int} {ts:List Tr} {N:Nat} {F F':Pt→Int} {s:Stp} {w:World} {e:Ending} {W':World} (hs:zAB N F s=some F') (h:Done Far sb UA ts (zAv N F' ts) (trF N F') w e W'):PlayR Far sb UA ts N F s w e W' :=
 ⟨fun F2 h2=>by rw [hs] at h2;obtain rfl:=osi h2;exact h,fun h2=>by rw [hs] at h2;cases h2⟩
theorem PlayR.of_none {Far:Nat→Prop} {sb:Nat} {UA:Int} {ts:List Tr} {N:Nat} {F:Pt→Int} {s:Stp} {w:World} {e:Ending} {W':World} (hs:zAB N F s=none) (h:e=zLY 0 1∧Below w.heap.size w W'):PlayR Far sb UA ts N F s w e W' :=
 ⟨fun F2 h2=>(by rw [hs] at h2;cases h2),fun _=>h⟩
theorem zKQ {N:Nat} (hN:N≤12) (F:Pt→Int) (hF:FnC N F) (s:Stp) (Gt:s.kd=1∨s.kd=2∨s.kd=3) (Mn:zE0 N s=true) (sb:Nat) (UA:Int) (ts:List Tr) (hG:Good ts) (ht:trF N F∈ts) (Od : ∀ F',zAB N F s=some F'→(zAv N F' ts).length≤4000000) (w:World) (QE:StpOk w s) (Far:Nat→Prop) (N0:s.ys ≠ [] → ∀ b,s.ga.map (·.block)=some b→Far b) (IV : ∀ k,Far k→k<w.heap.size) (hS:StoreIs w Far sb UA ts) :
 Calls Tryz.prog 13 #[.pointer (some ⟨sb,0,none⟩),(idn ts N F:Int),((N:Int)+2:Int),.agg s.arr] w (PlayR Far sb UA ts N F s w):=by
 simp only [zE0,Bool.and_eq_true,decide_eq_true_eq] at Mn;obtain ⟨f1,f2,f3,-⟩:=Mn;have Mi : ∀ W,Below w.heap.size w W → ∀ k,Far k→k<W.heap.size:=fun W hb k hk=>nll (IV k hk) hb.size;rcases Gt with hk | hk | hk
 · refine play_1 sb (idn ts N F) ((N:Int)+2) s.kd s.b.lo.x s.b.lo.y s.b.lo.z s.b.hi.x s.b.hi.y s.b.hi.z s.cell _ _ _ _ _ _ _ _ _ _ _ _ _ _ _ _ _ _ _ _ hk w _ PlayR.pair (fun W hb=>?_);by_cases hc:0≤s.cell∧s.cell≤255
   · have hs:zAB N F s=some (zE9 N s.b s.cell F):=by unfold zAB;rw [if_pos hk,if_pos hc]
     have h:=zFU hN sb s.b.lo.x s.b.lo.y s.b.lo.z s.b.hi.x s.b.hi.y s.b.hi.z s.cell hc UA F hF.range (zFA hF hc).range W Far ts hG ht (Od _ hs) (Mi W hb) (hS.la hb);exact Calls.mono h fun e W' hd=>.of_some hs (hd.before hb)
   · have hs:zAB N F s=none:=by unfold zAB;rw [if_pos hk,if_neg hc]
     exact Calls.mono (zFV sb _ _ _ _ _ _ _ _ s.cell hc W) fun e W' hd=>.of_none hs ⟨hd.1,tr hb hd.2⟩
 · refine play_2 sb (idn ts N F) ((N:Int)+2) s.kd _ _ _ _ _ _ _ s.g.lo.x s.g.lo.y s.g.lo.z s.g.hi.x s.g.hi.y s.g.hi.z s.ga s.ys.length s.gc _ _ _ _ _ _ _ _ _ _ _ hk w _ PlayR.pair (fun W hb=>?_);have hs:zAB N F s=some (zr N s.g s.ys F):=by unfold zAB;rw [if_neg (by omega),if_pos hk]
   have HX:=zFl (hcp:=s.gc) f3 f1 QE.yc;have h:=zNd hN sb s.g.lo.x s.g.lo.y s.g.lo.z s.g.hi.x s.g.hi.y s.g.hi.z s.ga s.gc s.ys HX.small HX.len (by omega) QE.yc UA F hF.range (zJ9 HX hF).range W (QE.ys.below hb) Far N0 ts hG ht (Od _ hs) (Mi W hb) (hS.la hb)
   exact Calls.mono h fun e W' hd=>.of_some hs (hd.before hb)
 · refine play_3 sb (idn ts N F) ((N:Int)+2) s.kd _ _ _ _ _ _ _ _ _ _ _ _ _ _ _ _ s.la s.cs.length s.lc _ _ _ _ _ _ _ _ hk w _ PlayR.pair (fun W hb=>?_);by_cases hc : ∀ c∈s.cs,zJH N c
   · have hs:zAB N F s=some (zAM (pts s.cs) F):=by unfold zAB;rw [if_neg (by omega),if_neg (by omega),if_pos hk,if_pos hc]
     have h:=zNu hN sb s.la s.lc s.cs (by omega) QE.cc UA F hF.range W (QE.cs.below hb) Far ts hG ht (fun _=>⟨(zOs (l:=pts s.cs) (fun x hx=>by
      obtain ⟨c,Ld,rfl⟩:=List.mem_map.1 hx;exact hc c Ld) hF).range,Od _ hs⟩) (Mi W hb) (hS.la hb)
     exact Calls.mono h fun e W' hd=>.of_some hs ((hd.ok hc).before hb)
   · have hs:zAB N F s=none:=by unfold zAB;rw [if_neg (by omega),if_neg (by omega),if_pos hk,if_neg hc]
     have h:=zNu hN sb s.la s.lc s.cs (by omega) QE.cc UA F hF.range W (QE.cs.below hb) Far ts hG ht (fun h=>absurd h hc) (Mi W hb) (hS.la hb)
     exact Calls.mono h fun e W' hd=>.of_none hs ⟨(hd.bad hc).1,hb.trans ((hd.bad hc).2.mono hb.size)⟩
structure TellR (N:Nat) (F:Pt→Int) (s:Stp) (w:World) (e:Ending) (W':World):Prop where
 bel:Below w.heap.size w W'
 yes : ∀ F',zAB N F s=some F'→e = .returned (.tuple #[.string (txt N F'),(0:Int)])
 no:zAB N F s=none→e = .returned (.tuple #[.string ByteArray.empty,(1:Int)])
theorem TellR.pair {N:Nat} {F:Pt→Int} {s:Stp} {w:World} (e:Ending) (W':World) (h:TellR N F s w e W') : ∃ (S:ByteArray) (b:Int),e = .returned (.tuple #[.string S,b]):=by
 cases hs:zAB N F s with
 | none=>exact ⟨_,_,h.no hs⟩
 | some F'=>exact ⟨_,_,h.yes F' hs⟩
theorem TellR.of_some {N:Nat} {F F':Pt→Int} {s:Stp} {w:World} {e:Ending} {W':World} (hs:zAB N F s=some F') (hb:Below w.heap.size w W') (h:e = .returned (.tuple #[.string (txt N F'),(0:Int)])):TellR N F s w e W' :=
 ⟨hb,fun F2 h2=>(by rw [hs] at h2;obtain rfl:=osi h2;exact h),fun h2=>(by rw [hs] at h2;cases h2)⟩
theorem TellR.of_none {N:Nat} {F:Pt→Int} {s:Stp} {w:World} {e:Ending} {W':World} (hs:zAB N F s=none) (hb:Below w.heap.size w W') (h:e = .returned (.tuple #[.string ByteArray.empty,(1:Int)])):TellR N F s w e W' :=
 ⟨hb,fun F2 h2=>(by rw [hs] at h2;cases h2),fun _=>h⟩
theorem zNV {N:Nat} (hN:N≤12) (F:Pt→Int) (hF:FnC N F) (s:Stp) (Gt:s.kd=1∨s.kd=2∨s.kd=3) (Mn:zE0 N s=true) (w:World) (QE:StpOk w s) :
 Calls Tryz.prog 14 #[.string (txt N F),((N:Int)+2:Int),.agg s.arr] w (TellR N F s w):=by
 simp only [zE0,Bool.and_eq_true,decide_eq_true_eq] at Mn;obtain ⟨f1,f2,f3,-⟩:=Mn;rcases Gt with hk | hk | hk
 · refine told_1 (txt N F) ((N:Int)+2) s.kd s.b.lo.x s.b.lo.y s.b.lo.z s.b.hi.x s.b.hi.y s.b.hi.z s.cell _ _ _ _ _ _ _ _ _ _ _ _ _ _ _ _ _ _ _ _ hk w _ TellR.pair (fun W hb=>?_);by_cases hc:0≤s.cell∧s.cell≤255
   · have hs:zAB N F s=some (zE9 N s.b s.cell F):=by unfold zAB;rw [if_pos hk,if_pos hc]
     have h:=zE5 hN s.b.lo.x s.b.lo.y s.b.lo.z s.b.hi.x s.b.hi.y s.b.hi.z s.cell hc F hF.range (zFA hF hc).range W;exact Calls.mono h fun e W' hd=>.of_some hs (tr hb hd.2) hd.1
   · have hs:zAB N F s=none:=by unfold zAB;rw [if_pos hk,if_neg hc]
     exact Calls.mono (zE6 _ _ _ _ _ _ _ _ s.cell hc W) fun e W' hd=>.of_none hs (tr hb hd.2) hd.1
 · have hs:zAB N F s=some (zr N s.g s.ys F):=by unfold zAB;rw [if_neg (by omega),if_pos hk]
   have HX:=zFl (hcp:=s.gc) f3 f1 QE.yc;refine told_2 (txt N F) ((N:Int)+2) s.kd _ _ _ _ _ _ _ s.g.lo.x s.g.lo.y s.g.lo.z s.g.hi.x s.g.hi.y s.g.hi.z s.ga s.ys.length s.gc _ _ _ _ _ _ _ _ _ _ _ hk w _ (txt N (zr N s.g s.ys F)) (fun W hb=>?_);have h:=zJ8 hN s.g.lo.x s.g.lo.y s.g.lo.z s.g.hi.x s.g.hi.y s.g.hi.z s.ga s.gc s.ys HX F hF.range (zJ9 HX hF).range W (QE.ys.below hb);exact Calls.mono h fun e W' hd=>⟨hd.1,.of_some hs (tr hb hd.2) rfl⟩
 · refine told_3 (txt N F) ((N:Int)+2) s.kd _ _ _ _ _ _ _ _ _ _ _ _ _ _ _ _ s.la s.cs.length s.lc _ _ _ _ _ _ _ _ hk w _ TellR.pair (fun W hb=>?_);have h:=zOq hN s.la s.lc s.cs (by omega) QE.cc F hF.range W (QE.cs.below hb)
   by_cases hc : ∀ c∈s.cs,zJH N c
   · have hs:zAB N F s=some (zAM (pts s.cs) F):=by unfold zAB;rw [if_neg (by omega),if_neg (by omega),if_pos hk,if_pos hc]
     exact Calls.mono h fun e W' hd=>.of_some hs (tr hb hd.bel) (hd.ok hc)
   · have hs:zAB N F s=none:=by unfold zAB;rw [if_neg (by omega),if_neg (by omega),if_pos hk,if_neg hc]
     exact Calls.mono h fun e W' hd=>.of_none hs (tr hb hd.bel) (hd.bad hc)
end
section
open Go.RowKit
open Oct
theorem zED {n:Nat} {t:Tr} (h:Dep n t) (hk:zi t ≠ 1):zEB t=(n:Int)+2:=by
 cases h with
 | uni n c=>exact absurd rfl hk
 | brick l=>rfl
 | node n ch _=>show ((n+3:Nat):Int)=_;omega
theorem zDO {F:Pt→Int} {m:Nat} {d c:Pt} {T:Tr} {p:Pt} (h : ¬Tr.InC m d p):zDN F m d T c p=F p:=by
 unfold zDN;rw [if_neg h]
theorem zDP {F:Pt→Int} (hF : ∀ p,0≤F p∧F p≤255) {m n:Nat} (hn:n≤200) {d c a:Pt} (p:Pt):0≤zDN F m d (Tr.can F n a) c p∧zDN F m d (Tr.can F n a) c p≤255:=by
 unfold zDN;split
 · have hw:=zAF hF n a;cases hT:Tr.can F n a with
   | uni k =>
     have h:=hw hn;rw [hT] at h;exact h
   | brick l=>exact hF _
   | node d ch=>exact hF _
 · exact hF p
theorem zDQ {F:Pt→Int} {m n:Nat} {d c:Pt} (hd:Tr.Al m d) (hf:zFW (Tr.can F n c) ((m:Int)+2)):Tr.can (zDN F m d (Tr.can F n c) c) m d=Tr.can F n c:=by
 by_cases hk:zi (Tr.can F n c)=1
 · obtain ⟨k,hT⟩ : ∃ k,Tr.can F n c = .uni k:=by
    cases hT:Tr.can F n c with
    | uni k=>exact ⟨k,rfl⟩
    | brick l=>rw [hT] at hk;simp [zi] at hk
    | node d ch=>rw [hT] at hk;simp [zi] at hk
   rw [hT];exact zB8 m d _ hd fun p hp=>by unfold zDN;rw [if_pos hp]
 · have hdv:=zED (zQ F n c) hk
   have PX:m=n:=by
    rcases hf with h | h
    · exact absurd h hk
    · omega
   subst PX;have Rj:=zB6 ⟨c.x - d.x,c.y - d.y,c.z - d.z⟩ F m d;rw [show (⟨c.x - d.x+d.x,c.y - d.y+d.y,c.z - d.z+d.z⟩:Pt)=c by cases c;simp] at Rj
   rw [←Rj];refine Tr.can_congr m d hd fun p hp=>?_;unfold zDN;rw [if_pos hp,Rj];cases hT:Tr.can F m c with
   | uni k=>rw [hT] at hk;exact absurd rfl hk
   | brick l =>
     show F _=shf _ F p
     unfold shf
     congr 1
     simp only [Pt.mk.injEq];omega
   | node d' ch =>
     show F _=shf _ F p
     unfold shf
     congr 1
     simp only [Pt.mk.injEq];omega
end
section
open Go.RowKit Go.Sort Go.Maps
open Oct
theorem zKR {N:Nat} (hN:N≤12) (F:Pt→Int) (hF:FnC N F) (s:Stp) (hk:s.kd ≠ 1∧s.kd ≠ 2∧s.kd ≠ 3) (sb:Nat) (UA:Int) (ts:List Tr) (hG:Good ts) (OS:ts.length≤4000000) (ht:trF N F∈ts) (Od : ∀ F',zAB N F s=some F'→(zAv N F' ts).length≤4000000) (w:World) (Far:Nat→Prop) (IV : ∀ k,Far k→k<w.heap.size) (hS:StoreIs w Far sb UA ts) :
 Calls Tryz.prog 13 #[.pointer (some ⟨sb,0,none⟩),(idn ts N F:Int),((N:Int)+2:Int),.agg s.arr] w (PlayR Far sb UA ts N F s w):=by
 have Gt : ¬s.kd=1 ∧ ¬s.kd=2 ∧ ¬s.kd=3:=hk;refine play_4 sb (idn ts N F) ((N:Int)+2) s.kd _ _ _ _ _ _ _ _ _ _ _ _ _ _ _ _ _ _ _ s.c.x s.c.y s.c.z s.cl s.d.x s.d.y s.d.z s.dl hk w _ PlayR.pair (fun W hb=>?_);by_cases hp:partOK N s.c.x s.c.y s.c.z s.cl
 rotate_left
 · have hs:zAB N F s=none:=by unfold zAB;rw [if_neg Gt.1,if_neg Gt.2.1,if_neg Gt.2.2,if_neg (fun h=>hp h.1)]
   exact Calls.mono (zJ3 W sb N hN (idn ts N F) _ _ _ _ hp) fun e W' hd=>⟨hd.2,.inl ⟨hd.1,.of_none hs ⟨hd.1,tr hb hd.2⟩⟩⟩
 obtain ⟨p1,p2,p3,p4⟩:=hp;have hp:partOK N s.c.x s.c.y s.c.z s.cl:=⟨p1,p2,p3,p4⟩;obtain ⟨L,hL⟩ : ∃ L:Nat,s.cl=(L:Int):=⟨s.cl.toNat,by omega⟩
 have It:s.cl.toNat=L:=by omega
 rw [It] at p4;have hT:zJv (trF N F) N L s.c=Tr.can F (L - 2) s.c:=zJw F N L ⟨0,0,0⟩ s.c (zA3 N) (zGV p1) (by omega) (by omega) (zA0.1 p4)
 have JL:Tr.can F (L - 2) s.c∈ts:=by rw [←hT];exact zJx hG L s.c N _ ht (zQ F N _)
 have Ql:=zJ7 W sb N L hN (by omega) (by omega) s.c.x s.c.y s.c.z p1 p4 Far UA ts (trF N F) ht (zQ F N _) hG (by omega) (hS.la hb)
 rw [show (⟨s.c.x,s.c.y,s.c.z⟩:Pt)=s.c from rfl,hT,←hL] at Ql;refine Calls.mono Ql fun e W1 hd=>⟨hd.2,.inr ⟨_,hd.1,?_⟩⟩;have Jr:=tr hb hd.2;by_cases hq:partOK N s.d.x s.d.y s.d.z s.dl
 rotate_left
 · have hs:zAB N F s=none:=by unfold zAB;rw [if_neg Gt.1,if_neg Gt.2.1,if_neg Gt.2.2,if_neg (fun h=>hq h.2.1)]
   exact Calls.mono (zNP sb N hN (idn ts N F) _ _ _ _ _ hq W1) fun e W' hg=>.of_none hs ⟨hg.1,tr Jr hg.2⟩
 have q2:=hq.2.1;obtain ⟨m,hm⟩ : ∃ m:Nat,s.dl=((m+2:Nat):Int):=⟨s.dl.toNat - 2,by omega⟩
 have PX:s.dl.toNat - 2=m:=by omega
 have Qx:=hq;rw [hm] at Qx;have hin:=Qx.inT
 have S4:zFW (Tr.can F (L - 2) s.c) ((m+2:Nat):Int)→zAB N F s=some (zDN F m s.d (Tr.can F (L - 2) s.c) s.c):=fun hf=>by
  unfold zAB;rw [if_neg Gt.1,if_neg Gt.2.1,if_neg Gt.2.2,It,PX,if_pos ⟨hp,hq,by rw [hm];exact hf⟩]
 have hg:=zNO hN sb m s.d Qx UA F (zDN F m s.d (Tr.can F (L - 2) s.c) s.c) hF.range W1 Far ts hG (Tr.can F (L - 2) s.c) JL ht OS (fun hf=>⟨zDQ hin.al (by rw [show ((m+2:Nat):Int)=(m:Int)+2 by omega] at hf;exact hf),fun p hp=>zDO hp,zDP hF.range (by omega),Od _ (S4 hf)⟩) (fun k hk=>Nat.lt_of_lt_of_le (IV k hk) Jr.size) (hS.la Jr)
 rw [show zO s.d.x s.d.y s.d.z ((m+2:Nat):Int) = .agg #[s.d.x,s.d.y,s.d.z,s.dl] by rw [hm]] at hg
 refine Calls.mono hg fun e W' NF=>?_;by_cases hf:zFW (Tr.can F (L - 2) s.c) ((m+2:Nat):Int)
 · exact .of_some (S4 hf) ((NF.ok hf).before Jr)
 · have hs:zAB N F s=none:=by
    unfold zAB;rw [if_neg Gt.1,if_neg Gt.2.1,if_neg Gt.2.2,It,if_neg (fun h=>hf (by rw [←hm];exact h.2.2))]
   obtain ⟨g1,g2⟩:=NF.bad hf;exact .of_none hs ⟨g1,tr Jr g2⟩
theorem zNW {N:Nat} (hN:N≤12) (F:Pt→Int) (hF:FnC N F) (s:Stp) (hk:s.kd ≠ 1∧s.kd ≠ 2∧s.kd ≠ 3) (w:World) :
 Calls Tryz.prog 14 #[.string (txt N F),((N:Int)+2:Int),.agg s.arr] w (TellR N F s w):=by
 have Gt : ¬s.kd=1 ∧ ¬s.kd=2 ∧ ¬s.kd=3:=hk;refine told_4 (txt N F) ((N:Int)+2) s.kd _ _ _ _ _ _ _ _ _ _ _ _ _ _ _ _ _ _ _ s.c.x s.c.y s.c.z s.cl s.d.x s.d.y s.d.z s.dl hk w _ TellR.pair (fun W hb=>?_);by_cases hp:partOK N s.c.x s.c.y s.c.z s.cl
 rotate_left
 · have hs:zAB N F s=none:=by unfold zAB;rw [if_neg Gt.1,if_neg Gt.2.1,if_neg Gt.2.2,if_neg (fun h=>hp h.1)]
   exact Calls.mono (zAW N hN F _ _ _ _ hp W) fun e W' hd=>⟨hd.2,.inl ⟨hd.1,.of_none hs (tr hb hd.2) hd.1⟩⟩
 obtain ⟨p1,p2,p3,p4⟩:=hp;have hp:partOK N s.c.x s.c.y s.c.z s.cl:=⟨p1,p2,p3,p4⟩;obtain ⟨L,hL⟩ : ∃ L:Nat,s.cl=(L:Int):=⟨s.cl.toNat,by omega⟩
 have It:s.cl.toNat=L:=by omega
 rw [It] at p4;have hT:zJv (trF N F) N L s.c=Tr.can F (L - 2) s.c:=zJw F N L ⟨0,0,0⟩ s.c (zA3 N) (zGV p1) (by omega) (by omega) (zA0.1 p4)
 have Ql:=zAa N L hN (by omega) (by omega) F hF.range s.c.x s.c.y s.c.z p1 p4 W
 rw [show (⟨s.c.x,s.c.y,s.c.z⟩:Pt)=s.c from rfl,hT,←hL] at Ql;refine Calls.mono Ql fun e W1 hd=>⟨hd.2,.inr ⟨_,hd.1,?_⟩⟩;have Jr:=tr hb hd.2;by_cases hq:partOK N s.d.x s.d.y s.d.z s.dl
 rotate_left
 · have hs:zAB N F s=none:=by unfold zAB;rw [if_neg Gt.1,if_neg Gt.2.1,if_neg Gt.2.2,if_neg (fun h=>hq h.2.1)]
   exact Calls.mono (zFt N hN F _ _ _ _ _ hq W1) fun e W' hg=>.of_none hs (tr Jr hg.2) hg.1
 have q2:=hq.2.1;obtain ⟨m,hm⟩ : ∃ m:Nat,s.dl=((m+2:Nat):Int):=⟨s.dl.toNat - 2,by omega⟩
 have PX:s.dl.toNat - 2=m:=by omega
 have Qx:=hq;rw [hm] at Qx;have hin:=Qx.inT
 have S4:zFW (Tr.can F (L - 2) s.c) ((m+2:Nat):Int)→zAB N F s=some (zDN F m s.d (Tr.can F (L - 2) s.c) s.c):=fun hf=>by
  unfold zAB;rw [if_neg Gt.1,if_neg Gt.2.1,if_neg Gt.2.2,It,PX,if_pos ⟨hp,hq,by rw [hm];exact hf⟩]
 have hg:=zFs hN m s.d Qx (Tr.can F (L - 2) s.c) (zAF hF.range _ _ (by omega)) F (zDN F m s.d (Tr.can F (L - 2) s.c) s.c) hF.range (fun hf=>⟨zDQ hin.al (by rw [show ((m+2:Nat):Int)=(m:Int)+2 by omega] at hf;exact hf),fun p hp=>zDO hp,zDP hF.range (by omega)⟩) W1
 rw [show zO s.d.x s.d.y s.d.z ((m+2:Nat):Int) = .agg #[s.d.x,s.d.y,s.d.z,s.dl] by rw [hm]] at hg
 refine Calls.mono hg fun e W' NF=>?_;by_cases hf:zFW (Tr.can F (L - 2) s.c) ((m+2:Nat):Int)
 · exact .of_some (S4 hf) (tr Jr NF.bel) (NF.ok hf)
 · have hs:zAB N F s=none:=by
    unfold zAB;rw [if_neg Gt.1,if_neg Gt.2.1,if_neg Gt.2.2,It,if_neg (fun h=>hf (by rw [←hm];exact h.2.2))]
   exact .of_none hs (tr Jr NF.bel) (NF.bad hf)
theorem zNU {N:Nat} (hN:N≤12) (F:Pt→Int) (hF:FnC N F) (s:Stp) (Mn:zE0 N s=true) (w:World) (QE:StpOk w s) :
 Calls Tryz.prog 14 #[.string (txt N F),((N:Int)+2:Int),.agg s.arr] w (TellR N F s w):=by
 by_cases h:s.kd=1∨s.kd=2∨s.kd=3
 · exact zNV hN F hF s h Mn w QE
 · exact zNW hN F hF s (by omega) w
theorem zKP {N:Nat} (hN:N≤12) (F:Pt→Int) (hF:FnC N F) (s:Stp) (Mn:zE0 N s=true) (sb:Nat) (UA:Int) (ts:List Tr) (hG:Good ts) (OS:ts.length≤4000000) (ht:trF N F∈ts) (Od : ∀ F',zAB N F s=some F'→(zAv N F' ts).length≤4000000) (w:World) (QE:StpOk w s) (Far:Nat→Prop) (N0:s.ys ≠ [] → ∀ b,s.ga.map (·.block)=some b→Far b) (IV : ∀ k,Far k→k<w.heap.size) (hS:StoreIs w Far sb UA ts) :
 Calls Tryz.prog 13 #[.pointer (some ⟨sb,0,none⟩),(idn ts N F:Int),((N:Int)+2:Int),.agg s.arr] w (PlayR Far sb UA ts N F s w):=by
 by_cases h:s.kd=1∨s.kd=2∨s.kd=3
 · exact zKQ hN F hF s h Mn sb UA ts hG ht Od w QE Far N0 IV hS
 · exact zKR hN F hF s (by omega) sb UA ts hG OS ht Od w Far IV hS
end
section
open Go.RowKit
open Oct
theorem zON {N:Nat} {b:Box} {c:Int} {F:Pt→Int} (h:zOL N b=true):trF N (zE9 N b c F) = .uni c:=by
 have hp:=Tr.pow_pos2 N;have he:zS (zN (2 ^ (N+2)))=false:=zT.2 ⟨by simp only [zN,Pt.zero];omega,by simp only [zN,Pt.zero];omega,by simp only [zN,Pt.zero];omega⟩
 unfold zOL at h;rw [zN9 he,decide_eq_true_eq] at h;refine zFN (InT.top N) ?_;have Lw:zM N ⟨0,0,0⟩=zN (2 ^ (N+2)):=by unfold zM zN Pt.zero;simp
 rw [Lw];unfold zL;rw [h];simp
theorem zMo {N:Nat} (hN:N≤12) {F F':Pt→Int} (hF:FnC N F) {s:Stp} (Mn:zE0 N s=true) (hs:zAB N F s=some F') :
 FnC N F' ∧ ∀ ts:List Tr,Good ts→trF N F∈ts→(zAv N F' ts).length≤ts.length+52000:=by
 simp only [zE0,Bool.and_eq_true,Bool.or_eq_true,decide_eq_true_eq] at Mn;obtain ⟨f1,f2,f3,-,-,f6⟩:=Mn;unfold zAB at hs;split at hs
 · split at hs
   · rename_i hc;obtain rfl:=osi hs;refine ⟨zFA hF hc,fun ts hG ht=>?_⟩;rcases f6 with h | h | h
     · exact nlt (zBG h _ ts) (by omega)
     · exact zFO hN hF hc hG ht h
     · unfold zAv;rw [zON h,Tr.add_uni];have:=zGr (.uni s.cell) ts;omega
   · cases hs
 · split at hs
   · obtain rfl:=osi hs;have HX:=zFl (hcp:=s.ys.length) f3 f1 nlr;exact ⟨zJ9 HX hF,fun ts hG ht=>nlt (zKH HX hN hF hG ht) (by omega)⟩
   · split at hs
     · split at hs
       · rename_i hc;obtain rfl:=osi hs
         have hl : ∀ x∈pts s.cs,inB x.1 (zOI N)=true∧0≤x.2∧x.2≤255:=fun x hx=>by
          obtain ⟨c,Ld,rfl⟩:=List.mem_map.1 hx;exact hc c Ld
         refine ⟨zOs hl hF,fun ts hG ht=>?_⟩;have h:=zOx hN hl hF hG ht;rw [List.length_map] at h;unfold zAv;omega
       · cases hs
     · split at hs
       · rename_i hc;obtain ⟨hp,hq,hf⟩:=hc;obtain rfl:=osi hs;obtain ⟨p1,p2,p3,p4⟩:=hp;have q2:=hq.2.1;have q3:=hq.2.2.1;obtain ⟨m,hm⟩ : ∃ m:Nat,s.dl=((m+2:Nat):Int):=⟨s.dl.toNat - 2,by omega⟩
         have PX:s.dl.toNat - 2=m:=by omega
         have Qx:=hq;rw [hm] at Qx hf;have hin:=Qx.inT;rw [PX];have Lj:Tr.can (zDN F m s.d (Tr.can F (s.cl.toNat - 2) s.c) s.c) m s.d=Tr.can F (s.cl.toNat - 2) s.c:=zDQ hin.al (by rw [show ((m+2:Nat):Int)=(m:Int)+2 by omega] at hf;exact hf)
         refine ⟨⟨zDP hF.range (by omega),fun p hp=>?_⟩,fun ts hG ht=>?_⟩
         · rw [zDO (fun h=>by have:=hin.whole h;rw [this] at hp;cases hp)]
           exact hF.o p hp
         · have hT:zJv (trF N F) N s.cl.toNat s.c=Tr.can F (s.cl.toNat - 2) s.c:=zJw F N s.cl.toNat ⟨0,0,0⟩ s.c (zA3 N) (zGV p1) (by omega) (by omega) (zA0.1 p4)
           have JL:Tr.can F (s.cl.toNat - 2) s.c∈ts:=by rw [←hT];exact zJx hG _ s.c N _ ht (zQ F N _)
           have h:=zFx (f:=F) (zDP (d:=s.d) (c:=s.c) (a:=s.c) (m:=m) hF.range (show s.cl.toNat - 2≤200 by omega)) m s.d hin.al hG (by rw [Lj];exact JL) (fun p hp=>zDO hp) N ⟨0,0,0⟩ (by omega) hin.le (zA3 N) (zGV hq.1) ht
           unfold zAv;exact nlt h (by omega)
       · cases hs
theorem zHZ {F:Pt→Int} : ∀ (n:Nat) (a:Pt),Tr.Al n a → ∀ x∈zl n a (Tr.can F n a),Tr.Al x.2.1 x.1∧x.2.2=Tr.can F x.2.1 x.1:=by
 intro n
 induction n with
 | zero =>
   intro a ha x hx;have h:zl 0 a (Tr.can F 0 a)=[(a,0,Tr.can F 0 a)]:=by cases Tr.can F 0 a <;> rfl
   rw [h,List.mem_singleton] at hx;subst hx;exact ⟨ha,rfl⟩
 | succ n ih =>
   intro a ha x hx;cases hT:Tr.can F (n+1) a with
   | uni c =>
     rw [hT,zm,List.mem_singleton] at hx;subst hx;exact ⟨ha,hT.symm⟩
   | brick l =>
     rw [hT,zHj,List.mem_singleton] at hx;subst hx;exact ⟨ha,hT.symm⟩
   | node d ch =>
     rw [hT] at hx;unfold zl at hx;obtain ⟨i,-,hi⟩:=List.mem_flatMap.1 hx
     have hk:ch i=Tr.can F n (Tr.cor a n i.val):=by
      have h1:=Tr.mkInner_kid (n+3) (fun i=>Tr.can F n (Tr.cor a n i.val)) i;rw [←h1,←(show Tr.can F (n+1) a=Tr.mkInner (n+3) (fun i=>Tr.can F n (Tr.cor a n i.val)) from rfl),hT];rfl
     rw [hk] at hi;exact ih _ (Tr.al_cor ha _) x hi
def zAT (x:Pt × Nat × Tr):Prop:=(∃ d,x.2.2 = .uni d∧0≤d∧d≤255)∨(x.2.1=0 ∧ ∃ l,x.2.2 = .brick l∧l.length=64 ∧ ∀ y∈l,0≤y∧y≤255)
theorem zHn {N:Nat} {F:Pt→Int} (hF : ∀ p,0≤F p∧F p≤255) : ∀ x∈zl N ⟨0,0,0⟩ (trF N F),zAT x:=by
 intro x hx;have hc:=(zHZ N ⟨0,0,0⟩ (zA3 N) x hx).2
 have OL : ∀ (n:Nat) (a:Pt) (T:Tr),Dep n T → ∀ x∈zl n a T,(∃ d,x.2.2 = .uni d)∨(x.2.1=0 ∧ ∃ l,x.2.2 = .brick l):=by
  intro n
  induction n with
  | zero =>
    intro a T hD x hx;cases hD with
    | uni _ c=>rw [zm,List.mem_singleton] at hx;subst hx;exact .inl ⟨c,rfl⟩
    | brick l=>rw [zHj,List.mem_singleton] at hx;subst hx;exact .inr ⟨rfl,l,rfl⟩
  | succ n ih =>
    intro a T hD x hx;cases hD with
    | uni _ c=>rw [zm,List.mem_singleton] at hx;subst hx;exact .inl ⟨c,rfl⟩
    | node _ ch h =>
      unfold zl at hx;obtain ⟨i,-,hi⟩:=List.mem_flatMap.1 hx;exact ih _ (ch i) (h i) x hi
 rcases OL N ⟨0,0,0⟩ (trF N F) (zQ F N _) x hx with ⟨d,hd⟩ | ⟨h0,l,hl⟩
 · refine .inl ⟨d,hd,?_⟩;have h1:=Tr.get_can F x.2.1 x.1 x.1 (zHZ N ⟨0,0,0⟩ (zA3 N) x hx).1 ⟨rfl,rfl,rfl⟩;rw [←hc,hd] at h1;have h2:Tr.getT (.uni d) x.2.1 x.1=d:=by cases x.2.1 <;> rfl
   rw [h2] at h1;rw [h1];exact hF _
 · refine .inr ⟨h0,l,hl,?_⟩;have h1:Tr.can F 0 x.1 = .brick l:=by rw [←hl,hc,h0]
   have h2:=Tr.cells_mkBrick (Tr.can_cells_length F x.1);rw [show Tr.mkBrick ((List.range 64).map fun k=>F (Tr.cellAt x.1 k))=Tr.can F 0 x.1 from rfl,h1] at h2;have h3:l=(List.range 64).map fun k=>F (Tr.cellAt x.1 k):=h2;rw [h3];refine ⟨by simp,fun y hy=>?_⟩
   obtain ⟨k,-,rfl⟩:=List.mem_map.1 hy;exact hF _
end
section
open Go.RowKit Go.Sort Go.Maps
open Oct
theorem zFS {AL:List Value} {k:Nat} (hk:0<k) (hl:AL.length=k) (cells:Array Value) (hc:cells.size=k):Instr.fill (fun i=>some (i * k,k)) cells [(0,.agg AL.toArray)]=some AL.toArray:=by
 obtain ⟨r,h1,h2,h3⟩:=Go.Great.fill_dense hk [.agg AL.toArray] 0 cells (fun v hv=>by
  rw [List.mem_singleton] at hv;subst hv
  show AL.toArray.size=k
  simpa using hl) (by simp;omega)
 have e:(([.agg AL.toArray]:List Value).zipIdx 0).map (fun x=>(x.2,x.1))=[(0,.agg AL.toArray)]:=rfl;rw [e] at h1;rw [h1]
 congr 1
 apply Array.ext_getElem?;intro j;rw [h3 j];rcases Nat.lt_or_ge j k with h | h
 · rw [if_pos (by simp;omega)]
   have hd:j / k - 0=0:=by rw [Nat.div_eq_of_lt h]
   rw [hd,Nat.mod_eq_of_lt h];rfl
 · rw [if_neg (by simp;omega),Array.getElem?_eq_none (by omega),Array.getElem?_eq_none (by simp;omega)]
theorem zOa {P:Program} {ops:Array Oper} {rest:List Oper} {o:Oper} {a:Act} {w:World} {Q:Exit→Act→World→Prop} (hg:o.guard=none) (t e:TypeId) (x:Operand) (ho:o.op = .buildSlice t 1 #[(0,x)]) (AL:List Value) (hx:a.eval x = .agg AL.toArray)
 (hu:P.underlying t=some (.slice e)) (hi:(P.info? e).map (·.size)=some AL.length) (hz:((P.info? e).bind (·.zero)).isSome=true) (Qn:0<AL.length) (Rv:AL.length≤1000)
 (h:wpList P ops Q rest (a.put o.dst (.slice (some ⟨w.heap.size,0,none⟩) 1 1)) (w.alloc (.cells AL.toArray e))):wpList P ops Q (o::rest) a w:=by
 cases hie:P.info? e with
 | none=>simp [hie] at hi
 | some ie =>
   simp only [hie,Option.map_some,Option.some.injEq,Option.bind_some] at hi hz;obtain ⟨z,hzz⟩:=Option.isSome_iff_exists.1 hz;refine wpList_buildSlice hg t e 1 _ ho _ ie z hu hie hzz (by rw [hi];omega) (by rw [hi];omega) ?_ h
   have hp:(#[((0:Nat),x)].map fun (i,x)=>(i,a.eval x)).toList=[((0:Nat),Value.agg AL.toArray)]:=by simp [hx]
   rw [hp,hi];exact zFS Qn rfl _ (by simp)
def DRow (B:Nat) (L:List (Pt × Nat)) (v:Value) (w:World):Prop:=w.ownsRow B 39 4 v L.length (zP L)
theorem DRow.la {B:Nat} {L:List (Pt × Nat)} {v:Value} {w w':World} (h:DRow B L v w) (hb:Below w.heap.size w w'):DRow B L v w':=zJi h hb
theorem zD8 (L:List (Pt × Nat)) : ∀ y∈zP L,y.oneCell'=true:=by
 intro y hy;obtain ⟨x,_,hx⟩:=List.mem_flatMap.1 hy;unfold zD6 at hx;simp only [List.mem_cons,List.not_mem_nil,or_false] at hx;rcases hx with rfl | rfl | rfl | rfl <;> rfl
theorem zD7 (L M:List (Pt × Nat)):zP (L++M)=zP L++zP M:=List.flatMap_append
theorem zD5 (S:ByteArray) (a:Pt) (H:Int) (w:World) :
 Calls Tryz.prog 71 #[.string S,.string S,.agg #[a.x,a.y,a.z],H] w fun e w' => ∃ v,e = .returned v∧w'.ownsRow w.heap.size 39 4 v (([]:List (Pt × Nat))).length (zP (([]:List (Pt × Nat))))∧Below w.heap.size w w':=by
 have Mc:(S.toList == S.toList)=true:=(zMz S S).2 rfl;go_enter Tryz.func71,Tryz.ntmps71;go_wp2_with fail;go_ret;exact ⟨_,rfl,World.ownsRow_nil _ _ _ _,bf⟩
theorem zD3 (S S2:ByteArray) (Mc:(S.toList == S2.toList)=false) (x y:Int) (Na : ∀ W:World,(Instr.index 9 (.string S) (.int .i64 0)).run Tryz.prog W = .ok (.int .u8 x) W) (O0 : ∀ W:World,(Instr.index 9 (.string S2) (.int .i64 0)).run Tryz.prog W = .ok (.int .u8 y) W) (n:Nat) (QM:(((n:Int)+2 == 2)=true)∨((((n:Int)+2 == 2)=false)∧(x == 117)=true∧(y == 117)=true)) (a:Pt) (w:World) :
 Calls Tryz.prog 71 #[.string S,.string S2,.agg #[a.x,a.y,a.z],((n:Int)+2:Int)] w fun e w' => ∃ v,e = .returned v∧w'.ownsRow w.heap.size 39 4 v ([(a,n)]).length (zP ([(a,n)]))∧Below w.heap.size w w':=by
 obtain ⟨AL,Ha⟩ : ∃ AL,AL=zP [(a,n)]:=⟨_,rfl⟩;have H8:Bx (AL=[.int .i64 a.x,.int .i64 a.y,.int .i64 a.z,.int .i64 ((n:Int)+2)]):=⟨Ha⟩;have OU:AL.length=4:=by rw [Ha];rfl
 have HL:=Bx.mk OU;have Ng:Bx ((Tryz.prog.info? 39).map (·.size)=some AL.length):=⟨by rw [OU];kernel_rfl⟩
 have TT:Bx (((Tryz.prog.info? 39).bind (·.zero)).isSome=true):=⟨by kernel_rfl⟩
 rw [←Ha];clear Ha OU;rcases QM with t1 | ⟨t1,t2,t3⟩
 all_goals go_enter Tryz.func71,Tryz.ntmps71
 all_goals go_wp2_with (first | (refine zOa rfl _ 39 _ rfl AL (by rw [H8.o];rfl) Tryz.underlying51 Ng.o TT.o (by rw [HL.o];decide) (by rw [HL.o];decide) ?_))
 all_goals go_ret
 all_goals refine ⟨_,rfl,⟨HL.o,.inr ⟨_,1,AL.toArray,rfl,by simp,zC _ _ _ (by simp),Nat.le_refl _,by decide,by simp [HL.o],by rw [List.take_of_length_le (by simp [HL.o])]⟩⟩,(bf.alloc (by simp) _)⟩
theorem zD4 (S S2:ByteArray) (Mc:(S.toList == S2.toList)=false) (x y:Int) (Na : ∀ W:World,(Instr.index 9 (.string S) (.int .i64 0)).run Tryz.prog W = .ok (.int .u8 x) W) (O0 : ∀ W:World,(Instr.index 9 (.string S2) (.int .i64 0)).run Tryz.prog W = .ok (.int .u8 y) W) (m:Nat) (hm:m≤11) (QM:((x == 117)=false)∨((x == 117)=true∧(y == 117)=false)) (a:Pt) (ST SU:Nat→ByteArray) (D E:Nat→List (Pt × Nat)) (IN:E 0=[]) (hE:Bx (∀ k:Nat,k<8→E (k+1)=E k++D k)) (IS:Bx (∀ k:Nat,k≤8→(E k).length≤1000000000000)) 
 (LU:Bx (∀ k:Nat,k<8 → ∀ W,Calls Tryz.prog 129 #[.string S,(k:Int)] W fun e w'=>e = .returned (.string (ST k))∧Below W.heap.size W w'))
 (LV:Bx (∀ k:Nat,k<8 → ∀ W,Calls Tryz.prog 129 #[.string S2,(k:Int)] W fun e w'=>e = .returned (.string (SU k))∧Below W.heap.size W w'))
 (Lk:Bx (∀ k:Nat,k<8 → ∀ W,Calls Tryz.prog 130 #[.agg #[a.x,a.y,a.z],((m:Int)+3:Int),(k:Int)] W fun e w'=>e = .returned (.agg #[.int .i64 (Tr.cor a m k).x,.int .i64 (Tr.cor a m k).y,.int .i64 (Tr.cor a m k).z])∧Below W.heap.size W w'))
 (Nn:Bx (∀ k:Nat,k<8 → ∀ W,Calls Tryz.prog 71 #[.string (ST k),.string (SU k),.agg #[.int .i64 (Tr.cor a m k).x,.int .i64 (Tr.cor a m k).y,.int .i64 (Tr.cor a m k).z],((m:Int)+2:Int)] W fun e w' => ∃ v,e = .returned v∧w'.ownsRow W.heap.size 39 4 v (D k).length (zP (D k))∧Below W.heap.size W w')) (w:World) :
 Calls Tryz.prog 71 #[.string S,.string S2,.agg #[a.x,a.y,a.z],((m:Int)+3:Int)] w fun e w' => ∃ v,e = .returned v∧w'.ownsRow w.heap.size 39 4 v (E 8).length (zP (E 8))∧Below w.heap.size w w':=by
 have t1:(((m:Int)+3 == 2))=false:=by simp;omega
 have S8:Bx (IntKind.i64.wrap ((m:Int)+3 - 1)=(m:Int)+2):=⟨by rw [show (m:Int)+3 - 1=(m:Int)+2 by omega];exact wj _ (by omega)⟩
 obtain ⟨i0,Nb,TQ,TR,TS⟩ : ∃ i,Tryz.prog.info? 39=some i∧i.zero=some (.agg #[(0:Int),(0:Int),(0:Int),(0:Int)])∧i.size=4∧i.bytes=32:=⟨_,rfl,rfl,rfl,rfl⟩;have Ai:=Bx.mk Nb;have CK:=Bx.mk TQ;have CL:=Bx.mk TR;have CM:=Bx.mk TS;clear Nb TQ TR TS;rcases QM with t2 | ⟨t2,t3⟩
 all_goals
  go_enter Tryz.func71,Tryz.ntmps71;go_upto_region 7 with fail;generalize hW:w.alloc _=W;have HB:=Bx.mk (show Below w.heap.size w W by rw [←hW];exact bf)
  have E9:=Bx.mk (show Bk W w.heap.size #[a.x,a.y,a.z] 23 by rw [←hW];exact zC _ _ _ rfl)
  clear hW Na O0 t2
  go_loopw [9,10] (fun v9 v10 wr => ∃ k:Nat,k≤8∧v10 = .int .i64 k∧Bx (wr.ownsRow W.heap.size 39 4 v9 (E k).length (zP (E k))∧Below W.heap.size W wr)) (fun _ i _=>8 - (intOf i).toNat)
  case atStart=>exact ⟨0,by omega,rfl,⟨by rw [IN];exact World.ownsRow_nil _ _ _ _,br⟩⟩
  case round =>
   obtain ⟨k,hk,rfl,HI⟩:=hrel;by_cases hlt:k<8
   · have t0:decide ((k:Int)<8)=true:=by simp;omega
     have KP:=Bx.mk (E9.o.la HI.o.2);go_upto_region 9 with fail
     refine zAL 14 (fun i v w'=>match i with
      | 0=>v=u9
      | 1=>v = .string S
      | 2=>v = .int .i64 (k:Int)
      | 3=>v = .string (ST k)
      | 4=>v = .string S2
      | 5=>v = .int .i64 (k:Int)
      | 6=>v = .string (SU k)
      | 7=>v = .agg #[a.x,a.y,a.z]
      | 8=>v = .int .i64 ((m:Int)+3)
      | 9=>v = .int .i64 (k:Int)
      | 10=>v = .agg #[.int .i64 (Tr.cor a m k).x,.int .i64 (Tr.cor a m k).y,.int .i64 (Tr.cor a m k).z]
      | 11=>v = .int .i64 ((m:Int)+3)
      | 12=>v = .int .i64 ((m:Int)+2)
      | _=>DRow wr.heap.size (D k) v w') (by kernel_rfl) (by kernel_rfl) 50 (by kernel_rfl) (by rfl) ?_ ?_ ?_
     · intro i hi v u1 u2 hb h
       match i,hi with
       | 0,_=>exact h
       | 1,_=>exact h
       | 2,_=>exact h
       | 3,_=>exact h
       | 4,_=>exact h
       | 5,_=>exact h
       | 6,_=>exact h
       | 7,_=>exact h
       | 8,_=>exact h
       | 9,_=>exact h
       | 10,_=>exact h
       | 11,_=>exact h
       | 12,_=>exact h
       | 13,_=>exact h.la hb
     · intro i o hi ho ρ w1 hb L3 L5 L6 hk
       match i,hi with
       | 0, _ =>
         obtain rfl:=osi ho;have g0:ρ (.tmp 9)=u9:=hk 9 (by simp)
         clear hk hb HI KP LU LV Lk Nn HB E9 IS hE Ai;go_simp;exact br
       | 1, _ =>
         obtain rfl:=osi ho;have g0:ρ (.tmp 0) = .string S:=hk 0 (by simp)
         clear hk hb HI KP LU LV Lk Nn HB E9 IS hE Ai;go_simp;exact br
       | 2, _ =>
         obtain rfl:=osi ho;have g0:ρ (.tmp 10) = .int .i64 (k:Int):=hk 10 (by simp)
         clear hk hb HI KP LU LV Lk Nn HB E9 IS hE Ai;go_simp;exact br
       | 3, _ =>
         obtain rfl:=osi ho;have g0:ρ (.tmp 35) = .string S:=hk 35 (by simp)
         have g1:ρ (.tmp 36) = .int .i64 (k:Int):=hk 36 (by simp)
         have h4:=LU.o k hlt w1;have H4:=Bx.mk h4;clear h4;clear hk hb HI KP LU LV Lk Nn HB E9 IS hE Ai;go_simp
         all_goals exact H4.o
       | 4, _ =>
         obtain rfl:=osi ho;have g0:ρ (.tmp 1) = .string S2:=hk 1 (by simp)
         clear hk hb HI KP LU LV Lk Nn HB E9 IS hE Ai;go_simp;exact br
       | 5, _ =>
         obtain rfl:=osi ho;have g0:ρ (.tmp 10) = .int .i64 (k:Int):=hk 10 (by simp)
         clear hk hb HI KP LU LV Lk Nn HB E9 IS hE Ai;go_simp;exact br
       | 6, _ =>
         obtain rfl:=osi ho;have g0:ρ (.tmp 38) = .string S2:=hk 38 (by simp)
         have g1:ρ (.tmp 39) = .int .i64 (k:Int):=hk 39 (by simp)
         have h4:=LV.o k hlt w1;have H4:=Bx.mk h4;clear h4;clear hk hb HI KP LU LV Lk Nn HB E9 IS hE Ai;go_simp
         all_goals exact H4.o
       | 7, _ =>
         obtain rfl:=osi ho;have g0:ρ (.tmp 6) = .pointer (some ⟨w.heap.size,0,none⟩):=hk 6 (by simp)
         have k1:=KP.o.la hb;obtain ⟨z0,z1,z2⟩:=k1.c3;clear hk hb HI KP LU LV Lk Nn HB E9 IS hE Ai;go_simp;exact br
       | 8, _ =>
         obtain rfl:=osi ho;have g0:ρ (.tmp 3) = .int .i64 ((m:Int)+3):=hk 3 (by simp)
         clear hk hb HI KP LU LV Lk Nn HB E9 IS hE Ai;go_simp;exact br
       | 9, _ =>
         obtain rfl:=osi ho;have g0:ρ (.tmp 10) = .int .i64 (k:Int):=hk 10 (by simp)
         clear hk hb HI KP LU LV Lk Nn HB E9 IS hE Ai;go_simp;exact br
       | 10, _ =>
         obtain rfl:=osi ho;have g0:ρ (.tmp 41) = .agg #[a.x,a.y,a.z]:=hk 41 (by simp)
         have g1:ρ (.tmp 42) = .int .i64 ((m:Int)+3):=hk 42 (by simp)
         have g2:ρ (.tmp 43) = .int .i64 (k:Int):=hk 43 (by simp)
         have h4:=Lk.o k hlt w1;have H4:=Bx.mk h4;clear h4;clear hk hb HI KP LU LV Lk Nn HB E9 IS hE Ai;go_simp
         all_goals exact H4.o
       | 11, _ =>
         obtain rfl:=osi ho;have g0:ρ (.tmp 3) = .int .i64 ((m:Int)+3):=hk 3 (by simp)
         clear hk hb HI KP LU LV Lk Nn HB E9 IS hE Ai;go_simp;exact br
       | 12, _ =>
         obtain rfl:=osi ho;have g0:ρ (.tmp 45) = .int .i64 ((m:Int)+3):=hk 45 (by simp)
         have hwm:=S8.o;clear hk hb HI KP LU LV Lk Nn HB E9 IS hE Ai;go_simp;exact br
       | 13, _ =>
         obtain rfl:=osi ho;have g0:ρ (.tmp 37) = .string (ST k):=hk 37 (by simp)
         have g1:ρ (.tmp 40) = .string (SU k):=hk 40 (by simp)
         have g2:ρ (.tmp 44) = .agg #[.int .i64 (Tr.cor a m k).x,.int .i64 (Tr.cor a m k).y,.int .i64 (Tr.cor a m k).z]:=hk 44 (by simp)
         have g3:ρ (.tmp 46) = .int .i64 ((m:Int)+2):=hk 46 (by simp)
         have h4:=(Nn.o k hlt w1).mono (fun e w2 h=>(show ∃ v,e = .returned v∧Below w1.heap.size w1 w2∧DRow wr.heap.size (D k) v w2 by obtain ⟨v,h1,h2,h3⟩:=h;exact ⟨v,h1,h3,World.ownsRow.mono h2 hb.size⟩))
         have H4:=Bx.mk h4;clear h4;clear hk hb HI KP LU LV Lk Nn HB E9 IS hE Ai;go_simp
         all_goals exact H4.o
     · intro vs W1 Od hb hR
       match vs,Od with
       | [v0, v1, v2, v3, v4, v5, v6, v7, v8, v9, v10, v11, v12, v13], _ =>
         have r0:v0=u9:=hR 0 v0 rfl;have r1:v1 = .string S:=hR 1 v1 rfl;have r2:v2 = .int .i64 (k:Int):=hR 2 v2 rfl;have r3:v3 = .string (ST k):=hR 3 v3 rfl;have r4:v4 = .string S2:=hR 4 v4 rfl;have r5:v5 = .int .i64 (k:Int):=hR 5 v5 rfl;have r6:v6 = .string (SU k):=hR 6 v6 rfl;have r7:v7 = .agg #[a.x,a.y,a.z]:=hR 7 v7 rfl;have r8:v8 = .int .i64 ((m:Int)+3):=hR 8 v8 rfl;have r9:v9 = .int .i64 (k:Int):=hR 9 v9 rfl;have UW:v10 = .agg #[.int .i64 (Tr.cor a m k).x,.int .i64 (Tr.cor a m k).y,.int .i64 (Tr.cor a m k).z]:=hR 10 v10 rfl;have UX:v11 = .int .i64 ((m:Int)+3):=hR 11 v11 rfl;have UY:v12 = .int .i64 ((m:Int)+2):=hR 12 v12 rfl;have UZ:DRow wr.heap.size (D k) v13 W1:=hR 13 v13 rfl;clear hR;subst r0 r1 r2 r3 r4 r5 r6 r7 r8 r9 UW UX UY;have HR:=Bx.mk UZ;clear UZ;simp only [zKg,List.take_succ_cons,List.take_zero,List.drop_succ_cons,List.drop_zero,List.map_cons,List.map_nil,List.zip_cons_cons,List.zip_nil_right,List.foldl_cons,List.foldl_nil];have A3:=Bx.mk hb;clear hb;have HO:=Bx.mk (zJi HI.o.1 A3.o);have MT:=IS.o k (by omega)
         have MU:=IS.o (k+1) (by omega)
         rw [hE.o k hlt,List.length_append] at MU;simp only [Act.put,List.setIfInBounds_toArray,List.set_cons_succ,List.set_cons_zero]
         at_builtin
         refine zOY rfl _ _ 51 rfl W.heap.size 39 i0 _ 4 32 Tryz.underlying51 Ai.o CK.o CL.o CM.o rfl (by decide) v0 (E k).length (zP (E k)) (by rfl) HO.o wr.heap.size v13 (D k).length (zP (D k)) (by rfl) HR.o (zD8 _) (by simp only [maxLen];omega) (by omega) (Nat.le_trans HI.o.2.size A3.o.size) ?_
         intro v3 W3 QT N6;have HJ:Bx (W3.ownsRow W.heap.size 39 4 v3 (E (k+1)).length (zP (E (k+1)))∧Below W.heap.size W W3):=⟨by rw [hE.o k hlt,List.length_append,zD7];exact QT,(tr HI.o.2 A3.o).grown N6 (Nat.le_trans HI.o.2.size A3.o.size) (fun g hg=>(HI.o.1.lt g hg).1)⟩
         clear QT N6 HR HO MT MU;go_wp2_with fail
         go_roundw
         case rel=>exact ⟨k+1,by omega,by go_num,HJ⟩
         case measure=>simp [intOf];omega
   · obtain rfl:k=8:=by omega
     have t0:decide (((8:Nat):Int)<8)=false:=by decide
     go_wp2_with fail;go_ret;exact ⟨_,rfl,World.ownsRow.mono HI.o.1 HB.o.size,tr HB.o HI.o.2⟩
def hdT:Tr→Int
 | .uni _=>117
 | .brick _=>98
 | .node _ _=>110
theorem hdT_at (t:Tr):(Tr.enc t)[0]? = some (hdT t):=by cases t <;> simp [Tr.enc,hdT]
theorem zGE (t:Tr):(hdT t == 117)=isU t:=by cases t <;> rfl
theorem zGD {t:Tr} (h:Tr.WF t) : ∀ W:World,(Instr.index 9 (.string (strOfNums (Tr.enc t))) (.int .i64 0)).run Tryz.prog W = .ok (.int .u8 (hdT t)) W:=fun W=>by
 have h0:=za (P:=Tryz.prog) 9 Tryz.underlying9 (Tr.enc_byt _ h) (k:=0) (x:=hdT t) (hdT_at t) W;rw [show ((0:Nat):Int)=0 from rfl] at h0;exact h0
theorem zNN {t u:Tr} (h:Tr.WF t) (h':Tr.WF u) (Ph:t ≠ u):((strOfNums (Tr.enc t)).toList == (strOfNums (Tr.enc u)).toList)=false:=by
 cases hb:((strOfNums (Tr.enc t)).toList == (strOfNums (Tr.enc u)).toList) with
 | false=>rfl
 | true=>exact absurd ((zNM h h').1 ((zMz _ _).1 hb)) Ph
theorem zDT {n:Nat} (hn:n≤11) (a:Pt) (k:Nat) (hk:k<8) (b1:0≤a.x∧a.x≤16384) (b2:0≤a.y∧a.y≤16384) (b3:0≤a.z∧a.z≤16384) (W:World) :
 Calls Tryz.prog 130 #[.agg #[a.x,a.y,a.z],((n:Int)+3:Int),(k:Int)] W fun e w'=>e = .returned (.agg #[.int .i64 (Tr.cor a n k).x,.int .i64 (Tr.cor a n k).y,.int .i64 (Tr.cor a n k).z])∧Below W.heap.size W w':=by
 have h:=zDS (n+2) (by omega) a.x a.y a.z k hk (by omega) (by omega) (by omega) W
 rw [show (((n+2:Nat):Int)+1)=(n:Int)+3 by omega] at h
 exact h
theorem zCn {F:Pt→Int} (hF : ∀ p,0≤F p∧F p≤255) {n:Nat} (hn:n≤11) (a:Pt) (k:Nat) (hk:k<8) (W:World) :
 Calls Tryz.prog 129 #[.string (strOfNums (Tr.enc (Tr.can F (n+1) a))),(k:Int)] W fun e w'=>e = .returned (.string (strOfNums (Tr.enc (Tr.can F n (Tr.cor a n k)))))∧Below W.heap.size W w':=by
 have h:=zCm (Tr.can F (n+1) a) (zAF hF (n+1) a (by omega)) (by have:=zB7 hF (show n+1≤12 by omega) a;omega) k hk W
 rw [zB3] at h;exact h
theorem zEL {N:Nat} (hN:N≤12) {F G:Pt→Int} (hF : ∀ p,0≤F p∧F p≤255) (hG : ∀ p,0≤G p∧G p≤255) : ∀ (n:Nat) (a:Pt),InT N n a → ∀ w:World,
 Calls Tryz.prog 71 #[.string (strOfNums (Tr.enc (Tr.can F n a))),.string (strOfNums (Tr.enc (Tr.can G n a))),.agg #[a.x,a.y,a.z],((n:Int)+2:Int)] w fun e w' => ∃ v,e = .returned v∧w'.ownsRow w.heap.size 39 4 v (zER n a (Tr.can F n a) (Tr.can G n a)).length (zP (zER n a (Tr.can F n a) (Tr.can G n a)))∧Below w.heap.size w w':=by
 intro n
 induction n with
 | zero =>
   intro a hin w;have h1:=zAF hF 0 a (by omega)
   have h2:=zAF hG 0 a (by omega)
   by_cases e:Tr.can F 0 a=Tr.can G 0 a
   · rw [←e,zET];exact zD5 _ a _ w
   · rw [zEV e];exact zD3 _ _ (zNN h1 h2 e) _ _ (zGD h1) (zGD h2) 0 (.inl rfl) a w
 | succ n ih =>
   intro a hin w;have OY:=hin.le;have h1:=zAF hF (n+1) a (by omega)
   have h2:=zAF hG (n+1) a (by omega)
   by_cases e:Tr.can F (n+1) a=Tr.can G (n+1) a
   · rw [←e,zET];exact zD5 _ a _ w
   · cases hu:(isU (Tr.can F (n+1) a) && isU (Tr.can G (n+1) a)) with
     | true =>
       rw [Bool.and_eq_true] at hu;rw [zEU e hu.1 hu.2];exact zD3 _ _ (zNN h1 h2 e) _ _ (zGD h1) (zGD h2) (n+1) (.inr ⟨by simp;omega,by rw [zGE];exact hu.1,by rw [zGE];exact hu.2⟩) a w
     | false =>
       obtain ⟨b1,b2,b3⟩:=hin.bd hN;rw [←zEN n a _ _ e hu,show (((n+1:Nat):Int)+2)=(n:Int)+3 by omega]
       refine zD4 _ _ (zNN h1 h2 e) _ _ (zGD h1) (zGD h2) n (by omega) ?_ a (fun k=>strOfNums (Tr.enc (Tr.can F n (Tr.cor a n k)))) (fun k=>strOfNums (Tr.enc (Tr.can G n (Tr.cor a n k)))) (fun k=>zER n (Tr.cor a n k) (Tr.can F n (Tr.cor a n k)) (Tr.can G n (Tr.cor a n k))) (zEM n a (Tr.can F (n+1) a) (Tr.can G (n+1) a)) (zEQ _ _ _ _) ⟨fun k hk=>?_⟩ ⟨fun k hk=>?_⟩ ⟨fun k hk W=>zCn hF (by omega) a k hk W⟩ ⟨fun k hk W=>zCn hG (by omega) a k hk W⟩ ⟨fun k hk W=>zDT (by omega) a k hk b1 b2 b3 W⟩ ⟨fun k hk W=>ih (Tr.cor a n k) (hin.kid hk) W⟩ w
       · rw [zGE,zGE];cases hx:isU (Tr.can F (n+1) a) with
         | false=>exact .inl rfl
         | true=>rw [hx,Bool.true_and] at hu;exact .inr ⟨rfl,hu⟩
       · rw [zEP n a _ _ hk,zB3,zB3]
       · have h3:=zEO n a (Tr.can F (n+1) a) (Tr.can G (n+1) a) k;have h4:8 ^ n≤100000000000:=nlt (Nat.pow_le_pow_right (by decide) (show n≤12 by omega)) (by decide)
         have h5:k * 8 ^ n≤8 * 8 ^ n:=Nat.mul_le_mul_right _ hk;omega
theorem zKl {n:Nat} (hn:n≤12) {F G:Pt→Int} (hF : ∀ p,0≤F p∧F p≤255) (hG : ∀ p,0≤G p∧G p≤255) (w:World) :
 Calls Tryz.prog 20 #[.string (strOfNums (Tr.enc (trF n F))),.string (strOfNums (Tr.enc (trF n G))),((n:Int)+2:Int)] w fun e w' => ∃ v,e = .returned v∧w'.ownsRow w.heap.size 39 4 v (zER n ⟨0,0,0⟩ (trF n F) (trF n G)).length (zP (zER n ⟨0,0,0⟩ (trF n F) (trF n G)))∧Below w.heap.size w w':=by
 have h:=Bx.mk fun W=>zEL hn hF hG n ⟨0,0,0⟩ (InT.top n) W;generalize strOfNums (Tr.enc (trF n F))=S at *;generalize strOfNums (Tr.enc (trF n G))=S2 at *;generalize zER n ⟨0,0,0⟩ (trF n F) (trF n G)=D at *;clear hn hF hG;go_enter Tryz.func20,Tryz.ntmps20;go_wp2_with fail;refine (h.o _).mono ?_;rintro _ w1 ⟨v,rfl,ho,hb⟩;have HO:=Bx.mk ho;clear ho;go_wp2_with fail;go_ret;exact ⟨_,rfl,HO.o,hb⟩
def zHU (x:Pt × Nat × Tr):List Value:=[.int .i64 x.1.x,.int .i64 x.1.y,.int .i64 x.1.z,.int .i64 ((x.2.1:Int)+2),.string (strOfNums (Tr.enc x.2.2))]
abbrev zHV (L:List (Pt × Nat × Tr)):List Value:=L.flatMap zHU
def LRow (B:Nat) (L:List (Pt × Nat × Tr)) (v:Value) (w:World):Prop:=w.ownsRow B 64 5 v L.length (zHV L)
theorem LRow.la {B:Nat} {L:List (Pt × Nat × Tr)} {v:Value} {w w':World} (h:LRow B L v w) (hb:Below w.heap.size w w'):LRow B L v w':=zJi h hb
theorem zHX (L:List (Pt × Nat × Tr)) : ∀ y∈zHV L,y.oneCell'=true:=by
 intro y hy;obtain ⟨x,_,hx⟩:=List.mem_flatMap.1 hy;unfold zHU at hx;simp only [List.mem_cons,List.not_mem_nil,or_false] at hx;rcases hx with rfl | rfl | rfl | rfl | rfl <;> rfl
theorem zHW (L M:List (Pt × Nat × Tr)):zHV (L++M)=zHV L++zHV M:=List.flatMap_append
theorem zHk : ∀ (n:Nat) (a:Pt) (t:Tr),(zl n a t).length≤8 ^ n
 | 0,a,t=>by cases t <;> simp [zl]
 | n+1,a,.uni c=>by rw [zm];simp;exact Nat.one_le_pow _ _ (by decide)
 | n+1,a,.brick l=>by rw [zHj];simp;exact Nat.one_le_pow _ _ (by decide)
 | n + 1, a, .node d ch => by
   rw [←zHe n d a ch];unfold zHd
   have key : ∀ l:List (Fin 8),(l.flatMap fun i=>zl n (Tr.cor a n i.val) (ch i)).length≤l.length * 8 ^ n:=by
    intro l
    induction l with
    | nil=>simp
    | cons i r ih =>
      rw [List.flatMap_cons,List.length_append,List.length_cons,Nat.add_mul,Nat.one_mul];have:=zHk n (Tr.cor a n i.val) (ch i);omega
   refine nlt (key _) ?_;rw [Nat.pow_succ,Nat.mul_comm (8 ^ n) 8];exact Nat.mul_le_mul_right _ (nlt (List.length_take_le _ _) nlr)
theorem zHf (n:Nat) (a:Pt) (ch:Fin 8→Tr) (k:Nat):(zHd n a ch k).length≤k * 8 ^ n:=by
 unfold zHd
 have key : ∀ l:List (Fin 8),(l.flatMap fun i=>zl n (Tr.cor a n i.val) (ch i)).length≤l.length * 8 ^ n:=by
  intro l
  induction l with
  | nil=>simp
  | cons i r ih =>
    rw [List.flatMap_cons,List.length_append,List.length_cons,Nat.add_mul,Nat.one_mul];have:=zHk n (Tr.cor a n i.val) (ch i);omega
 exact nlt (key _) (Nat.mul_le_mul_right _ (List.length_take_le _ _))
theorem zHQ (S:ByteArray) (x:Int) (Na : ∀ W:World,(Instr.index 9 (.string S) (.int .i64 0)).run Tryz.prog W = .ok (.int .u8 x) W) (n:Nat) (T:Tr) (hS:S=strOfNums (Tr.enc T)) (t1:(x != 110)=true) (a:Pt) (w:World) :
 Calls Tryz.prog 85 #[.string S,.agg #[a.x,a.y,a.z],((n:Int)+2:Int)] w fun e w' => ∃ v,e = .returned v∧w'.ownsRow w.heap.size 64 5 v ([(a,n,T)]).length (zHV ([(a,n,T)]))∧Below w.heap.size w w':=by
 obtain ⟨AL,Ha⟩ : ∃ AL,AL=zHV [(a,n,T)]:=⟨_,rfl⟩;have H8:Bx (AL=[.int .i64 a.x,.int .i64 a.y,.int .i64 a.z,.int .i64 ((n:Int)+2),.string S]):=⟨by rw [Ha,hS];rfl⟩
 have OU:AL.length=5:=by rw [Ha];rfl
 have HL:=Bx.mk OU;have Ng:Bx ((Tryz.prog.info? 64).map (·.size)=some AL.length):=⟨by rw [OU];kernel_rfl⟩
 have TT:Bx (((Tryz.prog.info? 64).bind (·.zero)).isSome=true):=⟨by kernel_rfl⟩
 rw [←Ha];clear Ha OU hS;go_enter Tryz.func85,Tryz.ntmps85;go_wp2_with (refine zOa rfl _ 64 _ rfl AL (by rw [H8.o];rfl) Tryz.underlying61 Ng.o TT.o (by rw [HL.o];decide) (by rw [HL.o];decide) ?_)
 go_ret;exact ⟨_,rfl,⟨HL.o,.inr ⟨_,1,AL.toArray,rfl,by simp,zC _ _ _ (by simp),Nat.le_refl _,by decide,by simp [HL.o],by rw [List.take_of_length_le (by simp [HL.o])]⟩⟩,(bf.alloc (by simp) _)⟩
theorem zHR (S:ByteArray) (x:Int) (Na : ∀ W:World,(Instr.index 9 (.string S) (.int .i64 0)).run Tryz.prog W = .ok (.int .u8 x) W) (t1:(x != 110)=false) (m:Nat) (hm:m≤11) (a:Pt) (ST:Nat→ByteArray) (D E:Nat→List (Pt × Nat × Tr)) (IN:E 0=[]) (hE:Bx (∀ k:Nat,k<8→E (k+1)=E k++D k)) (IS:Bx (∀ k:Nat,k≤8→(E k).length≤1000000000000))
 (LU:Bx (∀ k:Nat,k<8 → ∀ W,Calls Tryz.prog 129 #[.string S,(k:Int)] W fun e w'=>e = .returned (.string (ST k))∧Below W.heap.size W w'))
 (Lk:Bx (∀ k:Nat,k<8 → ∀ W,Calls Tryz.prog 130 #[.agg #[a.x,a.y,a.z],((m:Int)+3:Int),(k:Int)] W fun e w'=>e = .returned (.agg #[.int .i64 (Tr.cor a m k).x,.int .i64 (Tr.cor a m k).y,.int .i64 (Tr.cor a m k).z])∧Below W.heap.size W w'))
 (Nn:Bx (∀ k:Nat,k<8 → ∀ W,Calls Tryz.prog 85 #[.string (ST k),.agg #[.int .i64 (Tr.cor a m k).x,.int .i64 (Tr.cor a m k).y,.int .i64 (Tr.cor a m k).z],((m:Int)+2:Int)] W fun e w' => ∃ v,e = .returned v∧w'.ownsRow W.heap.size 64 5 v (D k).length (zHV (D k))∧Below W.heap.size W w')) (w:World) :
 Calls Tryz.prog 85 #[.string S,.agg #[a.x,a.y,a.z],((m:Int)+3:Int)] w fun e w' => ∃ v,e = .returned v∧w'.ownsRow w.heap.size 64 5 v (E 8).length (zHV (E 8))∧Below w.heap.size w w':=by
 have S8:Bx (IntKind.i64.wrap ((m:Int)+3 - 1)=(m:Int)+2):=⟨by rw [show (m:Int)+3 - 1=(m:Int)+2 by omega];exact wj _ (by omega)⟩
 obtain ⟨i0,Nb,TQ,TR,TS⟩ : ∃ i,Tryz.prog.info? 64=some i∧i.zero=some (.agg #[(0:Int),(0:Int),(0:Int),(0:Int),.string ByteArray.empty])∧i.size=5∧i.bytes=48:=⟨_,rfl,rfl,rfl,rfl⟩;have Ai:=Bx.mk Nb;have CK:=Bx.mk TQ;have CL:=Bx.mk TR;have CM:=Bx.mk TS;clear Nb TQ TR TS;go_enter Tryz.func85,Tryz.ntmps85;go_upto_region 5 with fail;generalize hW:w.alloc _=W;have HB:=Bx.mk (show Below w.heap.size w W by rw [←hW];exact bf)
 have E9:=Bx.mk (show Bk W w.heap.size #[a.x,a.y,a.z] 23 by rw [←hW];exact zC _ _ _ rfl)
 clear hW Na t1
 go_loopw [7,8] (fun v7 v8 wr => ∃ k:Nat,k≤8∧v8 = .int .i64 k∧Bx (wr.ownsRow W.heap.size 64 5 v7 (E k).length (zHV (E k))∧Below W.heap.size W wr)) (fun _ i _=>8 - (intOf i).toNat)
 case atStart=>exact ⟨0,by omega,rfl,⟨by rw [IN];exact World.ownsRow_nil _ _ _ _,br⟩⟩
 case round =>
  obtain ⟨k,hk,rfl,HI⟩:=hrel;by_cases hlt:k<8
  · have t0:decide ((k:Int)<8)=true:=by simp;omega
    have KP:=Bx.mk (E9.o.la HI.o.2);go_upto_region 7 with fail
    refine zAL 11 (fun i v w'=>match i with
     | 0=>v=u7
     | 1=>v = .string S
     | 2=>v = .int .i64 (k:Int)
     | 3=>v = .string (ST k)
     | 4=>v = .agg #[a.x,a.y,a.z]
     | 5=>v = .int .i64 ((m:Int)+3)
     | 6=>v = .int .i64 (k:Int)
     | 7=>v = .agg #[.int .i64 (Tr.cor a m k).x,.int .i64 (Tr.cor a m k).y,.int .i64 (Tr.cor a m k).z]
     | 8=>v = .int .i64 ((m:Int)+3)
     | 9=>v = .int .i64 ((m:Int)+2)
     | _=>LRow wr.heap.size (D k) v w') (by kernel_rfl) (by kernel_rfl) 35 (by kernel_rfl) (by rfl) ?_ ?_ ?_
    · intro i hi v u1 u2 hb h
      match i,hi with
      | 0,_=>exact h
      | 1,_=>exact h
      | 2,_=>exact h
      | 3,_=>exact h
      | 4,_=>exact h
      | 5,_=>exact h
      | 6,_=>exact h
      | 7,_=>exact h
      | 8,_=>exact h
      | 9,_=>exact h
      | 10,_=>exact h.la hb
    · intro i o hi ho ρ w1 hb L3 L5 L6 hk
      match i,hi with
      | 0, _ =>
        obtain rfl:=osi ho;have g0:ρ (.tmp 7)=u7:=hk 7 (by simp)
        clear hk hb HI KP LU Lk Nn HB E9 IS hE Ai;go_simp;exact br
      | 1, _ =>
        obtain rfl:=osi ho;have g0:ρ (.tmp 0) = .string S:=hk 0 (by simp)
        clear hk hb HI KP LU Lk Nn HB E9 IS hE Ai;go_simp;exact br
      | 2, _ =>
        obtain rfl:=osi ho;have g0:ρ (.tmp 8) = .int .i64 (k:Int):=hk 8 (by simp)
        clear hk hb HI KP LU Lk Nn HB E9 IS hE Ai;go_simp;exact br
      | 3, _ =>
        obtain rfl:=osi ho;have g0:ρ (.tmp 23) = .string S:=hk 23 (by simp)
        have g1:ρ (.tmp 24) = .int .i64 (k:Int):=hk 24 (by simp)
        have h4:=LU.o k hlt w1;have H4:=Bx.mk h4;clear h4;clear hk hb HI KP LU Lk Nn HB E9 IS hE Ai;go_simp
        all_goals exact H4.o
      | 4, _ =>
        obtain rfl:=osi ho;have g0:ρ (.tmp 4) = .pointer (some ⟨w.heap.size,0,none⟩):=hk 4 (by simp)
        have k1:=KP.o.la hb;obtain ⟨z0,z1,z2⟩:=k1.c3;clear hk hb HI KP LU Lk Nn HB E9 IS hE Ai;go_simp;exact br
      | 5, _ =>
        obtain rfl:=osi ho;have g0:ρ (.tmp 2) = .int .i64 ((m:Int)+3):=hk 2 (by simp)
        clear hk hb HI KP LU Lk Nn HB E9 IS hE Ai;go_simp;exact br
      | 6, _ =>
        obtain rfl:=osi ho;have g0:ρ (.tmp 8) = .int .i64 (k:Int):=hk 8 (by simp)
        clear hk hb HI KP LU Lk Nn HB E9 IS hE Ai;go_simp;exact br
      | 7, _ =>
        obtain rfl:=osi ho;have g0:ρ (.tmp 26) = .agg #[a.x,a.y,a.z]:=hk 26 (by simp)
        have g1:ρ (.tmp 27) = .int .i64 ((m:Int)+3):=hk 27 (by simp)
        have g2:ρ (.tmp 28) = .int .i64 (k:Int):=hk 28 (by simp)
        have h4:=Lk.o k hlt w1;have H4:=Bx.mk h4;clear h4;clear hk hb HI KP LU Lk Nn HB E9 IS hE Ai;go_simp
        all_goals exact H4.o
      | 8, _ =>
        obtain rfl:=osi ho;have g0:ρ (.tmp 2) = .int .i64 ((m:Int)+3):=hk 2 (by simp)
        clear hk hb HI KP LU Lk Nn HB E9 IS hE Ai;go_simp;exact br
      | 9, _ =>
        obtain rfl:=osi ho;have g0:ρ (.tmp 30) = .int .i64 ((m:Int)+3):=hk 30 (by simp)
        have hwm:=S8.o;clear hk hb HI KP LU Lk Nn HB E9 IS hE Ai;go_simp;exact br
      | 10, _ =>
        obtain rfl:=osi ho;have g0:ρ (.tmp 25) = .string (ST k):=hk 25 (by simp)
        have g1:ρ (.tmp 29) = .agg #[.int .i64 (Tr.cor a m k).x,.int .i64 (Tr.cor a m k).y,.int .i64 (Tr.cor a m k).z]:=hk 29 (by simp)
        have g2:ρ (.tmp 31) = .int .i64 ((m:Int)+2):=hk 31 (by simp)
        have h4:=(Nn.o k hlt w1).mono (fun e w2 h=>(show ∃ v,e = .returned v∧Below w1.heap.size w1 w2∧LRow wr.heap.size (D k) v w2 by obtain ⟨v,h1,h2,h3⟩:=h;exact ⟨v,h1,h3,World.ownsRow.mono h2 hb.size⟩))
        have H4:=Bx.mk h4;clear h4;clear hk hb HI KP LU Lk Nn HB E9 IS hE Ai;go_simp
        all_goals exact H4.o
    · intro vs W1 Od hb hR
      match vs,Od with
      | [v0, v1, v2, v3, v4, v5, v6, v7, v8, v9, v10], _ =>
        have r0:v0=u7:=hR 0 v0 rfl;have r1:v1 = .string S:=hR 1 v1 rfl;have r2:v2 = .int .i64 (k:Int):=hR 2 v2 rfl;have r3:v3 = .string (ST k):=hR 3 v3 rfl;have r4:v4 = .agg #[a.x,a.y,a.z]:=hR 4 v4 rfl;have r5:v5 = .int .i64 ((m:Int)+3):=hR 5 v5 rfl;have r6:v6 = .int .i64 (k:Int):=hR 6 v6 rfl;have r7:v7 = .agg #[.int .i64 (Tr.cor a m k).x,.int .i64 (Tr.cor a m k).y,.int .i64 (Tr.cor a m k).z]:=hR 7 v7 rfl;have r8:v8 = .int .i64 ((m:Int)+3):=hR 8 v8 rfl;have r9:v9 = .int .i64 ((m:Int)+2):=hR 9 v9 rfl;have UW:LRow wr.heap.size (D k) v10 W1:=hR 10 v10 rfl;clear hR;subst r0 r1 r2 r3 r4 r5 r6 r7 r8 r9;have HR:=Bx.mk UW;clear UW;simp only [zKg,List.take_succ_cons,List.take_zero,List.drop_succ_cons,List.drop_zero,List.map_cons,List.map_nil,List.zip_cons_cons,List.zip_nil_right,List.foldl_cons,List.foldl_nil];have A3:=Bx.mk hb;clear hb;have HO:=Bx.mk (zJi HI.o.1 A3.o);have MT:=IS.o k (by omega)
        have MU:=IS.o (k+1) (by omega)
        rw [hE.o k hlt,List.length_append] at MU;simp only [Act.put,List.setIfInBounds_toArray,List.set_cons_succ,List.set_cons_zero]
        at_builtin
        refine zOY rfl _ _ 61 rfl W.heap.size 64 i0 _ 5 48 Tryz.underlying61 Ai.o CK.o CL.o CM.o rfl (by decide) v0 (E k).length (zHV (E k)) (by rfl) HO.o wr.heap.size v10 (D k).length (zHV (D k)) (by rfl) HR.o (zHX _) (by simp only [maxLen];omega) (by omega) (Nat.le_trans HI.o.2.size A3.o.size) ?_
        intro v3 W3 QT N6;have HJ:Bx (W3.ownsRow W.heap.size 64 5 v3 (E (k+1)).length (zHV (E (k+1)))∧Below W.heap.size W W3):=⟨by rw [hE.o k hlt,List.length_append,zHW];exact QT,(tr HI.o.2 A3.o).grown N6 (Nat.le_trans HI.o.2.size A3.o.size) (fun g hg=>(HI.o.1.lt g hg).1)⟩
        clear QT N6 HR HO MT MU;go_wp2_with fail
        go_roundw
        case rel=>exact ⟨k+1,by omega,by go_num,HJ⟩
        case measure=>simp [intOf];omega
  · obtain rfl:k=8:=by omega
    have t0:decide (((8:Nat):Int)<8)=false:=by decide
    go_wp2_with fail;go_ret;exact ⟨_,rfl,World.ownsRow.mono HI.o.1 HB.o.size,tr HB.o HI.o.2⟩
theorem zHb {N:Nat} (hN:N≤12) {F:Pt→Int} (hF : ∀ p,0≤F p∧F p≤255) : ∀ (n:Nat) (a:Pt),InT N n a → ∀ w:World,
 Calls Tryz.prog 85 #[.string (strOfNums (Tr.enc (Tr.can F n a))),.agg #[a.x,a.y,a.z],((n:Int)+2:Int)] w fun e w' => ∃ v,e = .returned v∧w'.ownsRow w.heap.size 64 5 v (zl n a (Tr.can F n a)).length (zHV (zl n a (Tr.can F n a)))∧Below w.heap.size w w':=by
 intro n
 induction n with
 | zero =>
   intro a hin w;have h1:=zAF hF 0 a (by omega)
   have hd:=zQ F 0 a;generalize hT:Tr.can F 0 a=T at *;cases hd with
   | uni _ c=>rw [zm];exact zHQ _ _ (zGD h1) 0 _ rfl rfl a w
   | brick l=>rw [zHj];exact zHQ _ _ (zGD h1) 0 _ rfl rfl a w
 | succ n ih =>
   intro a hin w;have OY:=hin.le;have h1:=zAF hF (n+1) a (by omega)
   have hd:=zQ F (n+1) a;have LT:Bx (∀ k:Nat,k<8 → ∀ W,Calls Tryz.prog 129 #[.string (strOfNums (Tr.enc (Tr.can F (n+1) a))),(k:Int)] W fun e w'=>e = .returned (.string (strOfNums (Tr.enc (Tr.can F n (Tr.cor a n k)))))∧Below W.heap.size W w'):=⟨fun k hk W=>zCn hF (by omega) a k hk W⟩
   have OI:=fun (k:Nat) (hk:k<8)=>zB3 F n a ⟨k,hk⟩;generalize hT:Tr.can F (n+1) a=T at *;cases hd with
   | uni _ c=>rw [zm];exact zHQ _ _ (zGD h1) (n+1) _ rfl rfl a w
   | node _ ch hch8 =>
     obtain ⟨b1,b2,b3⟩:=hin.bd hN;rw [←zHe n _ a ch,show (((n+1:Nat):Int)+2)=(n:Int)+3 by omega]
     refine zHR _ _ (zGD h1) rfl n (by omega) a (fun k=>strOfNums (Tr.enc (Tr.can F n (Tr.cor a n k)))) (fun k=>zl n (Tr.cor a n k) (Tr.can F n (Tr.cor a n k))) (zHd n a ch) (zHi _ _ _) ⟨fun k hk=>?_⟩ ⟨fun k hk=>?_⟩ LT ⟨fun k hk W=>zDT (by omega) a k hk b1 b2 b3 W⟩ ⟨fun k hk W=>ih (Tr.cor a n k) (hin.kid hk) W⟩ w
     · rw [zHh n a ch hk,←OI k hk];rfl
     · have h3:=zHf n a ch k;have h4:8 ^ n≤100000000000:=nlt (Nat.pow_le_pow_right (by decide) (show n≤12 by omega)) (by decide)
       have h5:k * 8 ^ n≤8 * 8 ^ n:=Nat.mul_le_mul_right _ hk;omega
theorem zLg {n:Nat} (hn:n≤12) {F:Pt→Int} (hF : ∀ p,0≤F p∧F p≤255) (w:World) :
 Calls Tryz.prog 26 #[.string (strOfNums (Tr.enc (trF n F))),((n:Int)+2:Int)] w fun e w' => ∃ v,e = .returned v∧w'.ownsRow w.heap.size 64 5 v (zl n ⟨0,0,0⟩ (trF n F)).length (zHV (zl n ⟨0,0,0⟩ (trF n F)))∧Below w.heap.size w w':=by
 have h:=Bx.mk fun W=>zHb hn hF n ⟨0,0,0⟩ (InT.top n) W;generalize strOfNums (Tr.enc (trF n F))=S at *;generalize zl n ⟨0,0,0⟩ (trF n F)=D at *;clear hn hF;go_enter Tryz.func26,Tryz.ntmps26;go_wp2_with fail;refine (h.o _).mono ?_;rintro _ w1 ⟨v,rfl,ho,hb⟩;have HO:=Bx.mk ho;clear ho;go_wp2_with fail;go_ret;exact ⟨_,rfl,HO.o,hb⟩
theorem zD0 {N:Nat} (hN:N≤12) {n:Nat} {a:Pt} (hin:InT N n a) (W:World) :
 Calls Tryz.prog 35 #[.agg #[a.x,a.y,a.z],((n:Int)+2:Int)] W fun e w'=>e = .returned (.agg #[a.x,a.y,a.z,(a.x+2 ^ (n+2):Int),(a.y+2 ^ (n+2):Int),(a.z+2 ^ (n+2):Int)])∧Below W.heap.size W w':=by
 have OY:=hin.le;have hp:=zt (show N+2≤14 by omega)
 have hq:=Tr.pow_pos2 n;have h:=zDp a.x a.y a.z (n+2) (by omega) ⟨hin.x.1,by have:=hin.x.2;omega⟩ ⟨hin.y.1,by have:=hin.y.2;omega⟩ ⟨hin.z.1,by have:=hin.z.2;omega⟩ W
 rw [show ((n+2:Nat):Int)=(n:Int)+2 by omega] at h
 exact h
theorem zBg {n D:Nat} {w X:World} {o o':Obj} (h:Below n w X) (hD:n≤D) (hK:X.heap[D]? = some o) (hc:o.isCells=false):Below n w (X.putObj D o'):=by
 have hk:=KpE.putObj (E:=fun _=>False) (n₀:=n) X D o o' hD hK hc;refine ⟨hk.os.trans h.os,hk.tape.trans h.tape,hk.output.trans h.output,nlt h.size hk.size,fun k hlt=>?_⟩;rw [←h.block k hlt];have OY:=h.size;cases e:X.heap[k]? with
 | none =>
   have hs:(X.putObj D o').heap.size=X.heap.size:=by simp [World.putObj]
   rw [Array.getElem?_eq_none_iff] at e ⊢;omega
 | some b=>exact hk.blk k b e (fun h=>h) (.inl hlt)
theorem zMH {n:Nat} (hn:n≤12):IntKind.i64.wrap (2 ^ (3 * ((n:Int)+2)).toNat)=((8 ^ (n+2):Nat):Int):=by
 have Qd:(8:Nat) ^ (n+2)≤4398046511104:=nlt (Nat.pow_le_pow_right (by decide) (show n+2≤14 by omega)) (by decide)
 have h8:(8:Nat) ^ (n+2)=2 ^ (3 * (n+2)):=by rw [Nat.pow_mul]
 rw [show (3 * ((n:Int)+2)).toNat=3 * (n+2) by omega]
 have h9:(2:Int) ^ (3 * (n+2))=((8 ^ (n+2):Nat):Int):=by rw [h8,Int.natCast_pow];rfl
 rw [h9];exact (fun (q:Nat) (hq:q≤4398046511104)=>wj (q:Int) (by omega)) _ Qd
theorem zBM {cs:List Int} {k:Nat} {y x:Int} (hy:cs[k]? = some y) (h:(cs.take k).any (x == ·)=false) (Ph:(y == x)=false):(cs.take (k+1)).any (x == ·)=false:=by
 rw [List.take_add_one,hy,List.any_append,h];have:(x == y)=false:=by rw [beq_eq_false_iff_ne] at Ph ⊢; exact fun e=>Ph e.symm
 simp [this]
theorem zGS (a:Option Addr) (cap:Nat) (cs:List Int) (x:Int) (w:World) (hl:cs.length≤1000000000) (h:Sl w .i64 a cs) :
 Calls Tryz.prog 81 #[.slice a cs.length cap,x] w fun e w'=>e = .returned (.bool (cs.any (x == ·)))∧w=w':=by
 obtain ⟨n,hn⟩ : ∃ n,n=cs.length:=⟨_,rfl⟩;rw [←hn] at hl ⊢;have Hn:=Bx.mk hn;have Hs:=Bx.mk h;clear hn h;go_enter Tryz.func81,Tryz.ntmps81;go_wp2_with fail
 go_loop [5] (fun i => ∃ k:Nat,k≤n∧i = .int .i64 k∧Bx ((cs.take k).any (x == ·)=false)) (fun i=>n - (intOf i).toNat)
 case atStart=>exact ⟨0,Nat.zero_le _,rfl,⟨rfl⟩⟩
 case round =>
  obtain ⟨k,hk,rfl,Px⟩:=hrel;by_cases hlt:k<n
  · have t0:decide ((k:Int)<(n:Int))=true:=by simp;omega
    obtain ⟨y,hy⟩ : ∃ y,cs[k]? = some y:=⟨_,lge (by rw [←Hn.o];exact hlt)⟩
    obtain ⟨b,off,rfl,hc⟩:=Hs.o k y hy;have b1:(0:Int)≤(k:Int):=by omega
    have b2:(k:Int)<(n:Int):=by omega
    cases he:(y == x) with
    | true =>
      have Hm:Bx (cs.any (x == ·)=true):=⟨List.any_eq_true.2 ⟨y,List.mem_of_getElem? hy,by rw [beq_iff_eq] at he ⊢; exact he.symm⟩⟩
      clear hy;go_wp2_with fail;go_ret;exact ⟨by rw [Hm.o];rfl,rfl⟩
    | false =>
      have Py:=Bx.mk (zBM hy Px.o he);clear hy;go_wp2_with fail;go_round
      case rel=>exact ⟨k+1,by omega,by go_num,Py⟩
      case measure=>simp [intOf];omega
  · obtain rfl:k=n:=by omega
    have t0:decide ((k:Int)<(k:Int))=false:=by simp
    have Hm:=Bx.mk (show cs.any (x == ·)=false by have:=Px.o;rw [List.take_of_length_le (by rw [Hn.o];exact Nat.le_refl _)] at this;exact this)
    go_wp2_with fail;go_ret;exact ⟨by rw [Hm.o];rfl,rfl⟩
theorem zFX {α:Type} (f:α→List Value) (m:Nat) (hf : ∀ x,(f x).length=m) : ∀ (L:List α) (k:Nat) (x:α) (j:Nat),L[k]? = some x→j<m→(L.flatMap f)[k * m+j]? = (f x)[j]?
 | [],k,x,j,h,_=>by simp at h
 | y :: L, 0, x, j, h, hj => by
   simp only [List.getElem?_cons_zero,Option.some.injEq] at h;subst h;rw [List.flatMap_cons,Nat.zero_mul,Nat.zero_add,List.getElem?_append_left (by rw [hf];exact hj)]
 | y :: L, k + 1, x, j, h, hj => by
   rw [List.getElem?_cons_succ] at h;rw [List.flatMap_cons,List.getElem?_append_right (by rw [hf,Nat.add_mul];omega),hf,show (k+1) * m+j - m=k * m+j by rw [Nat.add_mul];omega]
   exact zFX f m hf L k x j h hj
def CSl (w:World) (a:Option Addr) (L:List (Pt × Nat)):Prop := ∀ (k:Nat) x,L[k]? = some x → ∃ g,a=some ⟨g,0,none⟩ ∧ ∀ j,j<4→w.cell? ⟨g,k * 4+j,none⟩=(zD6 x)[j]?
theorem zDl {w:World} {B:Nat} {v:Value} {L:List (Pt × Nat)} (h:w.ownsRow B 39 4 v L.length (zP L)) : ∃ a c,v = .slice a L.length c∧CSl w a L:=by
 obtain ⟨a,c,rfl,_,_,hc⟩:=zJk h;refine ⟨a,c,rfl,fun k x hx=>?_⟩
 have hj : ∀ j,j<4 → ∃ g,a=some ⟨g,0,none⟩∧w.cell? ⟨g,k * 4+j,none⟩=(zD6 x)[j]? := fun j hj=>by
  have h1:=zFX zD6 4 (fun _=>rfl) L k x j hx hj;have h2 : ∃ u,(zD6 x)[j]? = some u:=⟨_,lge (show j<(zD6 x).length from hj)⟩;obtain ⟨u,hu⟩:=h2;rw [hu] at h1;obtain ⟨g,hg,LZ⟩:=hc _ u h1;exact ⟨g,hg,by rw [hu];exact LZ⟩
 obtain ⟨g,hg,h0⟩:=hj 0 (by decide)
 refine ⟨g,hg,fun j hlt=>?_⟩;obtain ⟨g',N1,h⟩:=hj j hlt;rw [hg] at N1;simp only [Option.some.injEq,Addr.mk.injEq,and_true] at N1;subst N1;exact h
theorem CSl.la {w w':World} {a:Option Addr} {L:List (Pt × Nat)} (h:CSl w a L) (hb:Below w.heap.size w w'):CSl w' a L:=fun k x hx=>by
 obtain ⟨g,hg,hc⟩:=h k x hx
 exact ⟨g,hg,fun j hj=>by
  have h2 : ∃ u,(zD6 x)[j]? = some u:=⟨_,lge (show j<(zD6 x).length from hj)⟩;obtain ⟨u,hu⟩:=h2;rw [hu];exact cell_later hb (by rw [hc j hj];exact hu)⟩
theorem zL6 (a b:Option Addr) (c d:Nat) (L:List (Pt × Nat)) (hl:L.length≤1000000000000) (w:World) (ha:CSl w a L) (hb:CSl w b L) :
 Calls Tryz.prog 18 #[.slice a L.length c,.slice b L.length d] w fun e w'=>e = .returned (.bool true)∧Below w.heap.size w w':=by
 obtain ⟨n,hn⟩ : ∃ n,n=L.length:=⟨_,rfl⟩;rw [←hn] at hl ⊢;have Hn:=Bx.mk hn;have HA:=Bx.mk ha;have HB:=Bx.mk hb;clear hn ha hb;have tn:((n:Int) != (n:Int))=false:=by simp
 go_enter Tryz.func18,Tryz.ntmps18;go_wp2_with fail
 go_loopw [5] (fun i wr => ∃ k:Nat,k≤n∧i = .int .i64 k∧Bx (Below w.heap.size w wr)) (fun i _=>n - (intOf i).toNat)
 case atStart=>exact ⟨0,Nat.zero_le _,rfl,⟨br⟩⟩
 case round =>
  obtain ⟨k,hk,rfl,HW⟩:=hrel;by_cases hlt:k<n
  · have t0:decide ((k:Int)<(n:Int))=true:=by simp;omega
    obtain ⟨x,hx⟩ : ∃ x,L[k]? = some x:=⟨_,lge (by rw [←Hn.o];exact hlt)⟩
    obtain ⟨g,rfl,hg⟩:=HA.o.la HW.o k x hx;obtain ⟨g',rfl,N1⟩:=HB.o.la HW.o k x hx;have b1:(0:Int)≤(k:Int):=by omega
    have b2:(k:Int)<(n:Int):=by omega
    have x0 : ∀ dk osk,(grow (redrawn wr dk) osk).cell? ⟨g,k * 4,none⟩=some (.int .i64 x.1.x):=cq (hg 0 (by decide))
    have x1 : ∀ dk osk,(grow (redrawn wr dk) osk).cell? ⟨g,k * 4+1,none⟩=some (.int .i64 x.1.y):=cq (hg 1 (by decide))
    have x2 : ∀ dk osk,(grow (redrawn wr dk) osk).cell? ⟨g,k * 4+2,none⟩=some (.int .i64 x.1.z):=cq (hg 2 (by decide))
    have x3 : ∀ dk osk,(grow (redrawn wr dk) osk).cell? ⟨g,k * 4+3,none⟩=some (.int .i64 ((x.2:Int)+2)):=cq (hg 3 (by decide))
    have y0 : ∀ dk osk,(grow (redrawn wr dk) osk).cell? ⟨g',k * 4,none⟩=some (.int .i64 x.1.x):=cq (N1 0 (by decide))
    have y1 : ∀ dk osk,(grow (redrawn wr dk) osk).cell? ⟨g',k * 4+1,none⟩=some (.int .i64 x.1.y):=cq (N1 1 (by decide))
    have y2 : ∀ dk osk,(grow (redrawn wr dk) osk).cell? ⟨g',k * 4+2,none⟩=some (.int .i64 x.1.z):=cq (N1 2 (by decide))
    have y3 : ∀ dk osk,(grow (redrawn wr dk) osk).cell? ⟨g',k * 4+3,none⟩=some (.int .i64 ((x.2:Int)+2)):=cq (N1 3 (by decide))
    clear hx hg N1;go_upto_region 6 with fail;refine wg ?_
    repeat (first | go_big_quiet_step (fail) | quiet_step (fail))
    refine wq ?_;rintro _ ⟨⟨dq,osq⟩,rfl⟩;have Kk:=bq wr dq osq;clear x0 x1 x2 x3 y0 y1 y2 y3;generalize grow (redrawn wr dq) osq=wq at *;have HJ:=Bx.mk (tr HW.o Kk);clear Kk;go_wp2_with fail
    go_roundw
    case rel=>exact ⟨k+1,by omega,by go_num,HJ⟩
    case measure=>simp [intOf];omega
  · obtain rfl:k=n:=by omega
    have t0:decide ((k:Int)<(k:Int))=false:=by simp
    go_wp2_with fail;go_ret;exact ⟨rfl,HW.o⟩
def LSl (w:World) (a:Option Addr) (L:List (Pt × Nat × Tr)):Prop := ∀ (k:Nat) x,L[k]? = some x → ∃ g,a=some ⟨g,0,none⟩ ∧ ∀ j,j<5→w.cell? ⟨g,k * 5+j,none⟩=(zHU x)[j]?
theorem zH2 {w:World} {B:Nat} {v:Value} {L:List (Pt × Nat × Tr)} (h:w.ownsRow B 64 5 v L.length (zHV L)) : ∃ a c,v = .slice a L.length c∧LSl w a L:=by
 obtain ⟨a,c,rfl,_,_,hc⟩:=zJk h;refine ⟨a,c,rfl,fun k x hx=>?_⟩
 have hj : ∀ j,j<5 → ∃ g,a=some ⟨g,0,none⟩∧w.cell? ⟨g,k * 5+j,none⟩=(zHU x)[j]? := fun j hj=>by
  have h1:=zFX zHU 5 (fun _=>rfl) L k x j hx hj;have h2 : ∃ u,(zHU x)[j]? = some u:=⟨_,lge (show j<(zHU x).length from hj)⟩;obtain ⟨u,hu⟩:=h2;rw [hu] at h1;obtain ⟨g,hg,LZ⟩:=hc _ u h1;exact ⟨g,hg,by rw [hu];exact LZ⟩
 obtain ⟨g,hg,h0⟩:=hj 0 (by decide)
 refine ⟨g,hg,fun j hlt=>?_⟩;obtain ⟨g',N1,h⟩:=hj j hlt;rw [hg] at N1;simp only [Option.some.injEq,Addr.mk.injEq,and_true] at N1;subst N1;exact h
theorem LSl.la {w w':World} {a:Option Addr} {L:List (Pt × Nat × Tr)} (h:LSl w a L) (hb:Below w.heap.size w w'):LSl w' a L:=fun k x hx=>by
 obtain ⟨g,hg,hc⟩:=h k x hx
 exact ⟨g,hg,fun j hj=>by
  have h2 : ∃ u,(zHU x)[j]? = some u:=⟨_,lge (show j<(zHU x).length from hj)⟩;obtain ⟨u,hu⟩:=h2;rw [hu];exact cell_later hb (by rw [hc j hj];exact hu)⟩
structure LeafF (x:Pt × Nat × Tr):Prop where
 le:x.2.1≤12
 ok:zAT x
theorem zC9 (c:Int) (L:List (Pt × Nat × Tr)) {k:Nat} {x:Pt × Nat × Tr} (hx:L[k]? = some x):zC7 c (L.take (k+1))=IntKind.i64.wrap (zC7 c (L.take k)+((zC6 c x:Nat):Int)):=by
 unfold zC7;rw [List.take_add_one,hx,List.map_append,List.sum_append,IntWalk.i64_left,zOn];simp
theorem zM3 {l:List Int} (hb:Byt l) : ∀ (k:Nat) (x:Int),l[k]? = some x → ∀ W:World,(Instr.index 9 (.string (strOfNums l)) (.int .i64 (k:Int))).run Tryz.prog W = .ok (.int .u8 x) W:=fun k x h W=>za (P:=Tryz.prog) 9 Tryz.underlying9 hb h W
theorem zOo {d:Int} (h:0≤d∧d≤255):IntKind.i64.wrap d=d:=wj _ (by omega)
theorem zDg (l:List Int) (c:Int) {i:Nat} {y:Int} (hy:l[i]? = some y):(l.take (i+1)).count c=(l.take i).count c+if y == c then 1 else 0:=by
 rw [List.take_add_one,hy,List.count_append];simp [List.count_cons]
def zDB (s:Int) (l:List Int) (c:Int) (i:Nat):Int:=wrap64 (s+(((l.take i).count c:Nat):Int))
theorem zDD (s:Int) (l:List Int) (c:Int) {i:Nat} {y:Int} (hy:l[i]? = some y) (h:(y == c)=false):zDB s l c (i+1)=zDB s l c i:=by
 unfold zDB;rw [zDg l c hy,h];simp
theorem zDC (s:Int) (l:List Int) (c:Int) {i:Nat} {y:Int} (hy:l[i]? = some y) (h:(y == c)=true):IntKind.i64.wrap (zDB s l c i+1)=zDB s l c (i+1):=by
 unfold zDB;rw [zDg l c hy,h,IntWalk.i64_left,zOn];simp [Int.add_assoc]
theorem zDE (L:List (Pt × Nat × Tr)) (l:List Int) (c:Int) (k:Nat):zDB (zC7 c (L.take k)) l c 0=zC7 c (L.take k):=by
 unfold zDB zC7;rw [List.take_zero,zOn];simp
theorem zDA (c:Int) (L:List (Pt × Nat × Tr)) (k:Nat):IntKind.i64.wrap (zC7 c (L.take k)+((0:Nat):Int))=zC7 c (L.take k):=by
 unfold zC7;rw [IntWalk.i64_left,zOn];simp
theorem zDf (S:ByteArray) (H c:Int) (L:List (Pt × Nat × Tr)) (hL : ∀ x∈L,LeafF x) (hl:L.length≤1000000000000) (w:World)
 (PC : ∀ W,Calls Tryz.prog 26 #[.string S,H] W fun e w' => ∃ v,e = .returned v∧w'.ownsRow W.heap.size 64 5 v L.length (zHV L)∧Below W.heap.size W w') :
 Calls Tryz.prog 24 #[.string S,H,c] w fun e w'=>e = .returned (.int .i64 (zC7 c L))∧Below w.heap.size w w':=by
 have HL:=Bx.mk hL;have HV:=Bx.mk PC;have RW:zC7 c (L.take 0)=0:=by unfold zC7;rw [List.take_zero,List.map_nil,List.sum_nil];simp only [wrap64,IntKind.wrap];rfl
 clear hL PC;go_enter Tryz.func24,Tryz.ntmps24;go_wp2_with fail;refine (HV.o _).mono ?_;rintro _ W ⟨v,rfl,ho,hb⟩;obtain ⟨a,cp,rfl,Rn⟩:=zH2 ho;have HB:=Bx.mk hb;have HS:=Bx.mk Rn;obtain ⟨n,hn⟩ : ∃ n,n=L.length:=⟨_,rfl⟩;rw [←hn] at hl ⊢;have Hn:=Bx.mk hn;clear ho hb Rn HV hn;go_wp2_with fail
 go_loopw [7,9] (fun v7 v9 wr => ∃ k:Nat,k≤n∧v7 = .int .i64 (zC7 c (L.take k))∧v9 = .int .i64 k∧Bx (Below W.heap.size W wr)) (fun _ i _=>n - (intOf i).toNat)
 case atStart=>exact ⟨0,Nat.zero_le _,by rw [RW],rfl,⟨br⟩⟩
 case round =>
  obtain ⟨k,hk,rfl,rfl,HW⟩:=hrel;by_cases hlt:k<n
  · have t0:decide ((k:Int)<(n:Int))=true:=by simp;omega
    obtain ⟨x,hx⟩ : ∃ x,L[k]? = some x:=⟨_,lge (by rw [←Hn.o];exact hlt)⟩
    obtain ⟨g,rfl,hg⟩:=HS.o.la HW.o k x hx;have HF:=HL.o x (List.mem_of_getElem? hx);have Dd:=Bx.mk (zC9 c L hx);have b1:(0:Int)≤(k:Int):=by omega
    have b2:(k:Int)<(n:Int):=by omega
    have z3:wr.cell? ⟨g,k * 5+3,none⟩=some (.int .i64 ((x.2.1:Int)+2)):=hg 3 (by decide)
    have z4:wr.cell? ⟨g,k * 5+4,none⟩=some (.string (strOfNums (Tr.enc x.2.2))):=hg 4 (by decide)
    obtain ⟨q,lv,t⟩:=x;obtain ⟨OY,QE⟩:=HF;simp only [] at OY QE z3 z4;have MP:=zMH OY;have Ss:IntKind.i64.wrap (3 * ((lv:Int)+2))=3 * ((lv:Int)+2):=wj _ (by omega)
    have Rj:(0:Int)≤3 * ((lv:Int)+2):=by omega
    rcases QE with ⟨d,rfl,hd⟩ | ⟨rfl,l,rfl,hl64,Kz⟩
    · have hE:Tr.enc (.uni d)=[117,d]:=by simp [Tr.enc]
      simp only [hE] at z4;have I2:Byt [117,d]:=fun y hy=>by simp only [List.mem_cons,List.not_mem_nil,or_false] at hy;omega
      have i0:=zM3 I2 0 117 rfl;have i1:=zM3 I2 1 d rfl;rw [show ((0:Nat):Int)=0 from rfl] at i0;rw [show ((1:Nat):Int)=1 from rfl] at i1;have S9:(strOfNums [117,d]).size=2:=by rw [strOfNums_size];rfl
      have St:=zOo hd;generalize strOfNums [117,d]=X at *;have tt:decide ((1:Int)<2)=true:=by decide
      have tq:((117:Int) == 98)=false:=by decide
      cases he:(d == c) with
      | true =>
        have L5:IntKind.i64.wrap (zC7 c (L.take k)+((8 ^ (lv+2):Nat):Int))=zC7 c (L.take (k+1)):=by
         rw [Dd.o];unfold zC6;simp only [];rw [if_pos (by rw [beq_iff_eq] at he;exact he)]
        generalize RY:zC7 c (L.take (k+1))=s2 at *;generalize zC7 c (L.take k)=s1 at *;generalize ((8 ^ (lv+2):Nat):Int)=e8 at *;have DX:=Bx.mk RY;clear hx hg hd I2 Dd hE RY;go_upto_region 10 with fail;clear i1 L5 MP Ss Rj z3 z4 t0
        go_loopw [7,11] (fun v7 v11 wr=>v7 = .int .i64 s2∧v11 = .int .i64 1∧Bx (Below W.heap.size W wr)) (fun _ _ _=>0)
        case atStart=>exact ⟨rfl,rfl,HW⟩
        case round =>
         obtain ⟨rfl,rfl,HX⟩:=hrel;go_wp2_with fail
         go_roundw
         case rel=>exact ⟨k+1,by omega,by rw [DX.o],by go_num,HX⟩
         case measure=>simp [intOf];omega
      | false =>
        have L5:=Bx.mk (show zC7 c (L.take (k+1))=zC7 c (L.take k) by
         rw [Dd.o];unfold zC6;simp only [];rw [if_neg (by rw [beq_eq_false_iff_ne] at he;exact he)];exact zDA c L k)
        generalize RY:zC7 c (L.take (k+1))=s2 at *;generalize zC7 c (L.take k)=s1 at *;have DX:=Bx.mk RY;clear hx hg hd I2 Dd hE RY MP Ss Rj;go_upto_region 10 with fail;clear i1 z3 z4 t0
        go_loopw [7,11] (fun v7 v11 wr=>v7 = .int .i64 s1∧v11 = .int .i64 1∧Bx (Below W.heap.size W wr)) (fun _ _ _=>0)
        case atStart=>exact ⟨rfl,rfl,HW⟩
        case round =>
         obtain ⟨rfl,rfl,HX⟩:=hrel;go_wp2_with fail
         go_roundw
         case rel=>exact ⟨k+1,by omega,by rw [DX.o,L5.o],by go_num,HX⟩
         case measure=>simp [intOf];omega
    · have hE:Tr.enc (.brick l)=98::l:=by simp [Tr.enc]
      simp only [hE] at z4
      have I2:Byt (98::l):=fun y hy=>by
       rcases List.mem_cons.1 hy with rfl | hy
       · omega
       · exact Kz y hy
      have i0:=zM3 I2 0 98 rfl;have Cx:=Bx.mk fun (j:Nat) (y:Int) (hj:l[j]? = some y)=>zM3 I2 (j+1) y (by rw [List.getElem?_cons_succ];exact hj)
      rw [show ((0:Nat):Int)=0 from rfl] at i0;have S9:(strOfNums (98::l)).size=65:=by rw [strOfNums_size,List.length_cons,hl64]
      generalize strOfNums (98::l)=X at *
      have Cp:=Bx.mk (show zDB (zC7 c (L.take k)) l c 64=zC7 c (L.take (k+1)) by
       rw [Dd.o,IntWalk.i64_left];unfold zDB zC6;rw [show l.take 64=l from List.take_of_length_le (by omega)])
      have De:=Bx.mk (zDE L l c k);generalize RY:zC7 c (L.take (k+1))=s2 at *;generalize zC7 c (L.take k)=s1 at *;have DX:=Bx.mk RY;have D3:=Bx.mk hl64;have CX:=Bx.mk Kz;have tq:((98:Int) == 98)=true:=by decide
      clear hx hg I2 Dd hE RY MP Ss Rj z3 hl64 Kz OY;go_upto_region 10 with fail;clear z4 t0
      go_loopw [7,11] (fun v7 v11 wr => ∃ j:Nat,j≤64∧v7 = .int .i64 (zDB s1 l c j)∧v11 = .int .i64 ((j:Int)+1)∧Bx (Below W.heap.size W wr)) (fun _ v _=>65 - (intOf v).toNat)
      case atStart=>exact ⟨0,by omega,by rw [De.o],rfl,HW⟩
      case round =>
       obtain ⟨j,hj,rfl,rfl,HX⟩:=hrel;by_cases hj4:j<64
       · have t0:decide ((j:Int)+1<65)=true:=by simp;omega
         obtain ⟨y,hy⟩ : ∃ y,l[j]? = some y:=⟨_,lge (by rw [D3.o];exact hj4)⟩
         have i1:=Cx.o j y hy;rw [show (((j+1:Nat)):Int)=(j:Int)+1 by omega] at i1
         have T8:=zOo (CX.o y (List.mem_of_getElem? hy));have Sr:IntKind.i64.wrap ((j:Int)+1+1)=(j:Int)+1+1:=wj _ (by omega)
         cases he:(y == c) with
         | true =>
           have hh:=zDC s1 l c hy he;generalize SW:zDB s1 l c (j+1)=v2 at *;have HV2:=Bx.mk SW;clear hy SW;go_wp2_with fail
           go_roundw
           case rel=>exact ⟨j+1,by omega,by rw [HV2.o],by go_num,HX⟩
           case measure=>simp [intOf];omega
         | false =>
           have hh:=Bx.mk (zDD s1 l c hy he);clear hy;go_wp2_with fail
           go_roundw
           case rel=>exact ⟨j+1,by omega,by rw [hh.o],by go_num,HX⟩
           case measure=>simp [intOf];omega
       · obtain rfl:j=64:=by omega
         have t0:decide (((64:Nat):Int)+1<65)=false:=by decide
         go_wp2_with fail
         go_roundw
         case rel=>exact ⟨k+1,by omega,by rw [Cp.o,DX.o],by go_num,HX⟩
         case measure=>simp [intOf];omega
  · obtain rfl:k=n:=by omega
    have t0:decide ((k:Int)<(k:Int))=false:=by simp
    have he:=Bx.mk (show L.take k=L by rw [Hn.o,List.take_length])
    go_wp2_with fail;go_ret;exact ⟨by rw [he.o];rfl,tr HB.o HW.o⟩
def zF9 (b:Box) (cs:List Int) (x:Pt × Nat × Tr):Bool :=
 match x.2.2 with
 | .uni d=>cs.any (d == ·) && !zS (zn (cb x.1 (x.2.1+2)) b)
 | .brick l => !zS (zn (cb x.1 (x.2.1+2)) b) && (List.range 64).any fun i=>inB (atB (cb x.1 (x.2.1+2)) (i:Int)) b && cs.any (l.getD i 0 == ·)
 | .node _ _=>false
theorem zIP {p:Pt} {a b:Box} (Ph:zS (zn a b)=false) (h:inB p (zn a b)=true):inB p a=true∧inB p b=true:=by
 unfold zn at h Ph;by_cases e:zS (zGx a b)=true
 · rw [if_pos e] at Ph;exact absurd Ph (by decide)
 · rw [if_neg e] at h;exact zGZ.1 h
theorem zGC {b:Box} {cs:List Int} {x:Pt × Nat × Tr} (hx:zAT x):zF9 b cs x=zGB b cs x:=by
 obtain ⟨q,lv,t⟩:=x;rcases hx with ⟨d,h,_⟩ | ⟨h0,l,h,hl,_⟩
 · simp only [] at h;subst h;unfold zF9 zGB;exact Bool.and_comm _ _
 · simp only [] at h h0;subst h h0;unfold zF9 zGB;simp only [];cases hE:zS (zn (cb q (0+2)) b) with
   | true=>rfl
   | false =>
     simp only [Bool.not_false,Bool.true_and];have hv:zAE (cb q (0+2))=64:=(zDm q.x q.y q.z).2.2;rw [Bool.eq_iff_iff,List.any_eq_true,List.any_eq_true];constructor
     · rintro ⟨i,hi,h⟩;rw [List.mem_range] at hi;rw [Bool.and_eq_true] at h;obtain ⟨h1,h2⟩:=zBZ (b:=cb q (0+2)) (i:=i) (by rw [hv];exact hi)
       have hm:=(zGa h1 h.1).1;have hb:=zf hm;refine ⟨l.getD i 0,?_,h.2⟩;have hg:=zJ (b:=zn (cb q (0+2)) b) (f:=zE (cb q (0+2)) l) (i:=(ze (zn (cb q (0+2)) b) (atB (cb q (0+2)) i)).toNat) (by omega)
       refine List.mem_of_getElem? (hg.trans ?_);rw [Int.toNat_of_nonneg hb.1,zBX hm];unfold zE;rw [if_pos h1,h2];rfl
     · rintro ⟨y,hy,h⟩;obtain ⟨j,hj,hjy⟩:=List.getElem_of_mem hy;rw [zK] at hj;have hg:=zJ (b:=zn (cb q (0+2)) b) (f:=zE (cb q (0+2)) l) hj;rw [lge (by rw [zK];exact hj),hjy] at hg
       have TL:=osi hg;obtain ⟨h1,-⟩:=zBZ (b:=zn (cb q (0+2)) b) hj;obtain ⟨h3,h4⟩:=zIP hE h1;have hb:=zf h3;rw [hv] at hb;refine ⟨(ze (cb q (0+2)) (atB (zn (cb q (0+2)) b) j)).toNat,by rw [List.mem_range];omega,?_⟩
       rw [Int.toNat_of_nonneg hb.1,zBX h3,h4,Bool.true_and];unfold zE at TL;rw [if_pos h3] at TL;rw [←TL];exact h
end
end Go.Proofs.YtfcbajmjaifjlaaGreat