/- Rfr, Rm4, Add, Mtp, Mtc, Bu1, Few1, Wrd, Blw: joined by program, for one claim. -/
import Derived.Test.YtfcbajmjaifjlaaGreatDoorM27
import Derived.Lib.EndianBits
import Derived.Laws.Tables
set_option maxHeartbeats 2000000
set_option maxRecDepth 100000
set_option linter.unusedVariables false
set_option linter.unusedSimpArgs false
namespace Go.Proofs.YtfcbajmjaifjlaaGreatDoor
section
open Go.RowKit Go.Sort Go.Maps
open Oct
theorem zKx (a b c d e f:Int) (ha:Option Addr) (hcp:Nat) (xs:List Int) (HX:GoodG ⟨⟨a,b,c⟩,⟨d,e,f⟩⟩ xs hcp) : ∀ (n:Nat),n≤12 → ∀ (ax ay az:Int),Tr.Al n ⟨ax,ay,az⟩→(0≤ax∧ax+2 ^ (n+2)≤16384)→(0≤ay∧ay+2 ^ (n+2)≤16384)→(0≤az∧az+2 ^ (n+2)≤16384) → ∀ (w:World),Sl w .i64 ha xs →
 Calls Tryz.prog 85 #[.agg #[a,b,c,d,e,f,.slice ha xs.length hcp],.agg #[ax,ay,az],.int .i64 ((n:Int)+2)] w fun e' w'=>e' = .returned (.string (strOfNums (Tr.enc (Tr.can (zF ⟨⟨a,b,c⟩,⟨d,e,f⟩⟩ xs) n ⟨ax,ay,az⟩))))∧Below w.heap.size w w':=by
 intro n
 induction n with
 | zero =>
   intro _ ax ay az hal hx hy hz w hsl;have e4:(2:Int) ^ (0+2)=4:=by decide
   rw [e4] at hx hy hz;have hcub:=Bx.mk fun W=>zDk ax ay az 2 (by omega) (by omega) (by omega) (by omega) W
   rw [show (2:Int) ^ 2=4 by decide] at hcub
   cases hem:zG (zD ⟨⟨ax,ay,az⟩,⟨ax+4,ay+4,az+4⟩⟩ ⟨⟨a,b,c⟩,⟨d,e,f⟩⟩) with
   | true =>
     have h0:=zBM 0 ⟨ax,ay,az⟩ (zF ⟨⟨a,b,c⟩,⟨d,e,f⟩⟩ xs) hal (fun p hp=>zDD (m:=4) (by decide) hal hem xs hp)
     rw [h0];exact zEB a b c d e f ha hcp xs ax ay az _ 4 hcub hem w
   | false=>exact zI1 a b c d e f ha hcp xs HX ax ay az 4 rfl (by omega) (by omega) (by omega) hcub hem w hsl
 | succ n ih =>
   intro hn ax ay az hal hx hy hz w hsl;have hps:=Tr.pow_succ2 n;have hp:=zV (show n+2≤14 by omega)
   have hcub:=Bx.mk fun W=>zDk ax ay az (n+3) (by omega) (by omega) (by omega) (by omega) W
   have h3:((n+1:Nat):Int)+2=(n:Int)+3:=by omega
   rw [show ((n+3:Nat):Int)=(n:Int)+3 by omega] at hcub
   rw [h3];cases hem:zG (zD ⟨⟨ax,ay,az⟩,⟨ax+2 ^ (n+3),ay+2 ^ (n+3),az+2 ^ (n+3)⟩⟩ ⟨⟨a,b,c⟩,⟨d,e,f⟩⟩) with
   | true =>
     have h0:=zBM (n+1) ⟨ax,ay,az⟩ (zF ⟨⟨a,b,c⟩,⟨d,e,f⟩⟩ xs) hal (fun p hp=>zDD (m:=2 ^ (n+3)) rfl hal hem xs hp);rw [h0];exact zEB a b c d e f ha hcp xs ax ay az _ _ hcub hem w
   | false =>
     refine zI0 a b c d e f ha hcp xs n (by omega) _ HX.range ax ay az _ (by omega) (by omega) (by omega) hcub hem ⟨fun k hk W h=>?_⟩ w hsl
     have hb:=zMJ hk (show (0:Int)≤2 ^ (n+2) by omega)
     have hco:=zMo ax ay az n k;have h1:=Tr.al_cor hal k;rw [hco] at h1 ⊢;exact ih (by omega) _ _ _ h1 (by omega) (by omega) (by omega) W h
theorem zNJ {a b c x y z:Int} (ha:0<a) (hb:0<b) (hc:0<c) (h1:0≤x∧x≤a) (h2:0≤y∧y≤b) (h3:0≤z∧z≤c) (h:x * y * z=a * b * c):x=a∧y=b∧z=c:=by
 have hab:0<a * b:=Int.mul_pos ha hb;have hp:0<a * b * c:=Int.mul_pos hab hc;have hxy:0≤x * y∧x * y≤a * b:=zFe h1.1 h2.1 h1.2 h2.2
 have hz:z=c:=by
  apply Classical.byContradiction;intro hne;have hz1:z≤c - 1:=by omega
  have:=zFe hxy.1 h3.1 hxy.2 hz1;rw [h,Int.mul_sub,Int.mul_one] at this;omega
 rw [hz] at h;have hxy2:x * y=a * b:=Int.eq_of_mul_eq_mul_right (by omega) h
 have hy:y=b:=by
  apply Classical.byContradiction;intro hne;have:=zFe h1.1 h2.1 h1.2 (show y≤b - 1 by omega)
  rw [hxy2,Int.mul_sub,Int.mul_one] at this;omega
 rw [hy] at hxy2;exact ⟨Int.eq_of_mul_eq_mul_right (by omega) hxy2,hy,hz⟩
theorem zKs {A B:Box} (hB:zG B=false):(zU (zD A B) == zU B)=decide (zD A B=B):=by
 have hb:=za.1 hB;have hv:=zB4 hB;rw [Bool.eq_iff_iff,beq_iff_eq,decide_eq_true_iff];constructor
 · intro h;unfold zD at h ⊢;split at h
   · rename_i he;have:zU Box.zero=0:=by decide
     omega
   · rename_i he;rw [if_neg he]
     have he':zG (zBQ A B)=false:=by cases hq:zG (zBQ A B) with
      | true=>exact absurd hq he
      | false=>rfl
     have hj:=za.1 he';unfold zU at h;rw [zc he',zc hB] at h;unfold zBQ at h hj ⊢;simp only [Pt.sub] at h hj;have:=zNJ (by omega) (by omega) (by omega) (by omega) (by omega) (by omega) h
     obtain ⟨⟨l0,l1,l2⟩,⟨u0,u1,u2⟩⟩:=B;simp only [] at this hb ⊢;simp only [Box.mk.injEq,Pt.mk.injEq];omega
 · intro h;rw [h]
theorem zCf (a b c d e f:Int) (ha:Option Addr) (hcp:Nat) (xs:List Int) (hl:xs.length≤300) (dd:Int) (w:World) (hsl:Sl w .i64 ha xs) :
 Calls Tryz.prog 14 #[.agg #[a,b,c,d,e,f,.slice ha xs.length hcp],dd] w fun e' w'=>e' = .returned (.int .i64 (zA9 ⟨⟨a,b,c⟩,⟨d,e,f⟩⟩ xs dd))∧Below w.heap.size w w':=by
 by_cases hlo:dd<2
 · have t1:decide (dd<2)=true:=by simpa using hlo
   have hr:=Bx.mk (show zA9 ⟨⟨a,b,c⟩,⟨d,e,f⟩⟩ xs dd=13 by unfold zA9;rw [if_pos (.inl hlo)])
   clear hlo;go_enter Tryz.func14,Tryz.ntmps14;go_wp2_with fail;go_ret;exact ⟨by rw [hr.out];rfl,(Below.refl _ _).alloc (Nat.le_refl _) _⟩
 · have t1:decide (dd<2)=false:=by simpa using hlo
   by_cases hhi:14<dd
   · have t2:decide (14<dd)=true:=by simpa using hhi
     have hr:=Bx.mk (show zA9 ⟨⟨a,b,c⟩,⟨d,e,f⟩⟩ xs dd=13 by unfold zA9;rw [if_pos (.inr hhi)])
     clear hlo hhi;go_enter Tryz.func14,Tryz.ntmps14;go_wp2_with fail;go_ret;exact ⟨by rw [hr.out];rfl,(Below.refl _ _).alloc (Nat.le_refl _) _⟩
   · have t2:decide (14<dd)=false:=by simpa using hhi
     obtain ⟨L,hL⟩ : ∃ L:Nat,dd=L:=⟨dd.toNat,by omega⟩
     subst hL;have hval:=Bx.mk fun W (h:Sl W .i64 ha xs)=>zFP a b c d e f ha hcp xs hl W h;have hemp:=Bx.mk fun W=>zAp a b c d e f W;have hcub:=Bx.mk fun W=>zIa L (by omega) W
     have hfe:zA9 ⟨⟨a,b,c⟩,⟨d,e,f⟩⟩ xs L=if zAA ⟨⟨a,b,c⟩,⟨d,e,f⟩⟩ xs=true∧(zG ⟨⟨a,b,c⟩,⟨d,e,f⟩⟩=true∨zQ ⟨⟨0,0,0⟩,⟨2 ^ L,2 ^ L,2 ^ L⟩⟩ ⟨⟨a,b,c⟩,⟨d,e,f⟩⟩=true) then 0 else 1:=by
      unfold zA9;rw [if_neg (by omega)];rfl
     have hsm:zAA ⟨⟨a,b,c⟩,⟨d,e,f⟩⟩ xs=true→Small ⟨⟨a,b,c⟩,⟨d,e,f⟩⟩ 1048575:=fun h=>by
      simp only [zAA,Bool.and_eq_true] at h;exact zAS h.1.1.1.1
     have hcon:zAA ⟨⟨a,b,c⟩,⟨d,e,f⟩⟩ xs=true → ∀ W,Calls Tryz.prog 58 #[.agg #[(0:Int),(0:Int),(0:Int),.int .i64 (2 ^ L),.int .i64 (2 ^ L),.int .i64 (2 ^ L)],.agg #[a,b,c,d,e,f]] W fun e' w'=>e' = .returned (.bool (zU (zD ⟨⟨0,0,0⟩,⟨2 ^ L,2 ^ L,2 ^ L⟩⟩ ⟨⟨a,b,c⟩,⟨d,e,f⟩⟩) == zU ⟨⟨a,b,c⟩,⟨d,e,f⟩⟩))∧Below W.heap.size W w':=fun h W=>zCv 0 0 0 (2 ^ L) (2 ^ L) (2 ^ L) a b c d e f (hsm h) W
     have hcv:zG ⟨⟨a,b,c⟩,⟨d,e,f⟩⟩=false→zQ ⟨⟨0,0,0⟩,⟨2 ^ L,2 ^ L,2 ^ L⟩⟩ ⟨⟨a,b,c⟩,⟨d,e,f⟩⟩=(zU (zD ⟨⟨0,0,0⟩,⟨2 ^ L,2 ^ L,2 ^ L⟩⟩ ⟨⟨a,b,c⟩,⟨d,e,f⟩⟩) == zU ⟨⟨a,b,c⟩,⟨d,e,f⟩⟩):=fun h=>by
      rw [zKs h];unfold zQ;rw [h,Bool.false_or]
     have Hsl:=Bx.mk hsl;clear hsl hsm;generalize zQ ⟨⟨0,0,0⟩,⟨2 ^ L,2 ^ L,2 ^ L⟩⟩ ⟨⟨a,b,c⟩,⟨d,e,f⟩⟩=cb at *;generalize (zU (zD ⟨⟨0,0,0⟩,⟨2 ^ L,2 ^ L,2 ^ L⟩⟩ ⟨⟨a,b,c⟩,⟨d,e,f⟩⟩) == zU ⟨⟨a,b,c⟩,⟨d,e,f⟩⟩)=vb at *;generalize zAA ⟨⟨a,b,c⟩,⟨d,e,f⟩⟩ xs=va at *;generalize zG ⟨⟨a,b,c⟩,⟨d,e,f⟩⟩=em at *;generalize zA9 ⟨⟨a,b,c⟩,⟨d,e,f⟩⟩ xs L=r at *;generalize (2:Int) ^ L=m at *;cases va with
     | false =>
       have Hr:=Bx.mk (show r=1 by simpa using hfe)
       clear hfe hcon hcv hlo hhi;go_enter Tryz.func14,Tryz.ntmps14;go_wp2_with fail;generalize hW:World.alloc w _=W;have hSz:=sz1 hW;have hB:=bl1 hW;have kg:Bk W (w.heap.size) #[a,b,c,d,e,f,.slice ha xs.length hcp] 28:=bk0 hW;clear hW;obtain ⟨cg0,cg1,cg2,cg3,cg4,cg5,cg6⟩:=kg.c7;go_wp2_with fail;refine (hval.out _ (Hsl.out.below hB)).mono ?_;rintro _ w1 ⟨rfl,hb1⟩;replace hB:=hB.trans (hb1.mono hB.size);replace kg:=kg.later hb1;replace hSz:=Nat.le_trans hSz hb1.size;clear hb1;clear cg0 cg1 cg2 cg3 cg4 cg5 cg6;go_wp2_with fail;go_ret;exact ⟨by rw [Hr.out];rfl,hB⟩
     | true =>
       have hcon2:=Bx.mk (hcon rfl);clear hcon;cases em with
       | true =>
         have Hr:=Bx.mk (show r=0 by simpa using hfe)
         clear hfe hcv hlo hhi;go_enter Tryz.func14,Tryz.ntmps14;go_wp2_with fail;generalize hW:World.alloc w _=W;have hSz:=sz1 hW;have hB:=bl1 hW;have kg:Bk W (w.heap.size) #[a,b,c,d,e,f,.slice ha xs.length hcp] 28:=bk0 hW;clear hW;obtain ⟨cg0,cg1,cg2,cg3,cg4,cg5,cg6⟩:=kg.c7;go_wp2_with fail;refine (hval.out _ (Hsl.out.below hB)).mono ?_;rintro _ w1 ⟨rfl,hb1⟩;replace hB:=hB.trans (hb1.mono hB.size);replace kg:=kg.later hb1;replace hSz:=Nat.le_trans hSz hb1.size;clear hb1;clear cg0 cg1 cg2 cg3 cg4 cg5 cg6;obtain ⟨cg0,cg1,cg2,cg3,cg4,cg5,cg6⟩:=kg.c7;go_wp2_with fail;refine (hemp.out _).mono ?_;rintro _ w2 ⟨rfl,hb2⟩;replace hB:=hB.trans (hb2.mono hB.size);replace kg:=kg.later hb2;replace hSz:=Nat.le_trans hSz hb2.size;clear hb2;clear cg0 cg1 cg2 cg3 cg4 cg5 cg6;go_wp2_with fail;obtain ⟨cg0,cg1,cg2,cg3,cg4,cg5,cg6⟩:=kg.r7;have q0:=Bx.mk fun dk osk=>Calls.regrown_of (hcub.out (grow (redrawn w2 dk) osk));have q1:=Bx.mk fun dk osk=>Calls.regrown_of (hcon2.out (grow (redrawn w2 dk) osk));refine wp_region_quiet_below (by kernel_rfl) (by kernel_rfl) ?_
         repeat (first | go_big_quiet_step ((first | with_reducible exact q0.out _ _ | with_reducible exact q1.out _ _)) | quiet_step (first | with_reducible exact q0.out _ _ | with_reducible exact q1.out _ _))
         refine wpQuiet_nil ?_;rintro _ ⟨⟨dq,osq⟩,rfl⟩;have hb:=below_regrown w2 dq osq;clear cg0 cg1 cg2 cg3 cg4 cg5 cg6;clear q0;clear q1;replace hB:=hB.trans (hb.mono hB.size);replace kg:=kg.later hb;replace hSz:=Nat.le_trans hSz hb.size;clear hb;generalize grow (redrawn w2 dq) osq=w3 at *;go_wp2_with fail;go_ret;exact ⟨by rw [Hr.out];rfl,hB⟩
       | false =>
         obtain rfl:cb=vb:=hcv rfl;have Hr:=Bx.mk (show r=if cb=true then 0 else 1 by simpa using hfe)
         clear hfe hcv hlo hhi;go_enter Tryz.func14,Tryz.ntmps14;go_wp2_with fail;generalize hW:World.alloc w _=W;have hSz:=sz1 hW;have hB:=bl1 hW;have kg:Bk W (w.heap.size) #[a,b,c,d,e,f,.slice ha xs.length hcp] 28:=bk0 hW;clear hW;obtain ⟨cg0,cg1,cg2,cg3,cg4,cg5,cg6⟩:=kg.c7;go_wp2_with fail;refine (hval.out _ (Hsl.out.below hB)).mono ?_;rintro _ w1 ⟨rfl,hb1⟩;replace hB:=hB.trans (hb1.mono hB.size);replace kg:=kg.later hb1;replace hSz:=Nat.le_trans hSz hb1.size;clear hb1;clear cg0 cg1 cg2 cg3 cg4 cg5 cg6;obtain ⟨cg0,cg1,cg2,cg3,cg4,cg5,cg6⟩:=kg.c7;go_wp2_with fail;refine (hemp.out _).mono ?_;rintro _ w2 ⟨rfl,hb2⟩;replace hB:=hB.trans (hb2.mono hB.size);replace kg:=kg.later hb2;replace hSz:=Nat.le_trans hSz hb2.size;clear hb2;clear cg0 cg1 cg2 cg3 cg4 cg5 cg6;go_wp2_with fail;obtain ⟨cg0,cg1,cg2,cg3,cg4,cg5,cg6⟩:=kg.r7;have q0:=Bx.mk fun dk osk=>Calls.regrown_of (hcub.out (grow (redrawn w2 dk) osk));have q1:=Bx.mk fun dk osk=>Calls.regrown_of (hcon2.out (grow (redrawn w2 dk) osk));refine wp_region_quiet_below (by kernel_rfl) (by kernel_rfl) ?_
         repeat (first | go_big_quiet_step ((first | with_reducible exact q0.out _ _ | with_reducible exact q1.out _ _)) | quiet_step (first | with_reducible exact q0.out _ _ | with_reducible exact q1.out _ _))
         refine wpQuiet_nil ?_;rintro _ ⟨⟨dq,osq⟩,rfl⟩;have hb:=below_regrown w2 dq osq;clear cg0 cg1 cg2 cg3 cg4 cg5 cg6;clear q0;clear q1;replace hB:=hB.trans (hb.mono hB.size);replace kg:=kg.later hb;replace hSz:=Nat.le_trans hSz hb.size;clear hb;generalize grow (redrawn w2 dq) osq=w3 at *;cases cb with
         | true =>
           go_wp2_with fail;go_ret;exact ⟨by rw [Hr.out];rfl,hB⟩
         | false =>
           go_wp2_with fail;go_ret;exact ⟨by rw [Hr.out];rfl,hB⟩
theorem zEd (a b c d e f:Int) (ha:Option Addr) (hcp:Nat) (xs:List Int) (hl:xs.length≤300) (n:Nat) (hn:n≤12) (HX:GoodG ⟨⟨a,b,c⟩,⟨d,e,f⟩⟩ xs hcp) (hE:zA9 ⟨⟨a,b,c⟩,⟨d,e,f⟩⟩ xs ((n:Int)+2)=0) (w:World) (hsl:Sl w .i64 ha xs) :
 Calls Tryz.prog 33 #[.agg #[a,b,c,d,e,f,.slice ha xs.length hcp],.int .i64 ((n:Int)+2)] w fun e' w'=>e' = .returned (.tuple #[.string (strOfNums (Tr.enc (trF n (zF ⟨⟨a,b,c⟩,⟨d,e,f⟩⟩ xs)))),(0:Int)])∧Below w.heap.size w w':=by
 have hch:=Bx.mk fun W (h:Sl W .i64 ha xs)=>zCf a b c d e f ha hcp xs hl ((n:Int)+2) W h;rw [hE] at hch;have hp:=zV (show n+2≤14 by omega)
 have htr:=Bx.mk fun W (h:Sl W .i64 ha xs)=>zKx a b c d e f ha hcp xs HX n hn 0 0 0 (zB5 n) (by omega) (by omega) (by omega) W h
 have Hsl:=Bx.mk hsl;clear hsl hE HX hp;unfold trF;generalize strOfNums (Tr.enc (Tr.can (zF ⟨⟨a,b,c⟩,⟨d,e,f⟩⟩ xs) n ⟨0,0,0⟩))=S at *;go_enter Tryz.func33,Tryz.ntmps33;go_wp2_with fail;generalize hW:World.alloc w _=W;have hSz:=sz1 hW;have hB:=bl1 hW;have kg:Bk W (w.heap.size) #[a,b,c,d,e,f,.slice ha xs.length hcp] 28:=bk0 hW;clear hW;obtain ⟨cg0,cg1,cg2,cg3,cg4,cg5,cg6⟩:=kg.c7;go_wp2_with fail;refine (hch.out _ (Hsl.out.below hB)).mono ?_;rintro _ w1 ⟨rfl,hb1⟩;replace hB:=hB.trans (hb1.mono hB.size);replace kg:=kg.later hb1;replace hSz:=Nat.le_trans hSz hb1.size;clear hb1;clear cg0 cg1 cg2 cg3 cg4 cg5 cg6;obtain ⟨cg0,cg1,cg2,cg3,cg4,cg5,cg6⟩:=kg.c7;go_wp2_with fail;refine (htr.out _ (Hsl.out.below hB)).mono ?_;rintro _ w2 ⟨rfl,hb2⟩;clear cg0 cg1 cg2 cg3 cg4 cg5 cg6;replace hB:=hB.trans (hb2.mono hB.size);replace kg:=kg.later hb2;replace hSz:=Nat.le_trans hSz hb2.size;clear hb2;go_wp2_with fail
 go_ret2
 exact ⟨rfl,hB⟩
theorem InT.small {N n:Nat} {a:Pt} (hN:N≤12) (h:InT N n a):Small (zBb n a) 1048575:=by
 obtain ⟨b1,b2,b3⟩:=h.bd hN;have h1:=zV (show n+2≤14 by have:=h.le;omega)
 exact ⟨by simp only [];omega,by simp only [];omega,by simp only [];omega,by simp only [];omega,by simp only [];omega,by simp only [];omega⟩
end
section
open Go.RowKit Go.Sort
open Oct
def encs (ts:List Tr):List Value:=zBR (ts.map Tr.enc)
theorem zL4 (ts:List Tr):(encs ts).length=ts.length:=by unfold encs;rw [zAn,List.length_map]
end
section
open Go.RowKit Go.Sort Go.Maps
open Oct
structure Ed where
 x:Int
 y:Int
 z:Int
 c:Int
def SlE (w:World) (a:Option Addr) (es:List Ed):Prop := ∀ (i:Nat) (ed:Ed),es[i]? = some ed → ∃ b off,a=some ⟨b,off,none⟩∧w.cell? ⟨b,off+i * 4,none⟩=some (.int .i64 ed.x)∧w.cell? ⟨b,off+i * 4+1,none⟩=some (.int .i64 ed.y)∧w.cell? ⟨b,off+i * 4+2,none⟩=some (.int .i64 ed.z)∧w.cell? ⟨b,off+i * 4+3,none⟩=some (.int .i64 ed.c)
theorem SlE.below {w w':World} {a:Option Addr} {es:List Ed} (h:SlE w a es) (hb:Below w.heap.size w w'):SlE w' a es:=by
 intro i x hx;obtain ⟨b,off,rfl,h0,h1,h2,h3⟩:=h i x hx;exact ⟨b,off,rfl,cell_later hb h0,cell_later hb h1,cell_later hb h2,cell_later hb h3⟩
theorem zLD (w:World) (Far:Nat→Prop) (sb:Nat) (most:Int) (ts:List Tr) (n:Nat) (f:Pt→Int) (hn:n≤12) (hG:Good ts) (hlen:ts.length≤1000000000) (ht:trF n f∈ts) (px py pz c:Int) (hok:inB ⟨px,py,pz⟩ (zy (2 ^ (n+2)))=true∧0≤c∧c≤255) (hfit:Tr.Fits most ts (Tr.add (trF n (Tr.upd f ⟨px,py,pz⟩ c)) ts)) (hFar : ∀ k,Far k→k<w.heap.size) (hS:StoreIs w Far sb most ts) :
 Calls Tryz.prog 11 #[.pointer (some ⟨sb,0,none⟩),(idT ts (trF n f):Int),.int .i64 ((n:Int)+2),.agg #[px,py,pz],c] w fun e w'=>e=zAv (idT (Tr.add (trF n (Tr.upd f ⟨px,py,pz⟩ c)) ts) (trF n (Tr.upd f ⟨px,py,pz⟩ c)):Int) 0∧StoreIs w' Far sb most (Tr.add (trF n (Tr.upd f ⟨px,py,pz⟩ c)) ts)∧Keeps Far w w':=by
 obtain ⟨hI,hc⟩:=hok;by_cases hr:f ⟨px,py,pz⟩=c
 · have key:=zLB w sb n hn px py pz c hI (by simpa using hc) Far most ts (trF n f) ht (zA5 f n _) hG (by omega) hS (by rw [zJ2 hI,hr])
   rw [zKu hr,Tr.add_same _ _ ht];exact key.mono fun e w' ⟨h1,h2⟩=>⟨h1,hS.later h2,Keeps.below h2⟩
 · have hl:=zMk hn hI hc hG ht;have key:=zM9 w sb n hn px py pz c hI (by simpa using hc) Far most ts (trF n f) ht (zA5 f n _) hG (by omega) hS (by rw [zJ2 hI];exact hr) (by rw [zG4 hI];omega) hFar
   rw [zG4 hI] at key;exact key.mono fun e w' hg=>hg.fit hfit
structure MatI (w:World) (Far:Nat→Prop) (sb:Nat) (most:Int) (n:Nat) (F:Pt→Int) (ts us:List Tr) (v:Value) (wr:World):Prop where
 st:StoreIs wr Far sb most ts
 far : ∀ j,Far j→j<wr.heap.size
 old : ∀ j,j<w.heap.size→Far j
 bel:Below w.heap.size w wr
 good:Good ts
 mem:trF n F∈ts
 fn:FnC n F
 own:Ownv wr w.heap.size 9 v (encs us)
 row : ∀ g,v.ownBlock=some g→Far g
theorem Ownv.far {w w':World} {Far:Nat→Prop} {B:Nat} {e:TypeId} {v:Value} {vs:List Value} (h:Ownv w B e v vs) (hk:Keeps Far w w') (hf : ∀ g,v.ownBlock=some g→Far g):Ownv w' B e v vs:=by
 refine ⟨h.1,?_⟩;rcases h.2 with hn | ⟨g,cap,cur,rfl,hb,hgg,rest⟩
 · exact .inl hn
 · exact .inr ⟨g,cap,cur,rfl,hb,by rw [hk.block g (hf g rfl) (Array.getElem?_eq_some_iff.1 hgg).1];exact hgg,rest⟩
section
variable {w wr w':World} {Far:Nat→Prop} {sb:Nat} {most:Int} {n:Nat} {F F':Pt→Int} {ts us ts' us':List Tr} {v v':Value}
theorem MatI.later (h:MatI w Far sb most n F ts us v wr) (hb:Below wr.heap.size wr w'):MatI w Far sb most n F ts us v w' :=
 ⟨h.st.later hb,fun j hj=>Nat.lt_of_lt_of_le (h.far j hj) hb.size,h.old,h.bel.trans (hb.mono h.bel.size),h.good,h.mem,h.fn,h.own.below hb,h.row⟩
theorem MatI.made (h:MatI w Far sb most n F ts us v wr) (hk:Keeps Far wr w') (hs:StoreIs w' Far sb most ts') (hg:Good ts') (hm:trF n F'∈ts') (hf:FnC n F'):MatI w Far sb most n F' ts' us v w' :=
 ⟨hs,fun j hj=>Nat.lt_of_lt_of_le (h.far j hj) hk.size,h.old,zBx h.bel hk h.old,hg,hm,hf,h.own.far hk h.row,h.row⟩
theorem MatI.push {k:Nat} (h:MatI w Far sb most n F ts us v wr) (ha:Added wr w' v v' k) (hown:Ownv w' w.heap.size 9 v' (encs us')):MatI w (fun j=>Far j∨v'.ownBlock=some j) sb most n F ts us' v' w':=by
 have hg:=ha.grown
 have hst:StoreIs w' (fun j=>Far j∨v'.ownBlock=some j) sb most ts:=by
  have h1:StoreIs wr (fun j=>Far j∨v'.ownBlock=some j) sb most ts:=h.st.widen fun k hk=>by
   rcases hk with hk | hk
   · exact .inl hk
   · rcases ha.where_ with e | e
     · rw [e] at hk;exact .inl (h.row k hk)
     · exact .inr (e k hk)
  cases hvo:v.ownBlock with
  | none =>
    rw [hvo] at hg;exact h1.later ⟨hg.os,hg.tape,hg.output,hg.size,fun i hi=>hg.block i hi (by simp)⟩
  | some g=>rw [hvo] at hg;exact h1.apart hg (.inl (h.row g hvo))
 refine ⟨hst,fun j hj=>?_,fun j hj=>.inl (h.old j hj),?_,h.good,h.mem,h.fn,hown,fun g hg=>.inr hg⟩
 · rcases hj with hj | hj
   · exact Nat.lt_of_lt_of_le (h.far j hj) hg.size
   · exact (hown.lt j hj).2
 · exact h.bel.grown hg h.bel.size (fun g e=>(h.own.lt g e).1)
theorem MatI.drop {k:Nat} (h:MatI w Far sb most n F ts us v wr) (ha:Added wr w' v v' k) (hk:us.length≤k):MatI w Far sb most n F ts us v w':=by
 have hg:=ha.grown
 have hst:StoreIs w' Far sb most ts:=by
  cases hvo:v.ownBlock with
  | none =>
    rw [hvo] at hg;exact h.st.later ⟨hg.os,hg.tape,hg.output,hg.size,fun i hi=>hg.block i hi (by simp)⟩
  | some g=>rw [hvo] at hg;exact h.st.apart hg (h.row g hvo)
 exact ⟨hst,fun j hj=>Nat.lt_of_lt_of_le (h.far j hj) hg.size,h.old,h.bel.grown hg h.bel.size (fun g e=>(h.own.lt g e).1),h.good,h.mem,h.fn,h.own.keep ha (by rw [zL4];exact hk),h.row⟩
end
noncomputable def txt (n:Nat) (F:Pt→Int):ByteArray:=strOfNums (Tr.enc (trF n F))
noncomputable def idn (ts:List Tr) (n:Nat) (F:Pt→Int):Int:=(idT ts (trF n F):Int)
noncomputable def zDt (n:Nat) (F:Pt→Int) (ts:List Tr):List Tr:=Tr.add (trF n F) ts
theorem zGV (w:World) (sb:Nat) (a b c d e f:Int) (ha:Option Addr) (hcp:Nat) (xs:List Int) (n:Nat) (hn:n≤12) (hsl:Sl w .i64 ha xs) (HX:GoodG ⟨⟨a,b,c⟩,⟨d,e,f⟩⟩ xs hcp) (hV:zAA ⟨⟨a,b,c⟩,⟨d,e,f⟩⟩ xs=true) (hC:zG ⟨⟨a,b,c⟩,⟨d,e,f⟩⟩=true∨zQ ⟨⟨0,0,0⟩,⟨2 ^ (n+2),2 ^ (n+2),2 ^ (n+2)⟩⟩ ⟨⟨a,b,c⟩,⟨d,e,f⟩⟩=true)
 (Far:Nat→Prop) (hfx:xs ≠ [] → ∀ b,ha.map (·.block)=some b→Far b) (most:Int) (hFar : ∀ k,Far k→k<w.heap.size) (hS:StoreIs w Far sb most []) (hfit:Tr.Fits most [] (zDt n (zF ⟨⟨a,b,c⟩,⟨d,e,f⟩⟩ xs) [])) :
 Calls Tryz.prog 34 #[.pointer (some ⟨sb,0,none⟩),.agg #[a,b,c,d,e,f,.slice ha xs.length hcp],.int .i64 ((n:Int)+2)] w fun E w'=>E=zAv (idn (zDt n (zF ⟨⟨a,b,c⟩,⟨d,e,f⟩⟩ xs) []) n (zF ⟨⟨a,b,c⟩,⟨d,e,f⟩⟩ xs)) 0∧StoreIs w' Far sb most (zDt n (zF ⟨⟨a,b,c⟩,⟨d,e,f⟩⟩ xs) [])∧Keeps Far w w' :=
 (zLt w sb a b c d e f ha hcp xs n hn hsl HX hV hC Far hfx most [] zEs (by simp) hFar hS).mono fun _ _ h=>h.fit hfit
theorem zJq (a b c d e f:Int) (ha:Option Addr) (hcp:Nat) (xs:List Int) (hl:xs.length≤300) (n:Nat) (hn:n≤12) (HX:GoodG ⟨⟨a,b,c⟩,⟨d,e,f⟩⟩ xs hcp) (hE:zA9 ⟨⟨a,b,c⟩,⟨d,e,f⟩⟩ xs ((n:Int)+2)=0) (w:World) (hsl:Sl w .i64 ha xs) :
 Calls Tryz.prog 33 #[.agg #[a,b,c,d,e,f,.slice ha xs.length hcp],.int .i64 ((n:Int)+2)] w fun e' w'=>e' = .returned (.tuple #[.string (txt n (zF ⟨⟨a,b,c⟩,⟨d,e,f⟩⟩ xs)),(0:Int)])∧Below w.heap.size w w' :=
 zEd a b c d e f ha hcp xs hl n hn HX hE w hsl
theorem zIC (w:World) (Far:Nat→Prop) (sb:Nat) (most:Int) (ts:List Tr) (n:Nat) (f:Pt→Int) (hn:n≤12) (hG:Good ts) (hlen:ts.length≤1000000000) (ht:trF n f∈ts) (px py pz c:Int) (hok:inB ⟨px,py,pz⟩ (zy (2 ^ (n+2)))=true∧0≤c∧c≤255) (hfit:Tr.Fits most ts (zDt n (Tr.upd f ⟨px,py,pz⟩ c) ts)) (hFar : ∀ k,Far k→k<w.heap.size) (hS:StoreIs w Far sb most ts) :
 Calls Tryz.prog 11 #[.pointer (some ⟨sb,0,none⟩),.int .i64 (idn ts n f),.int .i64 ((n:Int)+2),.agg #[px,py,pz],c] w fun e w'=>e=zAv (idn (zDt n (Tr.upd f ⟨px,py,pz⟩ c) ts) n (Tr.upd f ⟨px,py,pz⟩ c)) 0∧StoreIs w' Far sb most (zDt n (Tr.upd f ⟨px,py,pz⟩ c) ts)∧Keeps Far w w' :=
 zLD w Far sb most ts n f hn hG hlen ht px py pz c hok hfit hFar hS
theorem zF7 {n:Nat} {F:Pt→Int} {ts:List Tr} (hn:n≤12) (hF:FnC n F) (hG:Good ts):Good (zDt n F ts):=zNz hn hF hG
theorem zHX (n:Nat) (F:Pt→Int) (ts:List Tr):trF n F∈zDt n F ts:=Tr.mem_add _ _
theorem zHW (n:Nat) (F:Pt→Int) (ts:List Tr):ts <+: zDt n F ts:=Tr.add_prefix _ _
theorem zHY {b:Box} {xs:List Int} {hcp n:Nat} (HX:GoodG b xs hcp) (hn:n≤12):(zDt n (zF b xs) []).length≤3901:=by
 have:=zOL HX hn zEs;rwa [List.length_nil,Nat.zero_add] at this
theorem zGq (most:Int) (a b c d e f:Int) (ha:Option Addr) (hcp:Nat) (xs:List Int) (hl:xs.length≤300) (n:Nat) (hn:n≤12) (HX:GoodG ⟨⟨a,b,c⟩,⟨d,e,f⟩⟩ xs hcp) (hE:zA9 ⟨⟨a,b,c⟩,⟨d,e,f⟩⟩ xs ((n:Int)+2)=0) (hV:zAA ⟨⟨a,b,c⟩,⟨d,e,f⟩⟩ xs=true) (hC:zG ⟨⟨a,b,c⟩,⟨d,e,f⟩⟩=true∨zQ ⟨⟨0,0,0⟩,⟨2 ^ (n+2),2 ^ (n+2),2 ^ (n+2)⟩⟩ ⟨⟨a,b,c⟩,⟨d,e,f⟩⟩=true) (hfit:Tr.Fits most [] (zDt n (zF ⟨⟨a,b,c⟩,⟨d,e,f⟩⟩ xs) [])) (w:World) (hsl:Sl w .i64 ha xs) :
 Calls Tryz.prog 8 #[.agg #[a,b,c,d,e,f,.slice ha xs.length hcp],.int .i64 ((n:Int)+2),most] w fun e' w' => ∃ sb,e' = .returned (.tuple #[.pointer (some ⟨sb,0,none⟩),.int .i64 (idn (zDt n (zF ⟨⟨a,b,c⟩,⟨d,e,f⟩⟩ xs) []) n (zF ⟨⟨a,b,c⟩,⟨d,e,f⟩⟩ xs)),.string (txt n (zF ⟨⟨a,b,c⟩,⟨d,e,f⟩⟩ xs)),.bool true])∧StoreIs w' (fun k=>k<w.heap.size) sb most (zDt n (zF ⟨⟨a,b,c⟩,⟨d,e,f⟩⟩ xs) [])∧Below w.heap.size w w':=by
 have hfx:xs ≠ [] → ∀ b,ha.map (·.block)=some b→b<w.heap.size:=fun hx b hb=>by
  obtain ⟨x,r,rfl⟩:=List.exists_cons_of_ne_nil hx;obtain ⟨b',off,h1,h2⟩:=hsl 0 x rfl;rw [h1] at hb;simp only [Option.map_some,Option.some.injEq] at hb;rw [←hb];exact World.block_lt_of_cell? w _ h2
 have hfr:=Bx.mk (fun W sb Far h1 h2 h3 h4=>zGV W sb a b c d e f ha hcp xs n hn h1 HX hV hC Far h2 most h3 h4 hfit);have hrf:=Bx.mk (fun W h1=>zJq a b c d e f ha hcp xs hl n hn HX hE W h1);have hsl:=Bx.mk hsl;have hfx:=Bx.mk hfx;clear HX hV hC hn hE hfit hl;generalize idn (zDt n (zF ⟨⟨a,b,c⟩,⟨d,e,f⟩⟩ xs) []) n (zF ⟨⟨a,b,c⟩,⟨d,e,f⟩⟩ xs)=iX at *;generalize zDt n (zF ⟨⟨a,b,c⟩,⟨d,e,f⟩⟩ xs) []=ts at *;generalize txt n (zF ⟨⟨a,b,c⟩,⟨d,e,f⟩⟩ xs)=S at *;go_enter Tryz.func8,Tryz.ntmps8;go_wp2_with fail;generalize hW:World.alloc w _=W;have hB:=bl1 hW;have kg:Bk W w.heap.size #[a,b,c,d,e,f,.slice ha xs.length hcp] 28:=bk0 hW;clear hW;refine (zCy most _).mono ?_;rintro _ w1 ⟨sb,rfl,hS1,hb1⟩;have HS:=Bx.mk (hS1.less (Far:=fun k=>k<w.heap.size) (fun k hk=>Nat.lt_of_lt_of_le hk hB.size));have HB:=Bx.mk (hB.trans (hb1.mono hB.size));have KG:=Bx.mk (kg.later hb1);obtain ⟨c0,c1,c2,c3,c4,c5,c6⟩:=KG.out.c7;clear hS1 hb1 hB kg;go_wp2_with fail;refine (hrf.out _ (hsl.out.below HB.out)).mono ?_;rintro _ w2 ⟨rfl,hb2⟩;replace HS:=Bx.mk (HS.out.later hb2);replace HB:=Bx.mk (HB.out.trans (hb2.mono HB.out.size));replace KG:=Bx.mk (KG.out.later hb2);clear c0 c1 c2 c3 c4 c5 c6;obtain ⟨c0,c1,c2,c3,c4,c5,c6⟩:=KG.out.c7;clear hb2;go_wp2_with fail;refine (hfr.out _ sb (fun k=>k<w.heap.size) (hsl.out.below HB.out) (fun hx b hb=>hfx.out hx b hb) (fun k hk=>Nat.lt_of_lt_of_le hk HB.out.size) HS.out).mono ?_;rintro _ w3 ⟨rfl,hS3,hK3⟩;have HB3:Bx (Below w.heap.size w w3):=⟨HB.out.trans ⟨hK3.os,hK3.tape,hK3.output,hK3.size,fun k hk=>hK3.block k hk (Nat.lt_of_lt_of_le hk HB.out.size)⟩⟩;have HS3:=Bx.mk hS3;clear hS3 hK3 c0 c1 c2 c3 c4 c5 c6;go_wp2_with fail;exact bodyPost_ret (v:=.tuple #[.pointer (some ⟨sb,0,none⟩),iX,.string S,.bool true]) (by simp [results,Tryz.results8,go_sem]) rfl ⟨sb,rfl,HS3.out,HB3.out⟩
theorem zBc (M:Int) (w:World):Calls Tryz.prog 6 #[M] w fun e w'=>e = .returned (.agg #[(0:Int),(0:Int),(0:Int),M,M,M])∧Below w.heap.size w w':=by
 go_enter Tryz.func6,Tryz.ntmps6;go_wp2_with fail;exact bodyPost_ret (v:=.agg #[(0:Int),(0:Int),(0:Int),M,M,M]) (by simp [results,Tryz.results6,go_sem]) rfl ⟨rfl,(Below.refl _ _).alloc (Nat.le_refl _) _⟩
def zHc (n:Nat) (b:Box):Bool:=zU (zD b (zy (2 ^ (n+2)))) == zU (zy (2 ^ (n+2)))
theorem zKr (n:Nat) (hn:n≤12) (b0 b1 b2 b3 b4 b5:Int) (w:World) :
 Calls Tryz.prog 18 #[.agg #[b0,b1,b2,b3,b4,b5],.int .i64 ((n:Int)+2)] w fun e w'=>e = .returned (.bool (zHc n ⟨⟨b0,b1,b2⟩,⟨b3,b4,b5⟩⟩))∧Below w.heap.size w w':=by
 have hp:=zV (show n+2≤14 by omega)
 have hpw:=zZ (show n+2≤14 by omega)
 have hsh0:Op.shift .shl .i64 1 .i64 ((n:Int)+2)=pure (.int .i64 ((2:Int) ^ (n+2))):=by
  have h:=shift_shl .i64 .i64 1 ((n:Int)+2) (by omega) (by show (n:Int)+2≤64;omega)
  rw [show ((n:Int)+2).toNat=n+2 by omega,Int.one_mul,hpw] at h
  exact h
 have hct:=Bx.mk fun W=>zCv b0 b1 b2 b3 b4 b5 0 0 0 (2 ^ (n+2)) (2 ^ (n+2)) (2 ^ (n+2)) ⟨by simp only [];omega,by simp only [];omega,by simp only [];omega,by simp only [];omega,by simp only [];omega,by simp only [];omega⟩ W
 have hwd:zHc n ⟨⟨b0,b1,b2⟩,⟨b3,b4,b5⟩⟩=(zU (zD ⟨⟨b0,b1,b2⟩,⟨b3,b4,b5⟩⟩ ⟨⟨0,0,0⟩,⟨2 ^ (n+2),2 ^ (n+2),2 ^ (n+2)⟩⟩) == zU ⟨⟨0,0,0⟩,⟨2 ^ (n+2),2 ^ (n+2),2 ^ (n+2)⟩⟩):=rfl;rw [←hwd] at hct;generalize zHc n ⟨⟨b0,b1,b2⟩,⟨b3,b4,b5⟩⟩=r at *;have hcu:=Bx.mk fun W=>zBc (2 ^ (n+2)) W;generalize (2:Int) ^ (n+2)=M at *;have HSH:=Bx.mk hsh0;clear hp hpw hwd hsh0 hn;go_enter Tryz.func18,Tryz.ntmps18;go_upto_region 1 with fail;generalize hW:World.alloc w _=W;have hB:=bl1 hW;have KB:=Bx.mk (show Bk W w.heap.size #[b0,b1,b2,b3,b4,b5] 25 by rw [←hW];exact zI _ _ _ (by simp))
 clear hW
 refine zw 4 (fun i v w'=>match i with
  | 0=>v = .agg #[b0,b1,b2,b3,b4,b5]
  | 1=>v = .int .i64 ((n:Int)+2)
  | 2=>v = .int .i64 M
  | _=>v = .agg #[(0:Int),(0:Int),(0:Int),M,M,M]) (by kernel_rfl) (by kernel_rfl) 10 (by kernel_rfl) (by rfl) ?_ ?_ ?_
 · intro i hi v u1 u2 hb h
   match i,hi with
   | 0,_=>exact h
   | 1,_=>exact h
   | 2,_=>exact h
   | 3,_=>exact h
 · intro i o hi ho ρ w1 hb hc1 hc2 hc3 hk
   match i,hi with
   | 0, _ =>
     obtain rfl:=Option.some.inj ho;have g0:ρ (.tmp 2) = .pointer (some ⟨w.heap.size,0,none⟩):=hk 2 (by simp [Op.operands,Call.operands])
     have k1:=KB.out.later hb;obtain ⟨z0,z1,z2,z3,z4,z5⟩:=k1.c6;clear hk hb hcu HSH KB hct hB;go_simp;exact Below.refl _ _
   | 1, _ =>
     obtain rfl:=Option.some.inj ho;have g0:ρ (.tmp 1) = .int .i64 ((n:Int)+2):=hk 1 (by simp [Op.operands,Call.operands])
     clear hk hb hcu HSH KB hct hB;go_simp;exact Below.refl _ _
   | 2, _ =>
     obtain rfl:=Option.some.inj ho;have g0:ρ (.tmp 6) = .int .i64 ((n:Int)+2):=hk 6 (by simp [Op.operands,Call.operands])
     have e1:=HSH.out;clear hk hb hcu HSH KB hct hB;go_simp;exact Below.refl _ _
   | 3, _ =>
     obtain rfl:=Option.some.inj ho;have g0:ρ (.tmp 7) = .int .i64 M:=hk 7 (by simp [Op.operands,Call.operands])
     have h4:=hcu.out w1;have H4:=Bx.mk h4;clear h4;clear hk hb hcu HSH KB hct hB;go_simp
     all_goals exact H4.out
 · intro vs W1 hlen hb hR
   match vs,hlen with
   | [v0, v1, v2, v3], _ =>
     have r0:v0 = .agg #[b0,b1,b2,b3,b4,b5]:=hR 0 v0 rfl;have r1:v1 = .int .i64 ((n:Int)+2):=hR 1 v1 rfl;have r2:v2 = .int .i64 M:=hR 2 v2 rfl;have r3:v3 = .agg #[(0:Int),(0:Int),(0:Int),M,M,M]:=hR 3 v3 rfl;clear hR;subst r0 r1 r2 r3;have HQ:=Bx.mk (hct.out W1);have HB:=Bx.mk (hB.trans (hb.mono hB.size));clear hb hB KB hct hcu HSH;simp only [zAk,List.take_succ_cons,List.take_zero,List.drop_succ_cons,List.drop_zero,List.map_cons,List.map_nil,List.zip_cons_cons,List.zip_nil_right,List.foldl_cons,List.foldl_nil];go_wp2_with fail;refine HQ.out.mono ?_;rintro _ w5 ⟨rfl,hb5⟩;have HB5:=Bx.mk (HB.out.trans (hb5.mono HB.out.size));clear hb5 HB HQ;go_wp2_with fail;go_ret;exact ⟨rfl,HB5.out⟩
end
section
open Go.RowKit
def rot (x:Int) (n:Nat):Int:=bits .or .u32 (x / 2 ^ n) (x * 2 ^ (32 - n) % 4294967296)
theorem zF4 (k:IntKind) (x y:Int):bits .or k x y=bits .or k y x:=by
 unfold bits;simp only [BitVec.or_comm]
theorem zBF (x:Int) (n:Nat) (hn:0<n∧n<32) (w:World) :
 Calls Tryz.prog 163 #[.int .u32 x,.int .i64 (-(n:Int))] w fun e w'=>e = .returned (.int .u32 (rot x n))∧w=w':=by
 have hw:bits .and .u64 (IntKind.u64.wrap (-(n:Int))) 31=32 - (n:Int):=by
  have h1:IntKind.u64.wrap (-(n:Int))=18446744073709551616 - n:=by rw [IntKind.wrap_u64];omega
  rw [h1,show (31:Int)=2 ^ 5 - 1 by decide,bits_mask .u64 64 (by decide) wraps_u64 5 (by decide) _ (by omega) (by have:(2:Int) ^ 64=18446744073709551616:=(by decide);omega)]
  have:(2:Int) ^ 5=32:=by decide
  omega
 have h1:(0:Int)≤32 - (n:Int):=by omega
 have h2:(32 - (n:Int)).toNat=32 - n:=by omega
 have h3:IntKind.u64.wrap (32 - (32 - (n:Int)))=n:=by rw [IntKind.wrap_u64];omega
 go_enter Tryz.func163,Tryz.ntmps163;go_wp2_with fail;go_ret;refine ⟨?_,rfl⟩
 show Ending.returned (.int .u32 (bits .or .u32 (x * 2 ^ (32 - n) % 4294967296) (x / 2 ^ n)))=_
 rw [zF4];rfl
def zLg (x:Int) (i j k:Nat):Int:=bits .xor .u32 (bits .xor .u32 (rot x i) (rot x j)) (rot x k)
theorem zNg (x:Int) (i j k:Nat) (hi:0<i∧i<32) (hj:0<j∧j<32) (hk:0<k∧k<32) (w:World) :
 Calls Tryz.prog 158 #[.int .u32 x,(i:Int),(j:Int),(k:Int)] w fun e w'=>e = .returned (.int .u32 (zLg x i j k))∧w=w':=by
 have g1:=Bx.mk fun W=>zBF x i hi W;have g2:=Bx.mk fun W=>zBF x j hj W;have g3:=Bx.mk fun W=>zBF x k hk W;have n1:IntKind.i64.wrap (-(i:Int)) = -(i:Int):=IntWalk.i64_in _ (by omega)
 have n2:IntKind.i64.wrap (-(j:Int)) = -(j:Int):=IntWalk.i64_in _ (by omega)
 have n3:IntKind.i64.wrap (-(k:Int)) = -(k:Int):=IntWalk.i64_in _ (by omega)
 unfold zLg;generalize rot x i=a at *;generalize rot x j=b at *;generalize rot x k=c at *;go_enter Tryz.func158,Tryz.ntmps158;go_wp2_with fail;refine (g1.out _).mono ?_;rintro _ _ ⟨rfl,rfl⟩;go_wp2_with fail;refine (g2.out _).mono ?_;rintro _ _ ⟨rfl,rfl⟩;go_wp2_with fail;refine (g3.out _).mono ?_;rintro _ _ ⟨rfl,rfl⟩;go_wp2_with fail;go_ret;exact ⟨rfl,rfl⟩
def Bl (w:World) (b:Nat) (k:IntKind) (xs:List Int) (t:TypeId):Prop:=Bk w b (xs.map (Value.int k)).toArray t
def zDr (k:IntKind) (xs:List Int):Value:=.agg (xs.map (Value.int k)).toArray
section
variable {w w':World} {b:Nat} {k:IntKind} {xs:List Int} {t:TypeId}
theorem Bl.lt (h:Bl w b k xs t):b<w.heap.size:=Bk.lt h
theorem Bl.cell (h:Bl w b k xs t) {i:Nat} {x:Int} (hx:xs[i]? = some x):w.cell? ⟨b,i,none⟩=some (.int k x):=by
 refine Bk.cell h i ?_;rw [List.getElem?_toArray,List.getElem?_map,hx];rfl
theorem Bl.frozen (h:Bl w b k xs t) (i:Nat):w.frozen? ⟨b,i,none⟩=false:=Bk.frozen h i
theorem Bl.later (h:Bl w b k xs t) (hb:Below w.heap.size w w'):Bl w' b k xs t:=Bk.later h hb
theorem Bl.alloc (h:Bl w b k xs t) (o:Obj):Bl (w.alloc o) b k xs t:=Bk.alloc h o
theorem Bl.put (h:Bl w b k xs t) (i:Nat) (v:Int):Bl (w.setCell ⟨b,i,none⟩ (.int k v)) b k (xs.set i v) t:=by
 have:=Bk.set h i (.int k v);unfold Bl;rw [List.map_set];rwa [List.setIfInBounds_toArray] at this
theorem Bl.other (h:Bl w b k xs t) (a:Addr) (v:Value) (hne:b ≠ a.block):Bl (w.setCell a v) b k xs t:=Bk.other h a v hne
theorem Bl.whole (h:Bl w b k xs t) (ys:List Int):Bl (w.setRow b (ys.map (Value.int k)).toArray) b k ys t:=setRow_heap w b _ _ t (0,0) h
theorem Bl.apart (h:Bl w b k xs t) {g:Nat} (cs:Array Value) (hne:b ≠ g):Bl (w.setRow g cs) b k xs t:=by
 unfold Bl Bk at *;rw [setRow_other w g b cs hne];exact h
end
theorem zh {P:Program} {ops:Array Oper} {rest:List Oper} {op:Oper} {a:Act} {w:World} {Q:Exit→Act→World→Prop} (hgd:op.guard=none) (ty:TypeId) (x:Operand) (ho:op.op = .load ty x)
 (g:Nat) (hx:a.eval x = .pointer (some ⟨g,0,none⟩)) (cs:Array Value) (t:TypeId) (hg:w.heap[g]? = some (.cells cs t (0,0))) (d:TypeDesc)
 (hu:P.underlying ty=some d) (hd:(match d with | .struct _ | .array _ _=>true | _=>false)=true) (hi:(P.info? ty).map (·.size)=some cs.size)
 (h:wpList P ops Q rest (a.put op.dst (.agg cs)) w):wpList P ops Q (op::rest) a w:=by
 refine wpList_plain hgd fun K hK=>?_;unfold Oper.wp execOp;simp only [ho,hx,Instr.loadAt,Instr.sureAddr,Sem.run_bind,Sem.run_pure,Result.andThen_ok,run_loadVar_row w g t ty cs (0,0) d hg hu hd hi];exact hK _ _ h
theorem zE {P:Program} {ops:Array Oper} {rest:List Oper} {op:Oper} {a:Act} {w:World} {Q:Exit→Act→World→Prop} (hgd:op.guard=none) (ty:TypeId) (x y:Operand) (ho:op.op = .store ty x y)
 (g:Nat) (hx:a.eval x = .pointer (some ⟨g,0,none⟩)) (cs cs':Array Value) (hy:a.eval y = .agg cs') (t:TypeId) (hg:w.heap[g]? = some (.cells cs t (0,0)))
 (hi:(P.info? ty).map (·.size)=some cs'.size) (hs:cs.size=cs'.size) (h1:cs'.all (·.oneCell')=true)
 (h:wpList P ops Q rest (a.put op.dst undef) (w.setRow g cs')):wpList P ops Q (op::rest) a w:=by
 refine wpList_plain hgd fun K hK=>?_;unfold Oper.wp execOp;have hr:=run_storeVar_row (P:=P) w g t ty cs cs' hg hi hs h1;simp only [ho,hx,hy,Instr.storeAt,Instr.sureAddr,Sem.run_bind,Sem.run_pure,Result.andThen_ok,hr];exact hK _ _ h
theorem zAR (k:IntKind) (xs:List Int):(xs.map (Value.int k)).toArray.all (·.oneCell')=true:=by
 rw [Array.all_eq_true_iff_forall_mem];intro v hv;simp only [List.mem_toArray,List.mem_map] at hv;obtain ⟨x,_,rfl⟩:=hv;rfl
end
end Go.Proofs.YtfcbajmjaifjlaaGreatDoor
