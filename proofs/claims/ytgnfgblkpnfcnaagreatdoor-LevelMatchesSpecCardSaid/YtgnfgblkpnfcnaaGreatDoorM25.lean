/- Rfr, Dsn, Add, Mtp: joined by program, for one claim. -/
import Derived.Test.YtgnfgblkpnfcnaaGreatDoorM24
set_option maxHeartbeats 2000000
set_option maxRecDepth 100000
set_option linter.unusedVariables false
set_option linter.unusedSimpArgs false
namespace Go.Proofs.YtgnfgblkpnfcnaaGreatDoor
section
open Go.RowKit Go.Sort Go.Maps
open Oct
theorem zNL (a b c d e f:Int) (ha:Option Addr) (hcp:Nat) (xs:List Int) (HX:GoodG ⟨⟨a,b,c⟩,⟨d,e,f⟩⟩ xs hcp) : ∀ (n:Nat),n≤12 → ∀ (ax ay az:Int),Tr.Al n ⟨ax,ay,az⟩→(0≤ax∧ax+2 ^ (n+2)≤16384)→(0≤ay∧ay+2 ^ (n+2)≤16384)→(0≤az∧az+2 ^ (n+2)≤16384) → ∀ (w:World),Sl w .i64 ha xs →
 Calls Tryz.prog 41 #[.agg #[a,b,c,d,e,f,.slice ha xs.length hcp],.agg #[ax,ay,az],.int .i64 ((n:Int)+2)] w fun e' w'=>e' = .returned (.string (strOfNums (Tr.enc (Tr.can (zF ⟨⟨a,b,c⟩,⟨d,e,f⟩⟩ xs) n ⟨ax,ay,az⟩))))∧Below w.heap.size w w':=by
 intro n
 induction n with
 | zero =>
   intro _ ax ay az hal hx hy hz w hsl;have e4:(2:Int) ^ (0+2)=4:=by decide
   rw [e4] at hx hy hz;have hcub:=Bx.mk fun W=>zDA ax ay az 2 (by omega) (by omega) (by omega) (by omega) W
   rw [show (2:Int) ^ 2=4 by decide] at hcub
   cases hem:zN (zf ⟨⟨ax,ay,az⟩,⟨ax+4,ay+4,az+4⟩⟩ ⟨⟨a,b,c⟩,⟨d,e,f⟩⟩) with
   | true =>
     have h0:=zCG 0 ⟨ax,ay,az⟩ (zF ⟨⟨a,b,c⟩,⟨d,e,f⟩⟩ xs) hal (fun p hp=>zIH (m:=4) (by decide) hal hem xs hp)
     rw [h0];exact zNM a b c d e f ha hcp xs ax ay az _ 4 hcub hem w
   | false=>exact zNN a b c d e f ha hcp xs HX ax ay az 4 rfl (by omega) (by omega) (by omega) hcub hem w hsl
 | succ n ih =>
   intro hn ax ay az hal hx hy hz w hsl;have hps:=Tr.pow_succ2 n;have hp:=zn (show n+2≤14 by omega)
   have hcub:=Bx.mk fun W=>zDA ax ay az (n+3) (by omega) (by omega) (by omega) (by omega) W
   have h3:((n+1:Nat):Int)+2=(n:Int)+3:=by omega
   rw [show ((n+3:Nat):Int)=(n:Int)+3 by omega] at hcub
   rw [h3];cases hem:zN (zf ⟨⟨ax,ay,az⟩,⟨ax+2 ^ (n+3),ay+2 ^ (n+3),az+2 ^ (n+3)⟩⟩ ⟨⟨a,b,c⟩,⟨d,e,f⟩⟩) with
   | true =>
     have h0:=zCG (n+1) ⟨ax,ay,az⟩ (zF ⟨⟨a,b,c⟩,⟨d,e,f⟩⟩ xs) hal (fun p hp=>zIH (m:=2 ^ (n+3)) rfl hal hem xs hp);rw [h0];exact zNM a b c d e f ha hcp xs ax ay az _ _ hcub hem w
   | false =>
     refine zNO a b c d e f ha hcp xs n (by omega) _ HX.range ax ay az _ (by omega) (by omega) (by omega) hcub hem ⟨fun k hk W h=>?_⟩ w hsl
     have hb:=zCd hk (show (0:Int)≤2 ^ (n+2) by omega)
     have hco:=zCv ax ay az n k;have h1:=Tr.al_cor hal k;rw [hco] at h1 ⊢;exact ih (by omega) _ _ _ h1 (by omega) (by omega) (by omega) W h
theorem zJt {a b c x y z:Int} (ha:0<a) (hb:0<b) (hc:0<c) (h1:0≤x∧x≤a) (h2:0≤y∧y≤b) (h3:0≤z∧z≤c) (h:x * y * z=a * b * c):x=a∧y=b∧z=c:=by
 have hab:0<a * b:=Int.mul_pos ha hb;have hp:0<a * b * c:=Int.mul_pos hab hc;have hxy:0≤x * y∧x * y≤a * b:=zH9 h1.1 h2.1 h1.2 h2.2
 have hz:z=c:=by
  apply Classical.byContradiction;intro hne;have hz1:z≤c - 1:=by omega
  have:=zH9 hxy.1 h3.1 hxy.2 hz1;rw [h,Int.mul_sub,Int.mul_one] at this;omega
 rw [hz] at h;have hxy2:x * y=a * b:=Int.eq_of_mul_eq_mul_right (by omega) h
 have hy:y=b:=by
  apply Classical.byContradiction;intro hne;have:=zH9 h1.1 h2.1 h1.2 (show y≤b - 1 by omega)
  rw [hxy2,Int.mul_sub,Int.mul_one] at this;omega
 rw [hy] at hxy2;exact ⟨Int.eq_of_mul_eq_mul_right (by omega) hxy2,hy,hz⟩
theorem zNz {A B:Box} (hB:zN B=false):(zAC (zf A B) == zAC B)=decide (zf A B=B):=by
 have hb:=zO.1 hB;have hv:=zBR hB;rw [Bool.eq_iff_iff,beq_iff_eq,decide_eq_true_iff];constructor
 · intro h;unfold zf at h ⊢;split at h
   · rename_i he;have:zAC Box.zero=0:=by decide
     omega
   · rename_i he;rw [if_neg he]
     have he':zN (zFn A B)=false:=by cases hq:zN (zFn A B) with
      | true=>exact absurd hq he
      | false=>rfl
     have hj:=zO.1 he';unfold zAC at h;rw [zw he',zw hB] at h;unfold zFn at h hj ⊢;simp only [Pt.sub] at h hj;have:=zJt (by omega) (by omega) (by omega) (by omega) (by omega) (by omega) h
     obtain ⟨⟨l0,l1,l2⟩,⟨u0,u1,u2⟩⟩:=B;simp only [] at this hb ⊢;simp only [Box.mk.injEq,Pt.mk.injEq];omega
 · intro h;rw [h]
theorem zKQ (a b c d e f:Int) (ha:Option Addr) (hcp:Nat) (xs:List Int) (hl:xs.length≤300) (dd:Int) (w:World) (hsl:Sl w .i64 ha xs) :
 Calls Tryz.prog 40 #[.agg #[a,b,c,d,e,f,.slice ha xs.length hcp],dd] w fun e' w'=>e' = .returned (.int .i64 (zEP ⟨⟨a,b,c⟩,⟨d,e,f⟩⟩ xs dd))∧Below w.heap.size w w':=by
 by_cases hlo:dd<2
 · have t1:decide (dd<2)=true:=by simpa using hlo
   have hr:=Bx.mk (show zEP ⟨⟨a,b,c⟩,⟨d,e,f⟩⟩ xs dd=13 by unfold zEP;rw [if_pos (.inl hlo)])
   clear hlo;go_enter Tryz.func40,Tryz.ntmps40;go_wp2_with fail;go_ret;exact ⟨by rw [hr.out];rfl,(Below.refl _ _).alloc (Nat.le_refl _) _⟩
 · have t1:decide (dd<2)=false:=by simpa using hlo
   by_cases hhi:14<dd
   · have t2:decide (14<dd)=true:=by simpa using hhi
     have hr:=Bx.mk (show zEP ⟨⟨a,b,c⟩,⟨d,e,f⟩⟩ xs dd=13 by unfold zEP;rw [if_pos (.inr hhi)])
     clear hlo hhi;go_enter Tryz.func40,Tryz.ntmps40;go_wp2_with fail;go_ret;exact ⟨by rw [hr.out];rfl,(Below.refl _ _).alloc (Nat.le_refl _) _⟩
   · have t2:decide (14<dd)=false:=by simpa using hhi
     obtain ⟨L,hL⟩ : ∃ L:Nat,dd=L:=⟨dd.toNat,by omega⟩
     subst hL;have hval:=Bx.mk fun W (h:Sl W .i64 ha xs)=>zK4 a b c d e f ha hcp xs hl W h;have hemp:=Bx.mk fun W=>zKg a b c d e f W;have hcub:=Bx.mk fun W=>zDB L (by omega) W
     have hfe:zEP ⟨⟨a,b,c⟩,⟨d,e,f⟩⟩ xs L=if zAB ⟨⟨a,b,c⟩,⟨d,e,f⟩⟩ xs=true∧(zN ⟨⟨a,b,c⟩,⟨d,e,f⟩⟩=true∨zJ ⟨⟨0,0,0⟩,⟨2 ^ L,2 ^ L,2 ^ L⟩⟩ ⟨⟨a,b,c⟩,⟨d,e,f⟩⟩=true) then 0 else 1:=by
      unfold zEP;rw [if_neg (by omega)];rfl
     have hsm:zAB ⟨⟨a,b,c⟩,⟨d,e,f⟩⟩ xs=true→Small ⟨⟨a,b,c⟩,⟨d,e,f⟩⟩ 1048575:=fun h=>by
      simp only [zAB,Bool.and_eq_true] at h;exact zk h.1.1.1.1
     have hcon:zAB ⟨⟨a,b,c⟩,⟨d,e,f⟩⟩ xs=true → ∀ W,Calls Tryz.prog 92 #[.agg #[(0:Int),(0:Int),(0:Int),.int .i64 (2 ^ L),.int .i64 (2 ^ L),.int .i64 (2 ^ L)],.agg #[a,b,c,d,e,f]] W fun e' w'=>e' = .returned (.bool (zAC (zf ⟨⟨0,0,0⟩,⟨2 ^ L,2 ^ L,2 ^ L⟩⟩ ⟨⟨a,b,c⟩,⟨d,e,f⟩⟩) == zAC ⟨⟨a,b,c⟩,⟨d,e,f⟩⟩))∧Below W.heap.size W w':=fun h W=>zKd 0 0 0 (2 ^ L) (2 ^ L) (2 ^ L) a b c d e f (hsm h) W
     have hcv:zN ⟨⟨a,b,c⟩,⟨d,e,f⟩⟩=false→zJ ⟨⟨0,0,0⟩,⟨2 ^ L,2 ^ L,2 ^ L⟩⟩ ⟨⟨a,b,c⟩,⟨d,e,f⟩⟩=(zAC (zf ⟨⟨0,0,0⟩,⟨2 ^ L,2 ^ L,2 ^ L⟩⟩ ⟨⟨a,b,c⟩,⟨d,e,f⟩⟩) == zAC ⟨⟨a,b,c⟩,⟨d,e,f⟩⟩):=fun h=>by
      rw [zNz h];unfold zJ;rw [h,Bool.false_or]
     have Hsl:=Bx.mk hsl;clear hsl hsm;generalize zJ ⟨⟨0,0,0⟩,⟨2 ^ L,2 ^ L,2 ^ L⟩⟩ ⟨⟨a,b,c⟩,⟨d,e,f⟩⟩=cb at *;generalize (zAC (zf ⟨⟨0,0,0⟩,⟨2 ^ L,2 ^ L,2 ^ L⟩⟩ ⟨⟨a,b,c⟩,⟨d,e,f⟩⟩) == zAC ⟨⟨a,b,c⟩,⟨d,e,f⟩⟩)=vb at *;generalize zAB ⟨⟨a,b,c⟩,⟨d,e,f⟩⟩ xs=va at *;generalize zN ⟨⟨a,b,c⟩,⟨d,e,f⟩⟩=em at *;generalize zEP ⟨⟨a,b,c⟩,⟨d,e,f⟩⟩ xs L=r at *;generalize (2:Int) ^ L=m at *;cases va with
     | false =>
       have Hr:=Bx.mk (show r=1 by simpa using hfe)
       clear hfe hcon hcv hlo hhi;go_enter Tryz.func40,Tryz.ntmps40;go_wp2_with fail;generalize hW:World.alloc w _=W;have hSz:=sz1 hW;have hB:=bl1 hW;have kg:Bk W (w.heap.size) #[a,b,c,d,e,f,.slice ha xs.length hcp] 28:=bk0 hW;clear hW;obtain ⟨cg0,cg1,cg2,cg3,cg4,cg5,cg6⟩:=kg.c7;go_wp2_with fail;refine (hval.out _ (Hsl.out.below hB)).mono ?_;rintro _ w1 ⟨rfl,hb1⟩;replace hB:=hB.trans (hb1.mono hB.size);replace kg:=kg.later hb1;replace hSz:=Nat.le_trans hSz hb1.size;clear hb1;clear cg0 cg1 cg2 cg3 cg4 cg5 cg6;go_wp2_with fail;go_ret;exact ⟨by rw [Hr.out];rfl,hB⟩
     | true =>
       have hcon2:=Bx.mk (hcon rfl);clear hcon;cases em with
       | true =>
         have Hr:=Bx.mk (show r=0 by simpa using hfe)
         clear hfe hcv hlo hhi;go_enter Tryz.func40,Tryz.ntmps40;go_wp2_with fail;generalize hW:World.alloc w _=W;have hSz:=sz1 hW;have hB:=bl1 hW;have kg:Bk W (w.heap.size) #[a,b,c,d,e,f,.slice ha xs.length hcp] 28:=bk0 hW;clear hW;obtain ⟨cg0,cg1,cg2,cg3,cg4,cg5,cg6⟩:=kg.c7;go_wp2_with fail;refine (hval.out _ (Hsl.out.below hB)).mono ?_;rintro _ w1 ⟨rfl,hb1⟩;replace hB:=hB.trans (hb1.mono hB.size);replace kg:=kg.later hb1;replace hSz:=Nat.le_trans hSz hb1.size;clear hb1;clear cg0 cg1 cg2 cg3 cg4 cg5 cg6;obtain ⟨cg0,cg1,cg2,cg3,cg4,cg5,cg6⟩:=kg.c7;go_wp2_with fail;refine (hemp.out _).mono ?_;rintro _ w2 ⟨rfl,hb2⟩;replace hB:=hB.trans (hb2.mono hB.size);replace kg:=kg.later hb2;replace hSz:=Nat.le_trans hSz hb2.size;clear hb2;clear cg0 cg1 cg2 cg3 cg4 cg5 cg6;go_wp2_with fail;obtain ⟨cg0,cg1,cg2,cg3,cg4,cg5,cg6⟩:=kg.r7;have q0:=Bx.mk fun dk osk=>Calls.regrown_of (hcub.out (grow (redrawn w2 dk) osk));have q1:=Bx.mk fun dk osk=>Calls.regrown_of (hcon2.out (grow (redrawn w2 dk) osk));refine wp_region_quiet_below (by kernel_rfl) (by kernel_rfl) ?_
         repeat (first | go_big_quiet_step ((first | with_reducible exact q0.out _ _ | with_reducible exact q1.out _ _)) | quiet_step (first | with_reducible exact q0.out _ _ | with_reducible exact q1.out _ _))
         refine wpQuiet_nil ?_;rintro _ ⟨⟨dq,osq⟩,rfl⟩;have hb:=below_regrown w2 dq osq;clear cg0 cg1 cg2 cg3 cg4 cg5 cg6;clear q0;clear q1;replace hB:=hB.trans (hb.mono hB.size);replace kg:=kg.later hb;replace hSz:=Nat.le_trans hSz hb.size;clear hb;generalize grow (redrawn w2 dq) osq=w3 at *;go_wp2_with fail;go_ret;exact ⟨by rw [Hr.out];rfl,hB⟩
       | false =>
         obtain rfl:cb=vb:=hcv rfl;have Hr:=Bx.mk (show r=if cb=true then 0 else 1 by simpa using hfe)
         clear hfe hcv hlo hhi;go_enter Tryz.func40,Tryz.ntmps40;go_wp2_with fail;generalize hW:World.alloc w _=W;have hSz:=sz1 hW;have hB:=bl1 hW;have kg:Bk W (w.heap.size) #[a,b,c,d,e,f,.slice ha xs.length hcp] 28:=bk0 hW;clear hW;obtain ⟨cg0,cg1,cg2,cg3,cg4,cg5,cg6⟩:=kg.c7;go_wp2_with fail;refine (hval.out _ (Hsl.out.below hB)).mono ?_;rintro _ w1 ⟨rfl,hb1⟩;replace hB:=hB.trans (hb1.mono hB.size);replace kg:=kg.later hb1;replace hSz:=Nat.le_trans hSz hb1.size;clear hb1;clear cg0 cg1 cg2 cg3 cg4 cg5 cg6;obtain ⟨cg0,cg1,cg2,cg3,cg4,cg5,cg6⟩:=kg.c7;go_wp2_with fail;refine (hemp.out _).mono ?_;rintro _ w2 ⟨rfl,hb2⟩;replace hB:=hB.trans (hb2.mono hB.size);replace kg:=kg.later hb2;replace hSz:=Nat.le_trans hSz hb2.size;clear hb2;clear cg0 cg1 cg2 cg3 cg4 cg5 cg6;go_wp2_with fail;obtain ⟨cg0,cg1,cg2,cg3,cg4,cg5,cg6⟩:=kg.r7;have q0:=Bx.mk fun dk osk=>Calls.regrown_of (hcub.out (grow (redrawn w2 dk) osk));have q1:=Bx.mk fun dk osk=>Calls.regrown_of (hcon2.out (grow (redrawn w2 dk) osk));refine wp_region_quiet_below (by kernel_rfl) (by kernel_rfl) ?_
         repeat (first | go_big_quiet_step ((first | with_reducible exact q0.out _ _ | with_reducible exact q1.out _ _)) | quiet_step (first | with_reducible exact q0.out _ _ | with_reducible exact q1.out _ _))
         refine wpQuiet_nil ?_;rintro _ ⟨⟨dq,osq⟩,rfl⟩;have hb:=below_regrown w2 dq osq;clear cg0 cg1 cg2 cg3 cg4 cg5 cg6;clear q0;clear q1;replace hB:=hB.trans (hb.mono hB.size);replace kg:=kg.later hb;replace hSz:=Nat.le_trans hSz hb.size;clear hb;generalize grow (redrawn w2 dq) osq=w3 at *;cases cb with
         | true =>
           go_wp2_with fail;go_ret;exact ⟨by rw [Hr.out];rfl,hB⟩
         | false =>
           go_wp2_with fail;go_ret;exact ⟨by rw [Hr.out];rfl,hB⟩
theorem zKT (a b c d e f:Int) (ha:Option Addr) (hcp:Nat) (xs:List Int) (hl:xs.length≤300) (dd:Int) (hE:zEP ⟨⟨a,b,c⟩,⟨d,e,f⟩⟩ xs dd ≠ 0) (w:World) (hsl:Sl w .i64 ha xs) :
 Calls Tryz.prog 10 #[.agg #[a,b,c,d,e,f,.slice ha xs.length hcp],dd] w fun e' w'=>e' = .returned (.tuple #[.string ByteArray.empty,.int .i64 (zEP ⟨⟨a,b,c⟩,⟨d,e,f⟩⟩ xs dd)])∧Below w.heap.size w w':=by
 have hch:=Bx.mk fun W (h:Sl W .i64 ha xs)=>zKQ a b c d e f ha hcp xs hl dd W h;have Hsl:=Bx.mk hsl;have t1:(zEP ⟨⟨a,b,c⟩,⟨d,e,f⟩⟩ xs dd != 0)=true:=bne_iff_ne.2 hE;clear hsl;generalize zEP ⟨⟨a,b,c⟩,⟨d,e,f⟩⟩ xs dd=r at *;go_enter Tryz.func10,Tryz.ntmps10;go_wp2_with fail;generalize hW:World.alloc w _=W;have hSz:=sz1 hW;have hB:=bl1 hW;have kg:Bk W (w.heap.size) #[a,b,c,d,e,f,.slice ha xs.length hcp] 28:=bk0 hW;clear hW;obtain ⟨cg0,cg1,cg2,cg3,cg4,cg5,cg6⟩:=kg.c7;go_wp2_with fail;refine (hch.out _ (Hsl.out.below hB)).mono ?_;rintro _ w1 ⟨rfl,hb1⟩;replace hB:=hB.trans (hb1.mono hB.size);replace kg:=kg.later hb1;replace hSz:=Nat.le_trans hSz hb1.size;clear hb1;clear cg0 cg1 cg2 cg3 cg4 cg5 cg6;go_wp2_with fail
 go_ret2
 exact ⟨rfl,hB⟩
theorem zKU (a b c d e f:Int) (ha:Option Addr) (hcp:Nat) (xs:List Int) (hl:xs.length≤300) (n:Nat) (hn:n≤12) (HX:GoodG ⟨⟨a,b,c⟩,⟨d,e,f⟩⟩ xs hcp) (hE:zEP ⟨⟨a,b,c⟩,⟨d,e,f⟩⟩ xs ((n:Int)+2)=0) (w:World) (hsl:Sl w .i64 ha xs) :
 Calls Tryz.prog 10 #[.agg #[a,b,c,d,e,f,.slice ha xs.length hcp],.int .i64 ((n:Int)+2)] w fun e' w'=>e' = .returned (.tuple #[.string (strOfNums (Tr.enc (trF n (zF ⟨⟨a,b,c⟩,⟨d,e,f⟩⟩ xs)))),(0:Int)])∧Below w.heap.size w w':=by
 have hch:=Bx.mk fun W (h:Sl W .i64 ha xs)=>zKQ a b c d e f ha hcp xs hl ((n:Int)+2) W h;rw [hE] at hch;have hp:=zn (show n+2≤14 by omega)
 have htr:=Bx.mk fun W (h:Sl W .i64 ha xs)=>zNL a b c d e f ha hcp xs HX n hn 0 0 0 (zA7 n) (by omega) (by omega) (by omega) W h
 have Hsl:=Bx.mk hsl;clear hsl hE HX hp;unfold trF;generalize strOfNums (Tr.enc (Tr.can (zF ⟨⟨a,b,c⟩,⟨d,e,f⟩⟩ xs) n ⟨0,0,0⟩))=S at *;go_enter Tryz.func10,Tryz.ntmps10;go_wp2_with fail;generalize hW:World.alloc w _=W;have hSz:=sz1 hW;have hB:=bl1 hW;have kg:Bk W (w.heap.size) #[a,b,c,d,e,f,.slice ha xs.length hcp] 28:=bk0 hW;clear hW;obtain ⟨cg0,cg1,cg2,cg3,cg4,cg5,cg6⟩:=kg.c7;go_wp2_with fail;refine (hch.out _ (Hsl.out.below hB)).mono ?_;rintro _ w1 ⟨rfl,hb1⟩;replace hB:=hB.trans (hb1.mono hB.size);replace kg:=kg.later hb1;replace hSz:=Nat.le_trans hSz hb1.size;clear hb1;clear cg0 cg1 cg2 cg3 cg4 cg5 cg6;obtain ⟨cg0,cg1,cg2,cg3,cg4,cg5,cg6⟩:=kg.c7;go_wp2_with fail;refine (htr.out _ (Hsl.out.below hB)).mono ?_;rintro _ w2 ⟨rfl,hb2⟩;clear cg0 cg1 cg2 cg3 cg4 cg5 cg6;replace hB:=hB.trans (hb2.mono hB.size);replace kg:=kg.later hb2;replace hSz:=Nat.le_trans hSz hb2.size;clear hb2;go_wp2_with fail
 go_ret2
 exact ⟨rfl,hB⟩
noncomputable def zF4 (ts:List Tr) (ch:Fin 8→Tr) (k:Nat):Int:=if h:k<8 then (idT ts (ch ⟨k,h⟩):Int) else 0
structure DsI (w:World) (Far:Nat→Prop) (sb:Nat) (most:Int) (ts:List Tr) (ch:Fin 8→Tr) (gc g:Nat) (wr:World):Prop where
 st:StoreIs wr Far sb most ts
 bel:Below w.heap.size w wr
 kc:Bk wr gc #[.int .i64 (zF4 ts ch 0),.int .i64 (zF4 ts ch 1),.int .i64 (zF4 ts ch 2),.int .i64 (zF4 ts ch 3),.int .i64 (zF4 ts ch 4),.int .i64 (zF4 ts ch 5),.int .i64 (zF4 ts ch 6),.int .i64 (zF4 ts ch 7)] 54
 kids:Slv wr (some ⟨g,0,none⟩) (zy (za ch))
theorem DsI.later {w wr w':World} {Far:Nat→Prop} {sb gc g:Nat} {most:Int} {ts:List Tr} {ch:Fin 8→Tr} (h:DsI w Far sb most ts ch gc g wr) (hb:Below wr.heap.size wr w'):DsI w Far sb most ts ch gc g w' :=
 ⟨h.st.later hb,h.bel.trans (hb.mono h.bel.size),h.kc.later hb,h.kids.below hb⟩
end
section
open Go.RowKit Go.Sort
open Oct
def zDz (ts:List Tr):List Value:=zy (ts.map Tr.enc)
theorem zD1 (ts:List Tr):(zDz ts).length=ts.length:=by unfold zDz;rw [zz,List.length_map]
theorem zD0 {ts:List Tr} {i:Nat} {t:Tr} (h:ts[i]? = some t):(zDz ts)[i]? = some (.string (strOfNums (Tr.enc t))):=zMy (by rw [List.getElem?_map,h];rfl)
theorem zD2 (ts:List Tr) (t:Tr):zDz (ts++[t])=zDz ts++[.string (strOfNums (Tr.enc t))]:=by unfold zDz;rw [List.map_append];exact zMz _ _
noncomputable def hasB (ts:List Tr) (t:Tr):Bool:=@decide (t∈ts) (Classical.propDecidable _)
theorem zE3 {ts:List Tr} {t:Tr} (h:t∈ts):hasB ts t=true:=@decide_eq_true _ (Classical.propDecidable _) h
theorem zE2 {ts:List Tr} {t:Tr} (h:t ∉ ts):hasB ts t=false:=@decide_eq_false _ (Classical.propDecidable _) h
theorem zNG {t t':Tr} (h:Tr.WF t) (h':Tr.WF t'):strOfNums (Tr.enc t)=strOfNums (Tr.enc t') ↔ t=t' :=
 ⟨fun e=>(Tr.enc_eq h h').1 (zMp (Tr.enc_byt _ h) (Tr.enc_byt _ h') e),fun e=>by rw [e]⟩
theorem zKV (ts:List Tr) (t:Tr) (hts : ∀ x∈ts,Tr.WF x) (ht:Tr.WF t) (hl:ts.length≤1000000000) (a:Option Addr) (cap:Nat) (w:World) (hs:Slv w a (zDz ts)) :
 Calls Tryz.prog 61 #[.slice a ts.length cap,.string (strOfNums (Tr.enc t))] w fun e w'=>e = .returned (.bool (hasB ts t))∧w=w':=by
 have Hs:=Bx.mk hs;have Hw:=Bx.mk hts;have Ht:=Bx.mk ht;obtain ⟨n,hn⟩ : ∃ n,n=ts.length:=⟨_,rfl⟩;rw [←hn] at hl ⊢;have Hn:=Bx.mk hn;generalize hS:strOfNums (Tr.enc t)=S;have HS:=Bx.mk hS;clear hs hts ht hn hS;go_enter Tryz.func61,Tryz.ntmps61;go_wp2_with fail
 go_loop [5] (fun i => ∃ k:Nat,k≤n∧i = .int .i64 k∧Bx (∀ j,j<k→ts[j]? ≠ some t)) (fun i=>n - (intOf i).toNat)
 case atStart=>exact ⟨0,Nat.zero_le _,rfl,⟨fun j hj=>absurd hj (Nat.not_lt_zero j)⟩⟩
 case round =>
  obtain ⟨k,hk,rfl,hno⟩:=hrel;by_cases hlt:k<n
  · have t0:decide ((k:Int)<(n:Int))=true:=by simp;omega
    obtain ⟨x,hx⟩ : ∃ x,ts[k]? = some x:=⟨_,List.getElem?_eq_getElem (by rw [←Hn.out];exact hlt)⟩
    obtain ⟨b,off,rfl,hc⟩:=Hs.out k _ (zD0 hx);have b1:(0:Int)≤(k:Int):=by omega
    have b2:(k:Int)<(n:Int):=by omega
    have hq:((strOfNums (Tr.enc x)).toList == S.toList)=true ↔ x=t:=by rw [zMo,←HS.out,zNG (Hw.out x (List.mem_of_getElem? hx)) Ht.out]
    have HX:=Bx.mk hx;generalize strOfNums (Tr.enc x)=X at *;by_cases he:x=t
    · have h1:(X.toList == S.toList)=true:=hq.2 he;have Hm:=Bx.mk (show t∈ts from he ▸ List.mem_of_getElem? HX.out);clear hx hq he HX;go_wp2_with fail;go_ret;exact ⟨by rw [zE3 Hm.out];rfl,rfl⟩
    · have h1:(X.toList == S.toList)=false:=by
       cases hb:(X.toList == S.toList) with
       | false=>rfl
       | true=>exact absurd (hq.1 hb) he
      have hno2:=Bx.mk (show ∀ j,j<k+1→ts[j]? ≠ some t from fun j hj=>by
       by_cases e:j=k
       · rw [e,HX.out];intro e2;injection e2 with e2;exact he e2
       · exact hno.out j (by omega))
      clear hx hq he HX;go_wp2_with fail;go_round
      case rel=>exact ⟨k+1,by omega,by go_num,hno2⟩
      case measure=>simp [intOf];omega
  · obtain rfl:k=n:=by omega
    have t0:decide ((k:Int)<(k:Int))=false:=by simp
    have Hm:=Bx.mk (show t ∉ ts from fun hm=>by
     obtain ⟨j,hj,he⟩:=List.getElem_of_mem hm;exact hno.out j (by rw [Hn.out];exact hj) (by rw [List.getElem?_eq_getElem hj,he]))
    go_wp2_with fail;go_ret;exact ⟨by rw [zE2 Hm.out];rfl,rfl⟩
theorem zDv (t:Tr) : ∃ b r,Tr.enc t=b::r∧((b == 110)=true ↔ ∃ d ch,t = .node d ch):=by
 cases t with
 | uni c=>exact ⟨117,[c],by rw [Tr.enc],by simp⟩
 | brick l=>exact ⟨98,l,by rw [Tr.enc],by simp⟩
 | node d ch=>exact ⟨110,_,by rw [Tr.enc],by simp⟩
theorem wf_add : ∀ (t:Tr),Tr.WF t → ∀ (ts:List Tr),(∀ x∈ts,Tr.WF x) → ∀ x∈Tr.add t ts,Tr.WF x:=by
 have ins : ∀ (t:Tr),Tr.WF t → ∀ (ts:List Tr),(∀ x∈ts,Tr.WF x) → ∀ x∈Tr.ins t ts,Tr.WF x:=fun t ht ts hts x hx=>by
  rcases Tr.of_mem_ins hx with h | h
  · exact hts x h
  · exact h ▸ ht
 intro t
 induction t with
 | uni c=>intro ht ts hts;rw [Tr.add_uni];exact ins _ ht ts hts
 | brick l=>intro ht ts hts;rw [Tr.add_brick];exact ins _ ht ts hts
 | node d ch ih =>
   intro ht ts hts x hx;rw [Tr.add_node] at hx;split at hx
   · exact hts x hx
   · rcases List.mem_append.1 hx with h | h
     · exact Tr.addK_ind (P:=fun us => ∀ x∈us,Tr.WF x) (fun i us hus=>ih i (ht.2 i) us hus) 8 (Nat.le_refl _) ts hts x h
     · rw [List.mem_singleton] at h;exact h ▸ ht
structure AddI (w:World) (B:Nat) (v:Value) (n:Nat) (ch:Fin 8→Tr) (g:Nat) (us:List Tr) (v0:Value) (wr:World):Prop where
 own:Ownv wr B 9 v0 (zDz us)
 add:Added w wr v v0 n
 kids:Slv wr (some ⟨g,0,none⟩) (zy (za ch))
 lt:g<wr.heap.size
 ap:v0.ownBlock ≠ some g
theorem zAw (t:Tr) (ht:Tr.WF t) (ts:List Tr) (hts : ∀ x∈ts,Tr.WF x) (hm:t∈ts) (hl:ts.length≤100000000) (w:World) (B:Nat) (v:Value) (hown:Ownv w B 9 v (zDz ts)) :
 Calls Tryz.prog 31 #[v,.string (strOfNums (Tr.enc t))] w fun e w' => ∃ v',e = .returned v'∧Ownv w' B 9 v' (zDz (Tr.add t ts))∧Added w w' v v' ts.length:=by
 rw [Tr.add_same t ts hm];obtain ⟨a,cap,rfl,hsl⟩:=hown.form;rw [zD1];have hh:=zKV ts t hts ht (by omega) a cap w hsl
 rw [zE3 hm] at hh;have HH:=Bx.mk hh;rw [zD1] at hown;have Hown:=Bx.mk hown;clear hh hsl hown hts ht hm;generalize strOfNums (Tr.enc t)=S at *;go_enter Tryz.func31,Tryz.ntmps31;go_wp2_with fail;refine HH.out.mono ?_;rintro _ _ ⟨rfl,rfl⟩;go_wp2_with fail;go_ret;exact ⟨_,rfl,Hown.out,Added.refl _ _ _⟩
theorem zAr (t:Tr) (ht:Tr.WF t) (hn : ¬ ∃ d ch,t = .node d ch) (ts:List Tr) (hts : ∀ x∈ts,Tr.WF x) (hm:t ∉ ts) (hl:ts.length≤100000000) (w:World) (B:Nat) (hB:B≤w.heap.size) (v:Value) (hown:Ownv w B 9 v (zDz ts)) :
 Calls Tryz.prog 31 #[v,.string (strOfNums (Tr.enc t))] w fun e w' => ∃ v',e = .returned v'∧Ownv w' B 9 v' (zDz (Tr.add t ts))∧Added w w' v v' ts.length:=by
 have hadd:Tr.add t ts=ts++[t]:=by
  cases t with
  | uni c=>rw [Tr.add_uni,Tr.ins_of_not hm]
  | brick l=>rw [Tr.add_brick,Tr.ins_of_not hm]
  | node d ch=>exact absurd ⟨d,ch,rfl⟩ hn
 have Hs:=Bx.mk (show zDz (Tr.add t ts)=zDz ts++[.string (strOfNums (Tr.enc t))] by rw [hadd,zD2])
 obtain ⟨b0,r0,he0,hu0⟩:=zDv t
 have hb0:(b0 == 110)=false:=by
  cases hb:(b0 == 110) with
  | false=>rfl
  | true=>exact absurd (hu0.1 hb) hn
 have hi0:=fun W:World=>zW (P:=Tryz.prog) 9 Tryz.underlying9 (Tr.enc_byt _ ht) (k:=0) (x:=b0) (by rw [he0];rfl) W
 rw [show ((0:Nat):Int)=0 from rfl] at hi0;have hlt:=Bx.mk hown.lt;obtain ⟨a,cap,rfl,hsl⟩:=hown.form;rw [zD1] at hown hlt ⊢;have hh:=zKV ts t hts ht (by omega) a cap w hsl
 rw [zE2 hm] at hh;have HH:=Bx.mk hh;have Hown:=Bx.mk hown;have Hl:=Bx.mk (show (zDz ts).length≤1000000000 by rw [zD1];omega)
 have HE:=Bx.mk (zD1 ts);clear hh hsl hown hts ht hm he0 hu0 hn hadd;generalize strOfNums (Tr.enc t)=S at *;go_enter Tryz.func31,Tryz.ntmps31;go_wp2_with fail;refine HH.out.mono ?_;rintro _ _ ⟨rfl,rfl⟩
 go_wp2_with (first
  | (at_builtin
     refine zOL rfl _ _ 37 rfl 9 (.string ByteArray.empty) 16 (by omega) Tryz.underlying37 (by kernel_rfl) rfl B _ (zDz ts) rfl (Hown.out.alloc _) (.string S) rfl ⟨w.heap.size,0,none⟩ 1 rfl (zH _ _ _) Hl.out (ze hB _) ?_
     intro v1 w1 hown1 hadd1))
 rw [←Hs.out] at hown1;rw [HE.out] at hadd1;have H1:=Bx.mk (show Added w w1 _ v1 ts.length from Added.after (zB w _) hadd1 (fun g hg=>(hlt.out g hg).2));have H2:=Bx.mk hown1;clear hown1 hadd1;go_wp2_with fail;go_ret;exact ⟨v1,rfl,H2.out,H1.out⟩
theorem zKO : ∀ (t:Tr),Tr.WF t→(Tr.enc t).length≤1000000000000000 → ∀ (ts:List Tr),(∀ x∈ts,Tr.WF x)→(Tr.add t ts).length≤100000000 → ∀ (w:World) (B:Nat) (v:Value),B≤w.heap.size→Ownv w B 9 v (zDz ts) →
 Calls Tryz.prog 31 #[v,.string (strOfNums (Tr.enc t))] w fun e w' => ∃ v',e = .returned v'∧Ownv w' B 9 v' (zDz (Tr.add t ts))∧Added w w' v v' ts.length:=by
 intro t
 induction t with
 | uni c =>
   intro ht _ ts hts hl w B v hB hown;have hl2:=(Tr.add_prefix (.uni c) ts).length_le;by_cases hm:Tr.uni c∈ts
   · exact zAw _ ht ts hts hm (by omega) w B v hown
   · exact zAr _ ht (by rintro ⟨d,ch,h⟩;cases h) ts hts hm (by omega) w B hB v hown
 | brick l =>
   intro ht _ ts hts hl w B v hB hown;have hl2:=(Tr.add_prefix (.brick l) ts).length_le;by_cases hm:Tr.brick l∈ts
   · exact zAw _ ht ts hts hm (by omega) w B v hown
   · exact zAr _ ht (by rintro ⟨d,ch,h⟩;cases h) ts hts hm (by omega) w B hB v hown
 | node d ch ih =>
   intro ht hsz ts hts hl w B v hB hown;have hl2:=(Tr.add_prefix (.node d ch) ts).length_le;by_cases hm:Tr.node d ch∈ts
   · exact zAw _ ht ts hts hm (by omega) w B v hown
   · have hadd:Tr.add (.node d ch) ts=Tr.addK ch 8 ts++[.node d ch]:=by rw [Tr.add_node,if_neg hm]
     have Hs:=Bx.mk (show zDz (Tr.add (.node d ch) ts)=zDz (Tr.addK ch 8 ts)++[.string (strOfNums (Tr.enc (.node d ch)))] by rw [hadd,zD2])
     have h8:(Tr.addK ch 8 ts).length+1≤100000000:=by rw [hadd] at hl;simpa using hl
     have hi0:=fun W:World=>zW (P:=Tryz.prog) 9 Tryz.underlying9 (Tr.enc_byt _ ht) (k:=0) (x:=110) (by simp [Tr.enc]) W
     rw [show ((0:Nat):Int)=0 from rfl] at hi0;have hlt:=Bx.mk hown.lt;obtain ⟨a,cap,rfl,hsl⟩:=hown.form;rw [zD1] at hown hlt ⊢;have hh:=zKV ts _ hts ht (by omega) a cap w hsl
     rw [zE2 hm] at hh;have HH:=Bx.mk hh;have Hown:=Bx.mk hown;have HC:=Bx.mk fun W=>zKR d ch ht hsz W;have Hle:=Bx.mk fun k (hk:k≤8)=>(zAo (ch:=ch) (ts:=ts) hk (Nat.le_refl _)).length_le;have Hle0:=Bx.mk fun k (hk:k≤8)=>(Tr.addK_prefix ch k hk ts).length_le;have Hwf:=Bx.mk fun k (hk:k≤8)=>Tr.addK_ind (P:=fun us => ∀ x∈us,Tr.WF x) (fun i us hus=>wf_add _ (ht.2 i) us hus) k hk ts hts
     have HIH:=Bx.mk fun (k:Nat) (hk:k<8)=>ih ⟨k,hk⟩ (ht.2 _) (by
      have h1:=Tr.pos_succ ch hk;have h2:=Tr.pos_le d ch (show k+1≤8 by omega)
      omega) (Tr.addK ch k ts) (Hwf.out k (by omega)) (by
      rw [←Tr.addK_succ ch hk];have:=Hle.out (k+1) (by omega);omega)
     have HE8:=Bx.mk (show (zDz (Tr.addK ch 8 ts)).length≤1000000000 by rw [zD1];omega)
     have Hsu:=Bx.mk fun k (hk:k<8)=>Tr.addK_succ ch hk ts;have HK:=Bx.mk fun k (hk:k<8)=>zMy (zF7 ch hk);clear hh hsl hown hts ht hm hadd ih hsz h8;generalize strOfNums (Tr.enc (.node d ch))=S at *;go_enter Tryz.func31,Tryz.ntmps31;go_wp2_with fail;refine HH.out.mono ?_;rintro _ _ ⟨rfl,rfl⟩;go_wp2_with fail;refine (HC.out _).mono ?_;rintro _ w1 ⟨g,pc,rfl,hk,hg,hb⟩;have HI:Bx (AddI w B (.slice a ts.length cap) ts.length ch g (Tr.addK ch 0 ts) (.slice a ts.length cap) w1):=⟨⟨by rw [Tr.addK_zero];exact Hown.out.below hb,(Added.refl _ _ _).below hb,hk,hg.2,fun e=>by have:=(hlt.out g e).2;omega⟩⟩
     clear hk hg hb;go_wp2_with fail
     go_loopw [0,7] (fun v0 v7 wr => ∃ k:Nat,k≤8∧v7 = .int .i64 k∧Bx (AddI w B (.slice a ts.length cap) ts.length ch g (Tr.addK ch k ts) v0 wr)) (fun _ i _=>8 - (intOf i).toNat)
     case atStart=>exact ⟨0,Nat.zero_le _,rfl,HI⟩
     case round =>
      clear HI;obtain ⟨k,hk,rfl,HI⟩:=hrel;obtain ⟨a0,cap0,rfl,-⟩:=HI.out.own.form;by_cases hlt8:k<8
      · have t0:decide ((k:Int)<8)=true:=by simp;omega
        have b1:(0:Int)≤(k:Int):=by omega
        have b2:(k:Int)<8:=by omega
        obtain ⟨b,off,he,hck⟩:=HI.out.kids k _ (HK.out k hlt8);simp only [Option.some.injEq,Addr.mk.injEq,and_true] at he;obtain ⟨rfl,rfl⟩:=he;rw [Nat.zero_add] at hck;have hcall:=Bx.mk (HIH.out k hlt8 wr B _ (Nat.le_trans hB HI.out.add.grown.size) HI.out.own);rw [←Hsu.out k hlt8] at hcall;have Hlk:=Bx.mk (Hle0.out k (by omega))
        go_wp2_with fail;refine hcall.out.mono ?_;rintro _ w2 ⟨v2,rfl,ho,ha⟩
        have HI2:Bx (AddI w B (.slice a ts.length cap) ts.length ch g (Tr.addK ch (k+1) ts) v2 w2):=⟨⟨ho,HI.out.add.trans ha Hlk.out (fun g hg=>(hlt.out g hg).2),HI.out.kids.grown ha.grown HI.out.ap,Nat.lt_of_lt_of_le HI.out.lt ha.grown.size,fun e=>by
         rcases ha.where_ with h1 | h1
         · exact HI.out.ap (h1 ▸ e)
         · have:=h1 g e;have:=HI.out.lt;omega⟩⟩
        clear ho ha hcall hck;go_wp2_with fail
        go_roundw
        case rel=>exact ⟨k+1,by omega,by go_num,HI2⟩
        case measure=>simp [intOf];omega
      · obtain rfl:k=8:=by omega
        have t0:decide (((8:Nat):Int)<8)=false:=by decide
        have hB2:B≤wr.heap.size:=Nat.le_trans hB HI.out.add.grown.size;have Hl8:=Bx.mk (Hle0.out 8 (Nat.le_refl _));have HEn:=Bx.mk (zD1 (Tr.addK ch 8 ts))
        go_wp2_with (first
         | (at_builtin
            refine zOL rfl _ _ 37 rfl 9 (.string ByteArray.empty) 16 (by omega) Tryz.underlying37 (by kernel_rfl) rfl B _ (zDz (Tr.addK ch 8 ts)) rfl (HI.out.own.alloc _) (.string S) rfl ⟨wr.heap.size,0,none⟩ 1 rfl (zH _ _ _) HE8.out (ze hB2 _) ?_
            intro v1 w2 hown1 hadd1))
        rw [←Hs.out] at hown1;have H1:=Bx.mk (show Added w w2 (.slice a ts.length cap) v1 ts.length from HI.out.add.trans (Added.after (zB wr _) hadd1 (fun g hg=>(HI.out.own.lt g hg).2)) (by rw [HEn.out];exact Hl8.out) (fun g hg=>(hlt.out g hg).2))
        have H2:=Bx.mk hown1;clear hown1 hadd1;go_wp2_with fail;go_ret;exact ⟨v1,rfl,H2.out,H1.out⟩
end
section
open Go.RowKit Go.Sort Go.Maps
open Oct
structure Ed where
 x:Int
 y:Int
 z:Int
 c:Int
def SlE (w:World) (a:Option Addr) (es:List Ed):Prop := ∀ (i:Nat) (ed:Ed),es[i]? = some ed → ∃ b off,a=some ⟨b,off,none⟩∧w.cell? ⟨b,off+i * 4,none⟩=some (.int .i64 ed.x)∧w.cell? ⟨b,off+i * 4+1,none⟩=some (.int .i64 ed.y)∧w.cell? ⟨b,off+i * 4+2,none⟩=some (.int .i64 ed.z)∧w.cell? ⟨b,off+i * 4+3,none⟩=some (.int .i64 ed.c)
theorem SlE.below {w w':World} {a:Option Addr} {es:List Ed} (h:SlE w a es) (hb:Below w.heap.size w w'):SlE w' a es:=by
 intro i x hx;obtain ⟨b,off,rfl,h0,h1,h2,h3⟩:=h i x hx;exact ⟨b,off,rfl,cell_later hb h0,cell_later hb h1,cell_later hb h2,cell_later hb h3⟩
structure MatI (w:World) (Far:Nat→Prop) (sb:Nat) (most:Int) (n:Nat) (F:Pt→Int) (ts us:List Tr) (v:Value) (wr:World):Prop where
 st:StoreIs wr Far sb most ts
 far : ∀ j,Far j→j<wr.heap.size
 old : ∀ j,j<w.heap.size→Far j
 bel:Below w.heap.size w wr
 good:Good ts
 mem:trF n F∈ts
 fn:FnC n F
 own:Ownv wr w.heap.size 9 v (zDz us)
 row : ∀ g,v.ownBlock=some g→Far g
theorem Ownv.far {w w':World} {Far:Nat→Prop} {B:Nat} {e:TypeId} {v:Value} {vs:List Value} (h:Ownv w B e v vs) (hk:Keeps Far w w') (hf : ∀ g,v.ownBlock=some g→Far g):Ownv w' B e v vs:=by
 refine ⟨h.1,?_⟩;rcases h.2 with hn | ⟨g,cap,cur,rfl,hb,hgg,rest⟩
 · exact .inl hn
 · exact .inr ⟨g,cap,cur,rfl,hb,by rw [hk.block g (hf g rfl) (Array.getElem?_eq_some_iff.1 hgg).1];exact hgg,rest⟩
section
variable {w wr w':World} {Far:Nat→Prop} {sb:Nat} {most:Int} {n:Nat} {F F':Pt→Int} {ts us ts' us':List Tr} {v v':Value}
theorem MatI.later (h:MatI w Far sb most n F ts us v wr) (hb:Below wr.heap.size wr w'):MatI w Far sb most n F ts us v w' :=
 ⟨h.st.later hb,fun j hj=>Nat.lt_of_lt_of_le (h.far j hj) hb.size,h.old,h.bel.trans (hb.mono h.bel.size),h.good,h.mem,h.fn,h.own.below hb,h.row⟩
theorem MatI.made (h:MatI w Far sb most n F ts us v wr) (hk:Keeps Far wr w') (hs:StoreIs w' Far sb most ts') (hg:Good ts') (hm:trF n F'∈ts') (hf:FnC n F'):MatI w Far sb most n F' ts' us v w' :=
 ⟨hs,fun j hj=>Nat.lt_of_lt_of_le (h.far j hj) hk.size,h.old,zC h.bel hk h.old,hg,hm,hf,h.own.far hk h.row,h.row⟩
theorem MatI.drop {k:Nat} (h:MatI w Far sb most n F ts us v wr) (ha:Added wr w' v v' k) (hk:us.length≤k):MatI w Far sb most n F ts us v w':=by
 have hg:=ha.grown
 have hst:StoreIs w' Far sb most ts:=by
  cases hvo:v.ownBlock with
  | none =>
    rw [hvo] at hg;exact h.st.later ⟨hg.os,hg.tape,hg.output,hg.size,fun i hi=>hg.block i hi (by simp)⟩
  | some g=>rw [hvo] at hg;exact h.st.apart hg (h.row g hvo)
 exact ⟨hst,fun j hj=>Nat.lt_of_lt_of_le (h.far j hj) hg.size,h.old,h.bel.grown hg h.bel.size (fun g e=>(h.own.lt g e).1),h.good,h.mem,h.fn,h.own.keep ha (by rw [zD1];exact hk),h.row⟩
end
theorem zEn {ts:List Tr} (hG:Good ts) : ∀ x∈ts,Tr.WF x:=fun x hx=>zN8 hG x hx
end
end Go.Proofs.YtgnfgblkpnfcnaaGreatDoor
