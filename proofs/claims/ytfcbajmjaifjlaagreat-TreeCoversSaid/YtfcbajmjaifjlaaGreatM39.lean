/- Rfr, Rm2, Rm3, Rm4, Add, Mtp, Mtc, Bu1: joined by program, for one claim. -/
import Derived.Test.YtfcbajmjaifjlaaGreatMr
import Derived.Test.YtfcbajmjaifjlaaGreatM38
import Derived.Test.YtfcbajmjaifjlaaGreatM27
import Derived.Deep.Cut
import Derived.Test.YtfcbajmjaifjlaaGreatM6
import Derived.Test.YtfcbajmjaifjlaaGreatM37
import Derived.Deep.CutRange
import Derived.Test.YtfcbajmjaifjlaaGreatM28
import Derived.Test.YtfcbajmjaifjlaaGreatM3
import Derived.Test.YtfcbajmjaifjlaaGreatM12
import Derived.Test.YtfcbajmjaifjlaaGreatM34
import Derived.Test.YtfcbajmjaifjlaaGreatM18
import Derived.Test.YtfcbajmjaifjlaaGreatM4
import Derived.Test.YtfcbajmjaifjlaaGreatM16
import Derived.Test.YtfcbajmjaifjlaaGreatM17
set_option linter.unusedVariables false
set_option linter.unusedSimpArgs false
namespace Go.Proofs.YtfcbajmjaifjlaaGreat
section
open Go.RowKit Go.Sort Go.Maps
open Oct
theorem tree_any (a b c d e f:Int) (ha:Option Addr) (hcp:Nat) (xs:List Int) (HX:GoodG ⟨⟨a,b,c⟩,⟨d,e,f⟩⟩ xs hcp) : ∀ (n:Nat),n≤12 → ∀ (ax ay az:Int),Tr.Al n ⟨ax,ay,az⟩→(0≤ax∧ax+2 ^ (n+2)≤16384)→(0≤ay∧ay+2 ^ (n+2)≤16384)→(0≤az∧az+2 ^ (n+2)≤16384) → ∀ (w:World),Sl w .i64 ha xs →
 Calls Tryz.prog 99 #[.agg #[a,b,c,d,e,f,.slice ha xs.length hcp],.agg #[ax,ay,az],.int .i64 ((n:Int)+2)] w fun e' w'=>e' = .returned (.string (strOfNums (Tr.enc (Tr.can (cellG ⟨⟨a,b,c⟩,⟨d,e,f⟩⟩ xs) n ⟨ax,ay,az⟩))))∧Below w.heap.size w w':=by
 intro n
 induction n with
 | zero =>
   intro _ ax ay az hal hx hy hz w hsl
   have e4:(2:Int) ^ (0+2)=4:=by decide
   rw [e4] at hx hy hz
   have hcub:=Bx.mk fun W=>cube9_any ax ay az 2 (by omega) (by omega) (by omega) (by omega) W
   rw [show (2:Int) ^ 2=4 by decide] at hcub
   cases hem:emptyB (meetB ⟨⟨ax,ay,az⟩,⟨ax+4,ay+4,az+4⟩⟩ ⟨⟨a,b,c⟩,⟨d,e,f⟩⟩) with
   | true =>
     have h0:=can_zero 0 ⟨ax,ay,az⟩ (cellG ⟨⟨a,b,c⟩,⟨d,e,f⟩⟩ xs) hal (fun p hp=>no_cells (m:=4) (by decide) hal hem xs hp)
     rw [h0]
     exact tree_apart a b c d e f ha hcp xs ax ay az _ 4 hcub hem w
   | false=>exact tree_leaf a b c d e f ha hcp xs HX ax ay az 4 rfl (by omega) (by omega) (by omega) hcub hem w hsl
 | succ n ih =>
   intro hn ax ay az hal hx hy hz w hsl
   have hps:=Tr.pow_succ2 n
   have hp:=pow_le (show n+2≤14 by omega)
   have hcub:=Bx.mk fun W=>cube9_any ax ay az (n+3) (by omega) (by omega) (by omega) (by omega) W
   have h3:((n+1:Nat):Int)+2=(n:Int)+3:=by omega
   rw [show ((n+3:Nat):Int)=(n:Int)+3 by omega] at hcub
   rw [h3]
   cases hem:emptyB (meetB ⟨⟨ax,ay,az⟩,⟨ax+2 ^ (n+3),ay+2 ^ (n+3),az+2 ^ (n+3)⟩⟩ ⟨⟨a,b,c⟩,⟨d,e,f⟩⟩) with
   | true =>
     have h0:=can_zero (n+1) ⟨ax,ay,az⟩ (cellG ⟨⟨a,b,c⟩,⟨d,e,f⟩⟩ xs) hal (fun p hp=>no_cells (m:=2 ^ (n+3)) rfl hal hem xs hp)
     rw [h0]
     exact tree_apart a b c d e f ha hcp xs ax ay az _ _ hcub hem w
   | false =>
     refine tree_node a b c d e f ha hcp xs n (by omega) _ HX.range ax ay az _ (by omega) (by omega) (by omega) hcub hem ⟨fun k hk W h=>?_⟩ w hsl
     have hb:=ch_bd hk (show (0:Int)≤2 ^ (n+2) by omega)
     have hco:=cor_at ax ay az n k
     have h1:=Tr.al_cor hal k
     rw [hco] at h1 ⊢
     exact ih (by omega) _ _ _ h1 (by omega) (by omega) (by omega) W h
theorem prod_eq {a b c x y z:Int} (ha:0<a) (hb:0<b) (hc:0<c) (h1:0≤x∧x≤a) (h2:0≤y∧y≤b) (h3:0≤z∧z≤c) (h:x * y * z=a * b * c):x=a∧y=b∧z=c:=by
 have hab:0<a * b:=Int.mul_pos ha hb
 have hp:0<a * b * c:=Int.mul_pos hab hc
 have hxy:0≤x * y∧x * y≤a * b:=mul_bd h1.1 h2.1 h1.2 h2.2
 have hz:z=c:=by
  apply Classical.byContradiction
  intro hne
  have hz1:z≤c - 1:=by omega
  have:=mul_bd hxy.1 h3.1 hxy.2 hz1
  rw [h,Int.mul_sub,Int.mul_one] at this
  omega
 rw [hz] at h
 have hxy2:x * y=a * b:=Int.eq_of_mul_eq_mul_right (by omega) h
 have hy:y=b:=by
  apply Classical.byContradiction
  intro hne
  have:=mul_bd h1.1 h2.1 h1.2 (show y≤b - 1 by omega)
  rw [hxy2,Int.mul_sub,Int.mul_one] at this
  omega
 rw [hy] at hxy2
 exact ⟨Int.eq_of_mul_eq_mul_right (by omega) hxy2,hy,hz⟩
theorem vol_meet {A B:Box} (hB:emptyB B=false):(volB (meetB A B) == volB B)=decide (meetB A B=B):=by
 have hb:=emptyB_iff.1 hB
 have hv:=atB_pos hB
 rw [Bool.eq_iff_iff,beq_iff_eq,decide_eq_true_iff]
 constructor
 · intro h
   unfold meetB at h ⊢
   split at h
   · rename_i he
     have:volB Box.zero=0:=by decide
     omega
   · rename_i he
     rw [if_neg he]
     have he':emptyB (joinB A B)=false:=by cases hq:emptyB (joinB A B) with
      | true=>exact absurd hq he
      | false=>rfl
     have hj:=emptyB_iff.1 he'
     unfold volB at h
     rw [sizeB_full he',sizeB_full hB] at h
     unfold joinB at h hj ⊢
     simp only [Pt.sub] at h hj
     have:=prod_eq (by omega) (by omega) (by omega) (by omega) (by omega) (by omega) h
     obtain ⟨⟨l0,l1,l2⟩,⟨u0,u1,u2⟩⟩:=B
     simp only [] at this hb ⊢
     simp only [Box.mk.injEq,Pt.mk.injEq]
     omega
 · intro h;rw [h]
set_option maxRecDepth 100000 in
set_option maxHeartbeats 2000000 in
theorem ref9_check (a b c d e f:Int) (ha:Option Addr) (hcp:Nat) (xs:List Int) (hl:xs.length≤300) (dd:Int) (w:World) (hsl:Sl w .i64 ha xs) :
 Calls Tryz.prog 43 #[.agg #[a,b,c,d,e,f,.slice ha xs.length hcp],dd] w fun e' w'=>e' = .returned (.int .i64 (fromE ⟨⟨a,b,c⟩,⟨d,e,f⟩⟩ xs dd))∧Below w.heap.size w w':=by
 by_cases hlo:dd<2
 · have t1:decide (dd<2)=true:=by simpa using hlo
   have hr:=Bx.mk (show fromE ⟨⟨a,b,c⟩,⟨d,e,f⟩⟩ xs dd=13 by unfold fromE;rw [if_pos (.inl hlo)])
   clear hlo
   go_enter Tryz.func43,Tryz.ntmps43
   go_wp2_with fail
   go_ret
   exact ⟨by rw [hr.out];rfl,(Below.refl _ _).alloc (Nat.le_refl _) _⟩
 · have t1:decide (dd<2)=false:=by simpa using hlo
   by_cases hhi:14<dd
   · have t2:decide (14<dd)=true:=by simpa using hhi
     have hr:=Bx.mk (show fromE ⟨⟨a,b,c⟩,⟨d,e,f⟩⟩ xs dd=13 by unfold fromE;rw [if_pos (.inr hhi)])
     clear hlo hhi
     go_enter Tryz.func43,Tryz.ntmps43
     go_wp2_with fail
     go_ret
     exact ⟨by rw [hr.out];rfl,(Below.refl _ _).alloc (Nat.le_refl _) _⟩
   · have t2:decide (14<dd)=false:=by simpa using hhi
     obtain ⟨L,hL⟩ : ∃ L:Nat,dd=L:=⟨dd.toNat,by omega⟩
     subst hL
     have hval:=Bx.mk fun W (h:Sl W .i64 ha xs)=>ref_valid a b c d e f ha hcp xs hl W h
     have hemp:=Bx.mk fun W=>ref_empty a b c d e f W
     have hcub:=Bx.mk fun W=>cube9_zero L (by omega) W
     have hfe:fromE ⟨⟨a,b,c⟩,⟨d,e,f⟩⟩ xs L=if validG ⟨⟨a,b,c⟩,⟨d,e,f⟩⟩ xs=true∧(emptyB ⟨⟨a,b,c⟩,⟨d,e,f⟩⟩=true∨containsB ⟨⟨0,0,0⟩,⟨2 ^ L,2 ^ L,2 ^ L⟩⟩ ⟨⟨a,b,c⟩,⟨d,e,f⟩⟩=true) then 0 else 1:=by
      unfold fromE;rw [if_neg (by omega)];rfl
     have hsm:validG ⟨⟨a,b,c⟩,⟨d,e,f⟩⟩ xs=true→Small ⟨⟨a,b,c⟩,⟨d,e,f⟩⟩ 1048575:=fun h=>by
      simp only [validG,Bool.and_eq_true] at h
      exact okB_small h.1.1.1.1
     have hcon:validG ⟨⟨a,b,c⟩,⟨d,e,f⟩⟩ xs=true → ∀ W,Calls Tryz.prog 106 #[.agg #[(0:Int),(0:Int),(0:Int),.int .i64 (2 ^ L),.int .i64 (2 ^ L),.int .i64 (2 ^ L)],.agg #[a,b,c,d,e,f]] W fun e' w'=>e' = .returned (.bool (volB (meetB ⟨⟨0,0,0⟩,⟨2 ^ L,2 ^ L,2 ^ L⟩⟩ ⟨⟨a,b,c⟩,⟨d,e,f⟩⟩) == volB ⟨⟨a,b,c⟩,⟨d,e,f⟩⟩))∧Below W.heap.size W w':=fun h W=>ref_contains 0 0 0 (2 ^ L) (2 ^ L) (2 ^ L) a b c d e f (hsm h) W
     have hcv:emptyB ⟨⟨a,b,c⟩,⟨d,e,f⟩⟩=false→containsB ⟨⟨0,0,0⟩,⟨2 ^ L,2 ^ L,2 ^ L⟩⟩ ⟨⟨a,b,c⟩,⟨d,e,f⟩⟩=(volB (meetB ⟨⟨0,0,0⟩,⟨2 ^ L,2 ^ L,2 ^ L⟩⟩ ⟨⟨a,b,c⟩,⟨d,e,f⟩⟩) == volB ⟨⟨a,b,c⟩,⟨d,e,f⟩⟩):=fun h=>by
      rw [vol_meet h];unfold containsB;rw [h,Bool.false_or]
     have Hsl:=Bx.mk hsl
     clear hsl hsm
     generalize containsB ⟨⟨0,0,0⟩,⟨2 ^ L,2 ^ L,2 ^ L⟩⟩ ⟨⟨a,b,c⟩,⟨d,e,f⟩⟩=cb at *
     generalize (volB (meetB ⟨⟨0,0,0⟩,⟨2 ^ L,2 ^ L,2 ^ L⟩⟩ ⟨⟨a,b,c⟩,⟨d,e,f⟩⟩) == volB ⟨⟨a,b,c⟩,⟨d,e,f⟩⟩)=vb at *
     generalize validG ⟨⟨a,b,c⟩,⟨d,e,f⟩⟩ xs=va at *
     generalize emptyB ⟨⟨a,b,c⟩,⟨d,e,f⟩⟩=em at *
     generalize fromE ⟨⟨a,b,c⟩,⟨d,e,f⟩⟩ xs L=r at *
     generalize (2:Int) ^ L=m at *
     cases va with
     | false =>
       have Hr:=Bx.mk (show r=1 by simpa using hfe)
       clear hfe hcon hcv hlo hhi
       go_enter Tryz.func43,Tryz.ntmps43
       go_wp2_with fail
       generalize hW:World.alloc w _=W
       have hSz:=sz1 hW
       have hB:=bl1 hW
       have kg:Bk W (w.heap.size) #[a,b,c,d,e,f,.slice ha xs.length hcp] 28:=bk0 hW
       clear hW
       obtain ⟨cg0,cg1,cg2,cg3,cg4,cg5,cg6⟩:=kg.c7
       go_wp2_with fail
       refine (hval.out _ (Hsl.out.below hB)).mono ?_
       rintro _ w1 ⟨rfl,hb1⟩
       replace hB:=hB.trans (hb1.mono hB.size)
       replace kg:=kg.later hb1
       replace hSz:=Nat.le_trans hSz hb1.size
       clear hb1
       clear cg0 cg1 cg2 cg3 cg4 cg5 cg6
       go_wp2_with fail
       go_ret
       exact ⟨by rw [Hr.out];rfl,hB⟩
     | true =>
       have hcon2:=Bx.mk (hcon rfl)
       clear hcon
       cases em with
       | true =>
         have Hr:=Bx.mk (show r=0 by simpa using hfe)
         clear hfe hcv hlo hhi
         go_enter Tryz.func43,Tryz.ntmps43
         go_wp2_with fail
         generalize hW:World.alloc w _=W
         have hSz:=sz1 hW
         have hB:=bl1 hW
         have kg:Bk W (w.heap.size) #[a,b,c,d,e,f,.slice ha xs.length hcp] 28:=bk0 hW
         clear hW
         obtain ⟨cg0,cg1,cg2,cg3,cg4,cg5,cg6⟩:=kg.c7
         go_wp2_with fail
         refine (hval.out _ (Hsl.out.below hB)).mono ?_
         rintro _ w1 ⟨rfl,hb1⟩
         replace hB:=hB.trans (hb1.mono hB.size)
         replace kg:=kg.later hb1
         replace hSz:=Nat.le_trans hSz hb1.size
         clear hb1
         clear cg0 cg1 cg2 cg3 cg4 cg5 cg6
         obtain ⟨cg0,cg1,cg2,cg3,cg4,cg5,cg6⟩:=kg.c7
         go_wp2_with fail
         refine (hemp.out _).mono ?_
         rintro _ w2 ⟨rfl,hb2⟩
         replace hB:=hB.trans (hb2.mono hB.size)
         replace kg:=kg.later hb2
         replace hSz:=Nat.le_trans hSz hb2.size
         clear hb2
         clear cg0 cg1 cg2 cg3 cg4 cg5 cg6
         go_wp2_with fail
         obtain ⟨cg0,cg1,cg2,cg3,cg4,cg5,cg6⟩:=kg.r7
         have q0:=Bx.mk fun dk osk=>Calls.regrown_of (hcub.out (grow (redrawn w2 dk) osk))
         have q1:=Bx.mk fun dk osk=>Calls.regrown_of (hcon2.out (grow (redrawn w2 dk) osk))
         refine wp_region_quiet_below (by kernel_rfl) (by kernel_rfl) ?_
         repeat (first | go_big_quiet_step ((first | with_reducible exact q0.out _ _ | with_reducible exact q1.out _ _)) | quiet_step (first | with_reducible exact q0.out _ _ | with_reducible exact q1.out _ _))
         refine wpQuiet_nil ?_
         rintro _ ⟨⟨dq,osq⟩,rfl⟩
         have hb:=below_regrown w2 dq osq
         clear cg0 cg1 cg2 cg3 cg4 cg5 cg6
         clear q0
         clear q1
         replace hB:=hB.trans (hb.mono hB.size)
         replace kg:=kg.later hb
         replace hSz:=Nat.le_trans hSz hb.size
         clear hb
         generalize grow (redrawn w2 dq) osq=w3 at *
         go_wp2_with fail
         go_ret
         exact ⟨by rw [Hr.out];rfl,hB⟩
       | false =>
         obtain rfl:cb=vb:=hcv rfl
         have Hr:=Bx.mk (show r=if cb=true then 0 else 1 by simpa using hfe)
         clear hfe hcv hlo hhi
         go_enter Tryz.func43,Tryz.ntmps43
         go_wp2_with fail
         generalize hW:World.alloc w _=W
         have hSz:=sz1 hW
         have hB:=bl1 hW
         have kg:Bk W (w.heap.size) #[a,b,c,d,e,f,.slice ha xs.length hcp] 28:=bk0 hW
         clear hW
         obtain ⟨cg0,cg1,cg2,cg3,cg4,cg5,cg6⟩:=kg.c7
         go_wp2_with fail
         refine (hval.out _ (Hsl.out.below hB)).mono ?_
         rintro _ w1 ⟨rfl,hb1⟩
         replace hB:=hB.trans (hb1.mono hB.size)
         replace kg:=kg.later hb1
         replace hSz:=Nat.le_trans hSz hb1.size
         clear hb1
         clear cg0 cg1 cg2 cg3 cg4 cg5 cg6
         obtain ⟨cg0,cg1,cg2,cg3,cg4,cg5,cg6⟩:=kg.c7
         go_wp2_with fail
         refine (hemp.out _).mono ?_
         rintro _ w2 ⟨rfl,hb2⟩
         replace hB:=hB.trans (hb2.mono hB.size)
         replace kg:=kg.later hb2
         replace hSz:=Nat.le_trans hSz hb2.size
         clear hb2
         clear cg0 cg1 cg2 cg3 cg4 cg5 cg6
         go_wp2_with fail
         obtain ⟨cg0,cg1,cg2,cg3,cg4,cg5,cg6⟩:=kg.r7
         have q0:=Bx.mk fun dk osk=>Calls.regrown_of (hcub.out (grow (redrawn w2 dk) osk))
         have q1:=Bx.mk fun dk osk=>Calls.regrown_of (hcon2.out (grow (redrawn w2 dk) osk))
         refine wp_region_quiet_below (by kernel_rfl) (by kernel_rfl) ?_
         repeat (first | go_big_quiet_step ((first | with_reducible exact q0.out _ _ | with_reducible exact q1.out _ _)) | quiet_step (first | with_reducible exact q0.out _ _ | with_reducible exact q1.out _ _))
         refine wpQuiet_nil ?_
         rintro _ ⟨⟨dq,osq⟩,rfl⟩
         have hb:=below_regrown w2 dq osq
         clear cg0 cg1 cg2 cg3 cg4 cg5 cg6
         clear q0
         clear q1
         replace hB:=hB.trans (hb.mono hB.size)
         replace kg:=kg.later hb
         replace hSz:=Nat.le_trans hSz hb.size
         clear hb
         generalize grow (redrawn w2 dq) osq=w3 at *
         cases cb with
         | true =>
           go_wp2_with fail
           go_ret
           exact ⟨by rw [Hr.out];rfl,hB⟩
         | false =>
           go_wp2_with fail
           go_ret
           exact ⟨by rw [Hr.out];rfl,hB⟩
set_option maxRecDepth 100000 in
theorem ref9_from_yes (a b c d e f:Int) (ha:Option Addr) (hcp:Nat) (xs:List Int) (hl:xs.length≤300) (n:Nat) (hn:n≤12) (HX:GoodG ⟨⟨a,b,c⟩,⟨d,e,f⟩⟩ xs hcp) (hE:fromE ⟨⟨a,b,c⟩,⟨d,e,f⟩⟩ xs ((n:Int)+2)=0) (w:World) (hsl:Sl w .i64 ha xs) :
 Calls Tryz.prog 34 #[.agg #[a,b,c,d,e,f,.slice ha xs.length hcp],.int .i64 ((n:Int)+2)] w fun e' w'=>e' = .returned (.tuple #[.string (strOfNums (Tr.enc (trF n (cellG ⟨⟨a,b,c⟩,⟨d,e,f⟩⟩ xs)))),(0:Int)])∧Below w.heap.size w w':=by
 have hch:=Bx.mk fun W (h:Sl W .i64 ha xs)=>ref9_check a b c d e f ha hcp xs hl ((n:Int)+2) W h
 rw [hE] at hch
 have hp:=pow_le (show n+2≤14 by omega)
 have htr:=Bx.mk fun W (h:Sl W .i64 ha xs)=>tree_any a b c d e f ha hcp xs HX n hn 0 0 0 (al_zero n) (by omega) (by omega) (by omega) W h
 have Hsl:=Bx.mk hsl
 clear hsl hE HX hp
 unfold trF
 generalize strOfNums (Tr.enc (Tr.can (cellG ⟨⟨a,b,c⟩,⟨d,e,f⟩⟩ xs) n ⟨0,0,0⟩))=S at *
 go_enter Tryz.func34,Tryz.ntmps34
 go_wp2_with fail
 generalize hW:World.alloc w _=W
 have hSz:=sz1 hW
 have hB:=bl1 hW
 have kg:Bk W (w.heap.size) #[a,b,c,d,e,f,.slice ha xs.length hcp] 28:=bk0 hW
 clear hW
 obtain ⟨cg0,cg1,cg2,cg3,cg4,cg5,cg6⟩:=kg.c7
 go_wp2_with fail
 refine (hch.out _ (Hsl.out.below hB)).mono ?_
 rintro _ w1 ⟨rfl,hb1⟩
 replace hB:=hB.trans (hb1.mono hB.size)
 replace kg:=kg.later hb1
 replace hSz:=Nat.le_trans hSz hb1.size
 clear hb1
 clear cg0 cg1 cg2 cg3 cg4 cg5 cg6
 obtain ⟨cg0,cg1,cg2,cg3,cg4,cg5,cg6⟩:=kg.c7
 go_wp2_with fail
 refine (htr.out _ (Hsl.out.below hB)).mono ?_
 rintro _ w2 ⟨rfl,hb2⟩
 clear cg0 cg1 cg2 cg3 cg4 cg5 cg6
 replace hB:=hB.trans (hb2.mono hB.size)
 replace kg:=kg.later hb2
 replace hSz:=Nat.le_trans hSz hb2.size
 clear hb2
 go_wp2_with fail
 go_ret2
 exact ⟨rfl,hB⟩
end
section
open Go.RowKit Go.Sort Go.Maps
open Oct
structure MkI (w w6:World) (cb:Nat) (xv cv:Array Value) (v:Value) (zs:List Int) (wr:World):Prop where
 kx:Bk wr (w.heap.size+1) xv 164
 kc:Bk wr cb cv 25
 own:Own wr w6.heap.size 3 .i64 v zs
 bel:Below w.heap.size w wr
theorem MkI.later {w w6:World} {cb:Nat} {xv cv:Array Value} {v:Value} {zs:List Int} {wr w':World} (h:MkI w w6 cb xv cv v zs wr) (hb:Below wr.heap.size wr w'):MkI w w6 cb xv cv v zs w' :=
 ⟨h.kx.later hb,h.kc.later hb,h.own.below hb,h.bel.trans (hb.mono h.bel.size)⟩
end
section
open Go.RowKit Go.Sort Go.Maps
open Oct
structure MnI (w:World) (pv xv:Array Value) (v:Value) (vs:List Value) (wr:World):Prop where
 kp:Bk wr w.heap.size pv 23
 kx:Bk wr (w.heap.size+1) xv 164
 own:Ownv wr (w.heap.size+1+1) 9 v vs
 bel:Below w.heap.size w wr
theorem MnI.later {w wr w':World} {pv xv:Array Value} {v:Value} {vs:List Value} (H:MnI w pv xv v vs wr) (h:Below wr.heap.size wr w'):MnI w pv xv v vs w' :=
 ⟨H.kp.later h,H.kx.later h,H.own.below h,H.bel.trans (h.mono H.bel.size)⟩
end
section
open Go.RowKit Go.Sort Go.Maps
open Oct
theorem InT.small {N n:Nat} {a:Pt} (hN:N≤12) (h:InT N n a):Small (cubeAtB n a) 1048575:=by
 obtain ⟨b1,b2,b3⟩:=h.bd hN
 have h1:=pow_le (show n+2≤14 by have:=h.le;omega)
 exact ⟨by simp only [];omega,by simp only [];omega,by simp only [];omega,by simp only [];omega,by simp only [];omega,by simp only [];omega⟩
end
section
open Go.RowKit Go.Sort
open Oct
def encs (ts:List Tr):List Value:=strs (ts.map Tr.enc)
theorem encs_len (ts:List Tr):(encs ts).length=ts.length:=by unfold encs;rw [strs_length,List.length_map]
end
section
open Go.RowKit Go.Sort Go.Maps
open Oct
structure Ed where
 x:Int
 y:Int
 z:Int
 c:Int
def SlE (w:World) (a:Option Addr) (es:List Ed):Prop := ∀ (i:Nat) (ed:Ed),es[i]? = some ed → ∃ b off,a=some ⟨b,off,none⟩∧w.cell? ⟨b,off+i * 4,none⟩=some (.int .i64 ed.x)∧w.cell? ⟨b,off+i * 4+1,none⟩=some (.int .i64 ed.y)∧w.cell? ⟨b,off+i * 4+2,none⟩=some (.int .i64 ed.z)∧w.cell? ⟨b,off+i * 4+3,none⟩=some (.int .i64 ed.c)
theorem SlE.below {w w':World} {a:Option Addr} {es:List Ed} (h:SlE w a es) (hb:Below w.heap.size w w'):SlE w' a es:=by
 intro i x hx
 obtain ⟨b,off,rfl,h0,h1,h2,h3⟩:=h i x hx
 exact ⟨b,off,rfl,cell_later hb h0,cell_later hb h1,cell_later hb h2,cell_later hb h3⟩
structure MatI (w:World) (Far:Nat→Prop) (sb:Nat) (most:Int) (n:Nat) (F:Pt→Int) (ts us:List Tr) (v:Value) (wr:World):Prop where
 st:StoreIs wr Far sb most ts
 far : ∀ j,Far j→j<wr.heap.size
 old : ∀ j,j<w.heap.size→Far j
 bel:Below w.heap.size w wr
 good:Good ts
 mem:trF n F∈ts
 fn:FnC n F
 own:Ownv wr w.heap.size 9 v (encs us)
 row : ∀ g,v.ownBlock=some g→Far g
theorem Ownv.far {w w':World} {Far:Nat→Prop} {B:Nat} {e:TypeId} {v:Value} {vs:List Value} (h:Ownv w B e v vs) (hk:Keeps Far w w') (hf : ∀ g,v.ownBlock=some g→Far g):Ownv w' B e v vs:=by
 refine ⟨h.1,?_⟩
 rcases h.2 with hn | ⟨g,cap,cur,rfl,hb,hgg,rest⟩
 · exact .inl hn
 · exact .inr ⟨g,cap,cur,rfl,hb,by rw [hk.block g (hf g rfl) (Array.getElem?_eq_some_iff.1 hgg).1];exact hgg,rest⟩
section
variable {w wr w':World} {Far:Nat→Prop} {sb:Nat} {most:Int} {n:Nat} {F F':Pt→Int} {ts us ts' us':List Tr} {v v':Value}
theorem MatI.later (h:MatI w Far sb most n F ts us v wr) (hb:Below wr.heap.size wr w'):MatI w Far sb most n F ts us v w' :=
 ⟨h.st.later hb,fun j hj=>Nat.lt_of_lt_of_le (h.far j hj) hb.size,h.old,h.bel.trans (hb.mono h.bel.size),h.good,h.mem,h.fn,h.own.below hb,h.row⟩
theorem MatI.made (h:MatI w Far sb most n F ts us v wr) (hk:Keeps Far wr w') (hs:StoreIs w' Far sb most ts') (hg:Good ts') (hm:trF n F'∈ts') (hf:FnC n F'):MatI w Far sb most n F' ts' us v w' :=
 ⟨hs,fun j hj=>Nat.lt_of_lt_of_le (h.far j hj) hk.size,h.old,below_of_keeps h.bel hk h.old,hg,hm,hf,h.own.far hk h.row,h.row⟩
theorem MatI.push {k:Nat} (h:MatI w Far sb most n F ts us v wr) (ha:Added wr w' v v' k) (hown:Ownv w' w.heap.size 9 v' (encs us')):MatI w (fun j=>Far j∨v'.ownBlock=some j) sb most n F ts us' v' w':=by
 have hg:=ha.grown
 have hst:StoreIs w' (fun j=>Far j∨v'.ownBlock=some j) sb most ts:=by
  have h1:StoreIs wr (fun j=>Far j∨v'.ownBlock=some j) sb most ts:=h.st.widen fun k hk=>by
   rcases hk with hk | hk
   · exact .inl hk
   · rcases ha.where_ with e | e
     · rw [e] at hk;exact .inl (h.row k hk)
     · exact .inr (e k hk)
  cases hvo:v.ownBlock with
  | none =>
    rw [hvo] at hg
    exact h1.later ⟨hg.os,hg.tape,hg.output,hg.size,fun i hi=>hg.block i hi (by simp)⟩
  | some g=>rw [hvo] at hg;exact h1.apart hg (.inl (h.row g hvo))
 refine ⟨hst,fun j hj=>?_,fun j hj=>.inl (h.old j hj),?_,h.good,h.mem,h.fn,hown,fun g hg=>.inr hg⟩
 · rcases hj with hj | hj
   · exact Nat.lt_of_lt_of_le (h.far j hj) hg.size
   · exact (hown.lt j hj).2
 · exact h.bel.grown hg h.bel.size (fun g e=>(h.own.lt g e).1)
theorem MatI.drop {k:Nat} (h:MatI w Far sb most n F ts us v wr) (ha:Added wr w' v v' k) (hk:us.length≤k):MatI w Far sb most n F ts us v w':=by
 have hg:=ha.grown
 have hst:StoreIs w' Far sb most ts:=by
  cases hvo:v.ownBlock with
  | none =>
    rw [hvo] at hg
    exact h.st.later ⟨hg.os,hg.tape,hg.output,hg.size,fun i hi=>hg.block i hi (by simp)⟩
  | some g=>rw [hvo] at hg;exact h.st.apart hg (h.row g hvo)
 exact ⟨hst,fun j hj=>Nat.lt_of_lt_of_le (h.far j hj) hg.size,h.old,h.bel.grown hg h.bel.size (fun g e=>(h.own.lt g e).1),h.good,h.mem,h.fn,h.own.keep ha (by rw [encs_len];exact hk),h.row⟩
end
end
section
open Go.RowKit Go.Sort Go.Maps
open Oct
noncomputable def txt (n:Nat) (F:Pt→Int):ByteArray:=strOfNums (Tr.enc (trF n F))
noncomputable def idn (ts:List Tr) (n:Nat) (F:Pt→Int):Int:=(idT ts (trF n F):Int)
noncomputable def addn (n:Nat) (F:Pt→Int) (ts:List Tr):List Tr:=Tr.add (trF n F) ts
theorem m_from_fits (w:World) (sb:Nat) (a b c d e f:Int) (ha:Option Addr) (hcp:Nat) (xs:List Int) (n:Nat) (hn:n≤12) (hsl:Sl w .i64 ha xs) (HX:GoodG ⟨⟨a,b,c⟩,⟨d,e,f⟩⟩ xs hcp) (hV:validG ⟨⟨a,b,c⟩,⟨d,e,f⟩⟩ xs=true) (hC:emptyB ⟨⟨a,b,c⟩,⟨d,e,f⟩⟩=true∨containsB ⟨⟨0,0,0⟩,⟨2 ^ (n+2),2 ^ (n+2),2 ^ (n+2)⟩⟩ ⟨⟨a,b,c⟩,⟨d,e,f⟩⟩=true)
 (Far:Nat→Prop) (hfx:xs ≠ [] → ∀ b,ha.map (·.block)=some b→Far b) (most:Int) (hFar : ∀ k,Far k→k<w.heap.size) (hS:StoreIs w Far sb most []) (hfit:Tr.Fits most [] (addn n (cellG ⟨⟨a,b,c⟩,⟨d,e,f⟩⟩ xs) [])) :
 Calls Tryz.prog 33 #[.pointer (some ⟨sb,0,none⟩),.agg #[a,b,c,d,e,f,.slice ha xs.length hcp],.int .i64 ((n:Int)+2)] w fun E w'=>E=ret2 (idn (addn n (cellG ⟨⟨a,b,c⟩,⟨d,e,f⟩⟩ xs) []) n (cellG ⟨⟨a,b,c⟩,⟨d,e,f⟩⟩ xs)) 0∧StoreIs w' Far sb most (addn n (cellG ⟨⟨a,b,c⟩,⟨d,e,f⟩⟩ xs) [])∧Keeps Far w w' :=
 (from_yes w sb a b c d e f ha hcp xs n hn hsl HX hV hC Far hfx most [] good_nil (by simp) hFar hS).mono fun _ _ h=>h.fit hfit
theorem m_ref_yes (a b c d e f:Int) (ha:Option Addr) (hcp:Nat) (xs:List Int) (hl:xs.length≤300) (n:Nat) (hn:n≤12) (HX:GoodG ⟨⟨a,b,c⟩,⟨d,e,f⟩⟩ xs hcp) (hE:fromE ⟨⟨a,b,c⟩,⟨d,e,f⟩⟩ xs ((n:Int)+2)=0) (w:World) (hsl:Sl w .i64 ha xs) :
 Calls Tryz.prog 34 #[.agg #[a,b,c,d,e,f,.slice ha xs.length hcp],.int .i64 ((n:Int)+2)] w fun e' w'=>e' = .returned (.tuple #[.string (txt n (cellG ⟨⟨a,b,c⟩,⟨d,e,f⟩⟩ xs)),(0:Int)])∧Below w.heap.size w w' :=
 ref9_from_yes a b c d e f ha hcp xs hl n hn HX hE w hsl
theorem addn_good {n:Nat} {F:Pt→Int} {ts:List Tr} (hn:n≤12) (hF:FnC n F) (hG:Good ts):Good (addn n F ts):=good_fn hn hF hG
theorem addn_mem (n:Nat) (F:Pt→Int) (ts:List Tr):trF n F∈addn n F ts:=Tr.mem_add _ _
theorem addn_few {b:Box} {xs:List Int} {hcp n:Nat} (HX:GoodG b xs hcp) (hn:n≤12):(addn n (cellG b xs) []).length≤3901:=by
 have:=can_few HX hn good_nil
 rwa [List.length_nil,Nat.zero_add] at this
end
section
open Go.RowKit Go.Sort Go.Maps
open Oct
set_option maxRecDepth 100000 in
set_option maxHeartbeats 1000000 in
theorem built10_yes (most:Int) (a b c d e f:Int) (ha:Option Addr) (hcp:Nat) (xs:List Int) (hl:xs.length≤300) (n:Nat) (hn:n≤12) (HX:GoodG ⟨⟨a,b,c⟩,⟨d,e,f⟩⟩ xs hcp) (hE:fromE ⟨⟨a,b,c⟩,⟨d,e,f⟩⟩ xs ((n:Int)+2)=0) (hV:validG ⟨⟨a,b,c⟩,⟨d,e,f⟩⟩ xs=true) (hC:emptyB ⟨⟨a,b,c⟩,⟨d,e,f⟩⟩=true∨containsB ⟨⟨0,0,0⟩,⟨2 ^ (n+2),2 ^ (n+2),2 ^ (n+2)⟩⟩ ⟨⟨a,b,c⟩,⟨d,e,f⟩⟩=true) (hfit:Tr.Fits most [] (addn n (cellG ⟨⟨a,b,c⟩,⟨d,e,f⟩⟩ xs) [])) (w:World) (hsl:Sl w .i64 ha xs) :
 Calls Tryz.prog 11 #[.agg #[a,b,c,d,e,f,.slice ha xs.length hcp],.int .i64 ((n:Int)+2),most] w fun e' w' => ∃ sb,e' = .returned (.tuple #[.pointer (some ⟨sb,0,none⟩),.int .i64 (idn (addn n (cellG ⟨⟨a,b,c⟩,⟨d,e,f⟩⟩ xs) []) n (cellG ⟨⟨a,b,c⟩,⟨d,e,f⟩⟩ xs)),.string (txt n (cellG ⟨⟨a,b,c⟩,⟨d,e,f⟩⟩ xs)),.bool true])∧StoreIs w' (fun k=>k<w.heap.size) sb most (addn n (cellG ⟨⟨a,b,c⟩,⟨d,e,f⟩⟩ xs) [])∧Below w.heap.size w w':=by
 have hfx:xs ≠ [] → ∀ b,ha.map (·.block)=some b→b<w.heap.size:=fun hx b hb=>by
  obtain ⟨x,r,rfl⟩:=List.exists_cons_of_ne_nil hx
  obtain ⟨b',off,h1,h2⟩:=hsl 0 x rfl
  rw [h1] at hb
  simp only [Option.map_some,Option.some.injEq] at hb
  rw [←hb];exact World.block_lt_of_cell? w _ h2
 have hfr:=Bx.mk (fun W sb Far h1 h2 h3 h4=>m_from_fits W sb a b c d e f ha hcp xs n hn h1 HX hV hC Far h2 most h3 h4 hfit)
 have hrf:=Bx.mk (fun W h1=>m_ref_yes a b c d e f ha hcp xs hl n hn HX hE W h1)
 have hsl:=Bx.mk hsl
 have hfx:=Bx.mk hfx
 clear HX hV hC hn hE hfit hl
 generalize idn (addn n (cellG ⟨⟨a,b,c⟩,⟨d,e,f⟩⟩ xs) []) n (cellG ⟨⟨a,b,c⟩,⟨d,e,f⟩⟩ xs)=iX at *
 generalize addn n (cellG ⟨⟨a,b,c⟩,⟨d,e,f⟩⟩ xs) []=ts at *
 generalize txt n (cellG ⟨⟨a,b,c⟩,⟨d,e,f⟩⟩ xs)=S at *
 go_enter Tryz.func11,Tryz.ntmps11
 go_wp2_with fail
 generalize hW:World.alloc w _=W
 have hB:=bl1 hW
 have kg:Bk W w.heap.size #[a,b,c,d,e,f,.slice ha xs.length hcp] 28:=bk0 hW
 clear hW
 refine (newStore_any most _).mono ?_
 rintro _ w1 ⟨sb,rfl,hS1,hb1⟩
 have HS:=Bx.mk (hS1.less (Far:=fun k=>k<w.heap.size) (fun k hk=>Nat.lt_of_lt_of_le hk hB.size))
 have HB:=Bx.mk (hB.trans (hb1.mono hB.size))
 have KG:=Bx.mk (kg.later hb1)
 obtain ⟨c0,c1,c2,c3,c4,c5,c6⟩:=KG.out.c7
 clear hS1 hb1 hB kg
 go_wp2_with fail
 refine (hrf.out _ (hsl.out.below HB.out)).mono ?_
 rintro _ w2 ⟨rfl,hb2⟩
 replace HS:=Bx.mk (HS.out.later hb2)
 replace HB:=Bx.mk (HB.out.trans (hb2.mono HB.out.size))
 replace KG:=Bx.mk (KG.out.later hb2)
 clear c0 c1 c2 c3 c4 c5 c6
 obtain ⟨c0,c1,c2,c3,c4,c5,c6⟩:=KG.out.c7
 clear hb2
 go_wp2_with fail
 refine (hfr.out _ sb (fun k=>k<w.heap.size) (hsl.out.below HB.out) (fun hx b hb=>hfx.out hx b hb) (fun k hk=>Nat.lt_of_lt_of_le hk HB.out.size) HS.out).mono ?_
 rintro _ w3 ⟨rfl,hS3,hK3⟩
 have HB3:Bx (Below w.heap.size w w3):=⟨HB.out.trans ⟨hK3.os,hK3.tape,hK3.output,hK3.size,fun k hk=>hK3.block k hk (Nat.lt_of_lt_of_le hk HB.out.size)⟩⟩
 have HS3:=Bx.mk hS3
 clear hS3 hK3 c0 c1 c2 c3 c4 c5 c6
 go_wp2_with fail
 exact bodyPost_ret (v:=.tuple #[.pointer (some ⟨sb,0,none⟩),iX,.string S,.bool true]) (by simp [results,Tryz.results11,go_sem]) rfl ⟨sb,rfl,HS3.out,HB3.out⟩
end
end Go.Proofs.YtfcbajmjaifjlaaGreat
