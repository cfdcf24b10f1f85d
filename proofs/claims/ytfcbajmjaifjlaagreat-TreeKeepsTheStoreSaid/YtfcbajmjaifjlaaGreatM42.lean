/- Rfr: joined by program, for one claim. -/
import Derived.Test.YtfcbajmjaifjlaaGreatMr
import Derived.Test.YtfcbajmjaifjlaaGreatM41
set_option linter.unusedVariables false
set_option linter.unusedSimpArgs false
section
namespace Go.Proofs.YtfcbajmjaifjlaaGreat
open Go.RowKit Go.Sort Go.Maps
open Oct
theorem tree_any (a b c d e f:Int) (ha:Option Addr) (hcp:Nat) (xs:List Int) (HX:GoodG ⟨⟨a,b,c⟩,⟨d,e,f⟩⟩ xs hcp) : ∀ (n:Nat),n≤12 → ∀ (ax ay az:Int),Tr.Al n ⟨ax,ay,az⟩→(0≤ax∧ax+2 ^ (n+2)≤16384)→(0≤ay∧ay+2 ^ (n+2)≤16384)→(0≤az∧az+2 ^ (n+2)≤16384) → ∀ (w:World),Sl w .i64 ha xs →
 Calls Tryz.prog 99 #[.agg #[a,b,c,d,e,f,.slice ha xs.length hcp],.agg #[ax,ay,az],.int .i64 ((n:Int)+2)] w fun e' w'=>e' = .returned (.string (strOfNums (Tr.enc (Tr.can (cellG ⟨⟨a,b,c⟩,⟨d,e,f⟩⟩ xs) n ⟨ax,ay,az⟩))))∧Below w.heap.size w w':=by
 intro n
 induction n with
 | zero =>
   intro _ ax ay az hal hx hy hz w hsl
   have e4:(2:Int) ^ (0+2)=4:=by decide
   rw [e4] at hx hy hz
   have hcub:=Bx.mk fun W=>cube9_any ax ay az 2 (by omega) (by omega) (by omega) (by omega) W
   rw [show (2:Int) ^ 2=4 by decide] at hcub
   cases hem:emptyB (meetB ⟨⟨ax,ay,az⟩,⟨ax+4,ay+4,az+4⟩⟩ ⟨⟨a,b,c⟩,⟨d,e,f⟩⟩) with
   | true =>
     have h0:=can_zero 0 ⟨ax,ay,az⟩ (cellG ⟨⟨a,b,c⟩,⟨d,e,f⟩⟩ xs) hal (fun p hp=>no_cells (m:=4) (by decide) hal hem xs hp)
     rw [h0]
     exact tree_apart a b c d e f ha hcp xs ax ay az _ 4 hcub hem w
   | false=>exact tree_leaf a b c d e f ha hcp xs HX ax ay az 4 rfl (by omega) (by omega) (by omega) hcub hem w hsl
 | succ n ih =>
   intro hn ax ay az hal hx hy hz w hsl
   have hps:=Tr.pow_succ2 n
   have hp:=pow_le (show n+2≤14 by omega)
   have hcub:=Bx.mk fun W=>cube9_any ax ay az (n+3) (by omega) (by omega) (by omega) (by omega) W
   have h3:((n+1:Nat):Int)+2=(n:Int)+3:=by omega
   rw [show ((n+3:Nat):Int)=(n:Int)+3 by omega] at hcub
   rw [h3]
   cases hem:emptyB (meetB ⟨⟨ax,ay,az⟩,⟨ax+2 ^ (n+3),ay+2 ^ (n+3),az+2 ^ (n+3)⟩⟩ ⟨⟨a,b,c⟩,⟨d,e,f⟩⟩) with
   | true =>
     have h0:=can_zero (n+1) ⟨ax,ay,az⟩ (cellG ⟨⟨a,b,c⟩,⟨d,e,f⟩⟩ xs) hal (fun p hp=>no_cells (m:=2 ^ (n+3)) rfl hal hem xs hp)
     rw [h0]
     exact tree_apart a b c d e f ha hcp xs ax ay az _ _ hcub hem w
   | false =>
     refine tree_node a b c d e f ha hcp xs n (by omega) _ HX.range ax ay az _ (by omega) (by omega) (by omega) hcub hem ⟨fun k hk W h=>?_⟩ w hsl
     have hb:=ch_bd hk (show (0:Int)≤2 ^ (n+2) by omega)
     have hco:=cor_at ax ay az n k
     have h1:=Tr.al_cor hal k
     rw [hco] at h1 ⊢
     exact ih (by omega) _ _ _ h1 (by omega) (by omega) (by omega) W h
theorem prod_eq {a b c x y z:Int} (ha:0<a) (hb:0<b) (hc:0<c) (h1:0≤x∧x≤a) (h2:0≤y∧y≤b) (h3:0≤z∧z≤c) (h:x * y * z=a * b * c):x=a∧y=b∧z=c:=by
 have hab:0<a * b:=Int.mul_pos ha hb
 have hp:0<a * b * c:=Int.mul_pos hab hc
 have hxy:0≤x * y∧x * y≤a * b:=mul_bd h1.1 h2.1 h1.2 h2.2
 have hz:z=c:=by
  apply Classical.byContradiction
  intro hne
  have hz1:z≤c - 1:=by omega
  have:=mul_bd hxy.1 h3.1 hxy.2 hz1
  rw [h,Int.mul_sub,Int.mul_one] at this
  omega
 rw [hz] at h
 have hxy2:x * y=a * b:=Int.eq_of_mul_eq_mul_right (by omega) h
 have hy:y=b:=by
  apply Classical.byContradiction
  intro hne
  have:=mul_bd h1.1 h2.1 h1.2 (show y≤b - 1 by omega)
  rw [hxy2,Int.mul_sub,Int.mul_one] at this
  omega
 rw [hy] at hxy2
 exact ⟨Int.eq_of_mul_eq_mul_right (by omega) hxy2,hy,hz⟩
theorem vol_meet {A B:Box} (hB:emptyB B=false):(volB (meetB A B) == volB B)=decide (meetB A B=B):=by
 have hb:=emptyB_iff.1 hB
 have hv:=atB_pos hB
 rw [Bool.eq_iff_iff,beq_iff_eq,decide_eq_true_iff]
 constructor
 · intro h
   unfold meetB at h ⊢
   split at h
   · rename_i he
     have:volB Box.zero=0:=by decide
     omega
   · rename_i he
     rw [if_neg he]
     have he':emptyB (joinB A B)=false:=by cases hq:emptyB (joinB A B) with
      | true=>exact absurd hq he
      | false=>rfl
     have hj:=emptyB_iff.1 he'
     unfold volB at h
     rw [sizeB_full he',sizeB_full hB] at h
     unfold joinB at h hj ⊢
     simp only [Pt.sub] at h hj
     have:=prod_eq (by omega) (by omega) (by omega) (by omega) (by omega) (by omega) h
     obtain ⟨⟨l0,l1,l2⟩,⟨u0,u1,u2⟩⟩:=B
     simp only [] at this hb ⊢
     simp only [Box.mk.injEq,Pt.mk.injEq]
     omega
 · intro h;rw [h]
set_option maxRecDepth 100000 in
set_option maxHeartbeats 2000000 in
theorem ref9_check (a b c d e f:Int) (ha:Option Addr) (hcp:Nat) (xs:List Int) (hl:xs.length≤300) (dd:Int) (w:World) (hsl:Sl w .i64 ha xs) :
 Calls Tryz.prog 43 #[.agg #[a,b,c,d,e,f,.slice ha xs.length hcp],dd] w fun e' w'=>e' = .returned (.int .i64 (fromE ⟨⟨a,b,c⟩,⟨d,e,f⟩⟩ xs dd))∧Below w.heap.size w w':=by
 by_cases hlo:dd<2
 · have t1:decide (dd<2)=true:=by simpa using hlo
   have hr:=Bx.mk (show fromE ⟨⟨a,b,c⟩,⟨d,e,f⟩⟩ xs dd=13 by unfold fromE;rw [if_pos (.inl hlo)])
   clear hlo
   go_enter Tryz.func43,Tryz.ntmps43
   go_wp2_with fail
   go_ret
   exact ⟨by rw [hr.out];rfl,(Below.refl _ _).alloc (Nat.le_refl _) _⟩
 · have t1:decide (dd<2)=false:=by simpa using hlo
   by_cases hhi:14<dd
   · have t2:decide (14<dd)=true:=by simpa using hhi
     have hr:=Bx.mk (show fromE ⟨⟨a,b,c⟩,⟨d,e,f⟩⟩ xs dd=13 by unfold fromE;rw [if_pos (.inr hhi)])
     clear hlo hhi
     go_enter Tryz.func43,Tryz.ntmps43
     go_wp2_with fail
     go_ret
     exact ⟨by rw [hr.out];rfl,(Below.refl _ _).alloc (Nat.le_refl _) _⟩
   · have t2:decide (14<dd)=false:=by simpa using hhi
     obtain ⟨L,hL⟩ : ∃ L:Nat,dd=L:=⟨dd.toNat,by omega⟩
     subst hL
     have hval:=Bx.mk fun W (h:Sl W .i64 ha xs)=>ref_valid a b c d e f ha hcp xs hl W h
     have hemp:=Bx.mk fun W=>ref_empty a b c d e f W
     have hcub:=Bx.mk fun W=>cube9_zero L (by omega) W
     have hfe:fromE ⟨⟨a,b,c⟩,⟨d,e,f⟩⟩ xs L=if validG ⟨⟨a,b,c⟩,⟨d,e,f⟩⟩ xs=true∧(emptyB ⟨⟨a,b,c⟩,⟨d,e,f⟩⟩=true∨containsB ⟨⟨0,0,0⟩,⟨2 ^ L,2 ^ L,2 ^ L⟩⟩ ⟨⟨a,b,c⟩,⟨d,e,f⟩⟩=true) then 0 else 1:=by
      unfold fromE;rw [if_neg (by omega)];rfl
     have hsm:validG ⟨⟨a,b,c⟩,⟨d,e,f⟩⟩ xs=true→Small ⟨⟨a,b,c⟩,⟨d,e,f⟩⟩ 1048575:=fun h=>by
      simp only [validG,Bool.and_eq_true] at h
      exact okB_small h.1.1.1.1
     have hcon:validG ⟨⟨a,b,c⟩,⟨d,e,f⟩⟩ xs=true → ∀ W,Calls Tryz.prog 106 #[.agg #[(0:Int),(0:Int),(0:Int),.int .i64 (2 ^ L),.int .i64 (2 ^ L),.int .i64 (2 ^ L)],.agg #[a,b,c,d,e,f]] W fun e' w'=>e' = .returned (.bool (volB (meetB ⟨⟨0,0,0⟩,⟨2 ^ L,2 ^ L,2 ^ L⟩⟩ ⟨⟨a,b,c⟩,⟨d,e,f⟩⟩) == volB ⟨⟨a,b,c⟩,⟨d,e,f⟩⟩))∧Below W.heap.size W w':=fun h W=>ref_contains 0 0 0 (2 ^ L) (2 ^ L) (2 ^ L) a b c d e f (hsm h) W
     have hcv:emptyB ⟨⟨a,b,c⟩,⟨d,e,f⟩⟩=false→containsB ⟨⟨0,0,0⟩,⟨2 ^ L,2 ^ L,2 ^ L⟩⟩ ⟨⟨a,b,c⟩,⟨d,e,f⟩⟩=(volB (meetB ⟨⟨0,0,0⟩,⟨2 ^ L,2 ^ L,2 ^ L⟩⟩ ⟨⟨a,b,c⟩,⟨d,e,f⟩⟩) == volB ⟨⟨a,b,c⟩,⟨d,e,f⟩⟩):=fun h=>by
      rw [vol_meet h];unfold containsB;rw [h,Bool.false_or]
     have Hsl:=Bx.mk hsl
     clear hsl hsm
     generalize containsB ⟨⟨0,0,0⟩,⟨2 ^ L,2 ^ L,2 ^ L⟩⟩ ⟨⟨a,b,c⟩,⟨d,e,f⟩⟩=cb at *
     generalize (volB (meetB ⟨⟨0,0,0⟩,⟨2 ^ L,2 ^ L,2 ^ L⟩⟩ ⟨⟨a,b,c⟩,⟨d,e,f⟩⟩) == volB ⟨⟨a,b,c⟩,⟨d,e,f⟩⟩)=vb at *
     generalize validG ⟨⟨a,b,c⟩,⟨d,e,f⟩⟩ xs=va at *
     generalize emptyB ⟨⟨a,b,c⟩,⟨d,e,f⟩⟩=em at *
     generalize fromE ⟨⟨a,b,c⟩,⟨d,e,f⟩⟩ xs L=r at *
     generalize (2:Int) ^ L=m at *
     cases va with
     | false =>
       have Hr:=Bx.mk (show r=1 by simpa using hfe)
       clear hfe hcon hcv hlo hhi
       go_enter Tryz.func43,Tryz.ntmps43
       go_wp2_with fail
       generalize hW:World.alloc w _=W
       have hSz:=sz1 hW
       have hB:=bl1 hW
       have kg:Bk W (w.heap.size) #[a,b,c,d,e,f,.slice ha xs.length hcp] 28:=bk0 hW
       clear hW
       obtain ⟨cg0,cg1,cg2,cg3,cg4,cg5,cg6⟩:=kg.c7
       go_wp2_with fail
       refine (hval.out _ (Hsl.out.below hB)).mono ?_
       rintro _ w1 ⟨rfl,hb1⟩
       replace hB:=hB.trans (hb1.mono hB.size)
       replace kg:=kg.later hb1
       replace hSz:=Nat.le_trans hSz hb1.size
       clear hb1
       clear cg0 cg1 cg2 cg3 cg4 cg5 cg6
       go_wp2_with fail
       go_ret
       exact ⟨by rw [Hr.out];rfl,hB⟩
     | true =>
       have hcon2:=Bx.mk (hcon rfl)
       clear hcon
       cases em with
       | true =>
         have Hr:=Bx.mk (show r=0 by simpa using hfe)
         clear hfe hcv hlo hhi
         go_enter Tryz.func43,Tryz.ntmps43
         go_wp2_with fail
         generalize hW:World.alloc w _=W
         have hSz:=sz1 hW
         have hB:=bl1 hW
         have kg:Bk W (w.heap.size) #[a,b,c,d,e,f,.slice ha xs.length hcp] 28:=bk0 hW
         clear hW
         obtain ⟨cg0,cg1,cg2,cg3,cg4,cg5,cg6⟩:=kg.c7
         go_wp2_with fail
         refine (hval.out _ (Hsl.out.below hB)).mono ?_
         rintro _ w1 ⟨rfl,hb1⟩
         replace hB:=hB.trans (hb1.mono hB.size)
         replace kg:=kg.later hb1
         replace hSz:=Nat.le_trans hSz hb1.size
         clear hb1
         clear cg0 cg1 cg2 cg3 cg4 cg5 cg6
         obtain ⟨cg0,cg1,cg2,cg3,cg4,cg5,cg6⟩:=kg.c7
         go_wp2_with fail
         refine (hemp.out _).mono ?_
         rintro _ w2 ⟨rfl,hb2⟩
         replace hB:=hB.trans (hb2.mono hB.size)
         replace kg:=kg.later hb2
         replace hSz:=Nat.le_trans hSz hb2.size
         clear hb2
         clear cg0 cg1 cg2 cg3 cg4 cg5 cg6
         go_wp2_with fail
         obtain ⟨cg0,cg1,cg2,cg3,cg4,cg5,cg6⟩:=kg.r7
         have q0:=Bx.mk fun dk osk=>Calls.regrown_of (hcub.out (grow (redrawn w2 dk) osk))
         have q1:=Bx.mk fun dk osk=>Calls.regrown_of (hcon2.out (grow (redrawn w2 dk) osk))
         refine wp_region_quiet_below (by kernel_rfl) (by kernel_rfl) ?_
         repeat (first | go_big_quiet_step ((first | with_reducible exact q0.out _ _ | with_reducible exact q1.out _ _)) | quiet_step (first | with_reducible exact q0.out _ _ | with_reducible exact q1.out _ _))
         refine wpQuiet_nil ?_
         rintro _ ⟨⟨dq,osq⟩,rfl⟩
         have hb:=below_regrown w2 dq osq
         clear cg0 cg1 cg2 cg3 cg4 cg5 cg6
         clear q0
         clear q1
         replace hB:=hB.trans (hb.mono hB.size)
         replace kg:=kg.later hb
         replace hSz:=Nat.le_trans hSz hb.size
         clear hb
         generalize grow (redrawn w2 dq) osq=w3 at *
         go_wp2_with fail
         go_ret
         exact ⟨by rw [Hr.out];rfl,hB⟩
       | false =>
         obtain rfl:cb=vb:=hcv rfl
         have Hr:=Bx.mk (show r=if cb=true then 0 else 1 by simpa using hfe)
         clear hfe hcv hlo hhi
         go_enter Tryz.func43,Tryz.ntmps43
         go_wp2_with fail
         generalize hW:World.alloc w _=W
         have hSz:=sz1 hW
         have hB:=bl1 hW
         have kg:Bk W (w.heap.size) #[a,b,c,d,e,f,.slice ha xs.length hcp] 28:=bk0 hW
         clear hW
         obtain ⟨cg0,cg1,cg2,cg3,cg4,cg5,cg6⟩:=kg.c7
         go_wp2_with fail
         refine (hval.out _ (Hsl.out.below hB)).mono ?_
         rintro _ w1 ⟨rfl,hb1⟩
         replace hB:=hB.trans (hb1.mono hB.size)
         replace kg:=kg.later hb1
         replace hSz:=Nat.le_trans hSz hb1.size
         clear hb1
         clear cg0 cg1 cg2 cg3 cg4 cg5 cg6
         obtain ⟨cg0,cg1,cg2,cg3,cg4,cg5,cg6⟩:=kg.c7
         go_wp2_with fail
         refine (hemp.out _).mono ?_
         rintro _ w2 ⟨rfl,hb2⟩
         replace hB:=hB.trans (hb2.mono hB.size)
         replace kg:=kg.later hb2
         replace hSz:=Nat.le_trans hSz hb2.size
         clear hb2
         clear cg0 cg1 cg2 cg3 cg4 cg5 cg6
         go_wp2_with fail
         obtain ⟨cg0,cg1,cg2,cg3,cg4,cg5,cg6⟩:=kg.r7
         have q0:=Bx.mk fun dk osk=>Calls.regrown_of (hcub.out (grow (redrawn w2 dk) osk))
         have q1:=Bx.mk fun dk osk=>Calls.regrown_of (hcon2.out (grow (redrawn w2 dk) osk))
         refine wp_region_quiet_below (by kernel_rfl) (by kernel_rfl) ?_
         repeat (first | go_big_quiet_step ((first | with_reducible exact q0.out _ _ | with_reducible exact q1.out _ _)) | quiet_step (first | with_reducible exact q0.out _ _ | with_reducible exact q1.out _ _))
         refine wpQuiet_nil ?_
         rintro _ ⟨⟨dq,osq⟩,rfl⟩
         have hb:=below_regrown w2 dq osq
         clear cg0 cg1 cg2 cg3 cg4 cg5 cg6
         clear q0
         clear q1
         replace hB:=hB.trans (hb.mono hB.size)
         replace kg:=kg.later hb
         replace hSz:=Nat.le_trans hSz hb.size
         clear hb
         generalize grow (redrawn w2 dq) osq=w3 at *
         cases cb with
         | true =>
           go_wp2_with fail
           go_ret
           exact ⟨by rw [Hr.out];rfl,hB⟩
         | false =>
           go_wp2_with fail
           go_ret
           exact ⟨by rw [Hr.out];rfl,hB⟩
set_option maxRecDepth 100000 in
theorem ref9_from_yes (a b c d e f:Int) (ha:Option Addr) (hcp:Nat) (xs:List Int) (hl:xs.length≤300) (n:Nat) (hn:n≤12) (HX:GoodG ⟨⟨a,b,c⟩,⟨d,e,f⟩⟩ xs hcp) (hE:fromE ⟨⟨a,b,c⟩,⟨d,e,f⟩⟩ xs ((n:Int)+2)=0) (w:World) (hsl:Sl w .i64 ha xs) :
 Calls Tryz.prog 34 #[.agg #[a,b,c,d,e,f,.slice ha xs.length hcp],.int .i64 ((n:Int)+2)] w fun e' w'=>e' = .returned (.tuple #[.string (strOfNums (Tr.enc (trF n (cellG ⟨⟨a,b,c⟩,⟨d,e,f⟩⟩ xs)))),(0:Int)])∧Below w.heap.size w w':=by
 have hch:=Bx.mk fun W (h:Sl W .i64 ha xs)=>ref9_check a b c d e f ha hcp xs hl ((n:Int)+2) W h
 rw [hE] at hch
 have hp:=pow_le (show n+2≤14 by omega)
 have htr:=Bx.mk fun W (h:Sl W .i64 ha xs)=>tree_any a b c d e f ha hcp xs HX n hn 0 0 0 (al_zero n) (by omega) (by omega) (by omega) W h
 have Hsl:=Bx.mk hsl
 clear hsl hE HX hp
 unfold trF
 generalize strOfNums (Tr.enc (Tr.can (cellG ⟨⟨a,b,c⟩,⟨d,e,f⟩⟩ xs) n ⟨0,0,0⟩))=S at *
 go_enter Tryz.func34,Tryz.ntmps34
 go_wp2_with fail
 generalize hW:World.alloc w _=W
 have hSz:=sz1 hW
 have hB:=bl1 hW
 have kg:Bk W (w.heap.size) #[a,b,c,d,e,f,.slice ha xs.length hcp] 28:=bk0 hW
 clear hW
 obtain ⟨cg0,cg1,cg2,cg3,cg4,cg5,cg6⟩:=kg.c7
 go_wp2_with fail
 refine (hch.out _ (Hsl.out.below hB)).mono ?_
 rintro _ w1 ⟨rfl,hb1⟩
 replace hB:=hB.trans (hb1.mono hB.size)
 replace kg:=kg.later hb1
 replace hSz:=Nat.le_trans hSz hb1.size
 clear hb1
 clear cg0 cg1 cg2 cg3 cg4 cg5 cg6
 obtain ⟨cg0,cg1,cg2,cg3,cg4,cg5,cg6⟩:=kg.c7
 go_wp2_with fail
 refine (htr.out _ (Hsl.out.below hB)).mono ?_
 rintro _ w2 ⟨rfl,hb2⟩
 clear cg0 cg1 cg2 cg3 cg4 cg5 cg6
 replace hB:=hB.trans (hb2.mono hB.size)
 replace kg:=kg.later hb2
 replace hSz:=Nat.le_trans hSz hb2.size
 clear hb2
 go_wp2_with fail
 go_ret2
 exact ⟨rfl,hB⟩
end Go.Proofs.YtfcbajmjaifjlaaGreat
end
