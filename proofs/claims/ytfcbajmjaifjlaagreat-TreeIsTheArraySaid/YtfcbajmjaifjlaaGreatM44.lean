/- It1, It3, Opn: joined by program, for one claim. -/
import Derived.Test.YtfcbajmjaifjlaaGreatM43
import Derived.Test.YtfcbajmjaifjlaaGreatM42
import Derived.Test.YtfcbajmjaifjlaaGreatM40
import Derived.Test.YtfcbajmjaifjlaaGreatM16
import Derived.Test.YtfcbajmjaifjlaaGreatM41
import Derived.Deep.MidRow
import Derived.Deep.WholeRow
import Derived.Test.YtfcbajmjaifjlaaGreatM20
import Derived.ProofKit
import Derived.OpenShut
import Derived.ChangeArms
import Derived.ChangeSlices
import Derived.WideShapes
import Derived.Deep.Strs
set_option linter.unusedVariables false
set_option linter.unusedSimpArgs false
namespace Go.Proofs.YtfcbajmjaifjlaaGreat
section
open Go.RowKit Go.Sort Go.Maps
open Oct
theorem q_pow {n:Nat} (hn:n≤2):4≤(2:Int) ^ (n+2)∧(2:Int) ^ (n+2)≤16:=by
 match n,hn with
 | 0,_=>decide
 | 1,_=>decide
 | 2,_=>decide
set_option maxRecDepth 100000 in
set_option maxHeartbeats 8000000 in
theorem ita_on (a b c d e f:Int) (ha la:Option Addr) (hcp lc:Nat) (xs:List Int) (L:List Stp) (w:World) (hl:xs.length≤300) (hL:L.length≤8) (hsl:Sl w .i64 ha xs) (hse:SlS w la L) (n:Nat) (hn:n≤2) (HX:GoodG ⟨⟨a,b,c⟩,⟨d,e,f⟩⟩ xs hcp) (hE:fromE ⟨⟨a,b,c⟩,⟨d,e,f⟩⟩ xs ((n:Int)+2)=0) (hV:validG ⟨⟨a,b,c⟩,⟨d,e,f⟩⟩ xs=true) (hC:emptyB ⟨⟨a,b,c⟩,⟨d,e,f⟩⟩=true∨containsB ⟨⟨0,0,0⟩,⟨2 ^ (n+2),2 ^ (n+2),2 ^ (n+2)⟩⟩ ⟨⟨a,b,c⟩,⟨d,e,f⟩⟩=true) (hfew:L.all (fewS n)=true) :
 Calls Tryz.prog 5 #[.agg #[a,b,c,d,e,f,.slice ha xs.length hcp],.int .i64 ((n:Int)+2),.slice la L.length lc] w fun e' w'=>e' = .returned (.bool true)∧Below w.heap.size w w':=by
 obtain ⟨V,hQ⟩:=q_ok hn
 have hn12:n≤12:=by omega
 have Hse:=Bx.mk hse
 have Hfw:=Bx.mk fun W h1 h2=>few10_yes a b c d e f ha hcp xs hl n hn12 hE la lc L hL W h1 h2
 rw [hfew] at Hfw
 have Hbu:=Bx.mk fun W h1=>built10_yes 1000000 a b c d e f ha hcp xs hl n hn12 HX hE hV hC (.inr (by have:=addn_few HX hn12;omega)) W h1
 have Hcr:=Bx.mk fun W h=>ref_crop_own 0 0 0 (2 ^ (n+2)) (2 ^ (n+2)) (2 ^ (n+2)) a b c d e f V ha hcp xs hQ.ok hQ.emp hQ.vol hQ.le HX W h
 have Hcu:=Bx.mk fun W=>cube4_any (2 ^ (n+2)) W
 have Hln:=Bx.mk (addn_few HX hn12)
 have Hfn:=Bx.mk (grid_fn HX hC)
 have Hsl:=Bx.mk hsl
 have Hn:=Bx.mk hn
 have HQ:=Bx.mk hQ
 have Hall:=Bx.mk hfew
 have t1:decide ((4:Int)<(n:Int)+2)=false:=by simp;omega
 have hp1:(0:Int)≤(n:Int)+2:=by omega
 have hp2:(1:Int) * 2 ^ ((n:Int)+2).toNat=2 ^ (n+2):=by
  rw [show ((n:Int)+2).toNat=n+2 by omega,Int.one_mul]
 have hp4:=q_pow hn
 have hp3:IntKind.i64.wrap (2 ^ (n+2))=2 ^ (n+2):=IntWalk.i64_in _ (by omega)
 clear hp4
 clear hsl HX hV hC hE hn hn12 hse hfew hQ
 have hp5:IntKind.i64.wrap (2 ^ min ((n:Int)+2).toNat 64)=2 ^ (n+2):=by
  rw [show min ((n:Int)+2).toNat 64=n+2 by have:=Hn.out;omega]
  exact hp3
 have HP5:=Bx.mk hp5
 clear hp5
 generalize cellG ⟨⟨a,b,c⟩,⟨d,e,f⟩⟩ xs=F0 at *
 generalize hm:(2:Int) ^ (n+2)=m at *
 have HME:=Bx.mk hm
 clear hm
 go_enter Tryz.func5,Tryz.ntmps5
 go_upto_region 1 with fail
 generalize hW:World.alloc w _=W
 have hB:=bl1 hW
 have kg:Bk W w.heap.size #[a,b,c,d,e,f,.slice ha xs.length hcp] 28:=bk0 hW
 clear hW
 obtain ⟨c0,c1,c2,c3,c4,c5,c6⟩:=kg.c7
 go_wp2_with fail
 refine (Hfw.out _ (Hsl.out.below hB) (Hse.out.below hB)).mono ?_
 rintro _ w2 ⟨rfl,hb2⟩
 replace hB:=hB.trans (hb2.mono hB.size)
 replace kg:=kg.later hb2
 clear hb2 c0 c1 c2 c3 c4 c5 c6 Hfw
 obtain ⟨c0,c1,c2,c3,c4,c5,c6⟩:=kg.c7
 go_wp2_with fail
 refine (Hbu.out _ (Hsl.out.below hB)).mono ?_
 rintro _ w5 ⟨sb,rfl,hS,hb5⟩
 have HB2:=Bx.mk hB
 have HB:=Bx.mk (hB.trans (hb5.mono hB.size))
 have KG:=Bx.mk (kg.later hb5)
 have HST:=Bx.mk hS
 have HB5:=Bx.mk hb5
 clear hb5 hS kg hB c0 c1 c2 c3 c4 c5 c6 Hbu
 obtain ⟨c0,c1,c2,c3,c4,c5,c6⟩:=KG.out.c7
 go_upto_region 6 with fail
 refine wp_region_relL 9 7 [7,10] [_,_] _ (fun i v w'=>match i with
  | 0=>v = .agg #[a,b,c,d,e,f,.slice ha xs.length hcp]
  | 1=>v = .int .i64 ((n:Int)+2)
  | 2=>v = .int .i64 m
  | 3=>v = .agg #[(0:Int),(0:Int),(0:Int),m,m,m]
  | 4=>CropT w5.heap.size m V F0 v w'
  | 5=>CropT w5.heap.size m V F0 v w'
  | 6=>CropG w5.heap.size m V F0 v w'
  | 7=>v = .int .i64 0
  | _ => ∃ g,v = .pointer (some ⟨g,0,none⟩)∧w5.heap.size≤g∧Bk w' g #[(0:Int),(0:Int),(0:Int),(0:Int),(0:Int),(0:Int),.slice none 0 0] 28) (by kernel_rfl) (by kernel_rfl) rfl rfl 108 (by kernel_rfl) (by rfl) ?_ ?_ ?_
 · intro i hi v u1 u2 hb h
   match i,hi with
   | 0,_=>exact h
   | 1,_=>exact h
   | 2,_=>exact h
   | 3,_=>exact h
   | 4,_=>exact h.firm hb
   | 5,_=>exact h.firm hb
   | 6,_=>exact h.firm hb
   | 7,_=>exact h
   | 8,_=>obtain ⟨g2,h1,h2,h3⟩:=h;exact ⟨g2,h1,h2,h3.later hb⟩
 · intro i o hi ho ρ w1 hb hc1 hc2 hc3 hk
   match i,hi with
   | 0, _ =>
     obtain rfl:=Option.some.inj ho
     have g0:ρ (.tmp 3) = .pointer (some ⟨w.heap.size,0,none⟩):=hk 3 (by simp [Op.operands,Call.operands])
     have k1:=KG.out.later hb
     obtain ⟨z0,z1,z2,z3,z4,z5,z6⟩:=k1.c7
     clear hk hb Hcr Hcu Hse Hall HST HB5 HQ Hln Hfn Hsl KG HB HB2
     go_simp
     exact Below.refl _ _
   | 1, _ =>
     obtain rfl:=Option.some.inj ho
     have g0:ρ (.tmp 1) = .int .i64 ((n:Int)+2):=hk 1 (by simp [Op.operands,Call.operands])
     clear hk hb Hcr Hcu Hse Hall HST HB5 HQ Hln Hfn Hsl KG HB HB2
     go_simp
     exact Below.refl _ _
   | 2, _ =>
     obtain rfl:=Option.some.inj ho
     have g0:ρ (.tmp 41) = .int .i64 ((n:Int)+2):=hk 41 (by simp [Op.operands,Call.operands])
     clear hk hb Hcr Hcu Hse Hall HST HB5 HQ Hln Hfn Hsl KG HB HB2
     go_simp
     first | exact Below.refl _ _ | exact ⟨by rw [HP5.out],Below.refl _ _⟩ | exact ⟨Below.refl _ _,by rw [HP5.out]⟩ | exact ⟨HP5.out,Below.refl _ _⟩
   | 3, _ =>
     obtain rfl:=Option.some.inj ho
     have g0:ρ (.tmp 42) = .int .i64 m:=hk 42 (by simp [Op.operands,Call.operands])
     have h4:=Hcu.out w1
     have H4:=Bx.mk h4
     clear h4
     clear hk hb Hcr Hcu Hse Hall HST HB5 HQ Hln Hfn Hsl KG HB HB2
     go_simp
     all_goals exact H4.out
   | 4, _ =>
     obtain rfl:=Option.some.inj ho
     have g0:ρ (.tmp 40) = .agg #[a,b,c,d,e,f,.slice ha xs.length hcp]:=hk 40 (by simp [Op.operands,Call.operands])
     have g1:ρ (.tmp 43) = .agg #[(0:Int),(0:Int),(0:Int),m,m,m]:=hk 43 (by simp [Op.operands,Call.operands])
     have h4:=Hcr.out w1 (Hsl.out.below (HB.out.trans (hb.mono HB.out.size)))
     have H4:=Bx.mk h4
     clear h4
     have hb3s:=hb.size
     clear hk hb Hcr Hcu Hse Hall HST HB5 HQ Hln Hfn Hsl KG HB HB2
     go_simp
     all_goals (refine H4.out.mono ?_;rintro e w9 ⟨g9,cap9,rfl,ho,hb9⟩;exact ⟨_,rfl,hb9,g9,cap9,rfl,ho.base hb3s⟩)
   | 5, _ =>
     obtain rfl:=Option.some.inj ho
     have k5:CropT w5.heap.size m V F0 (ρ (.tmp 44)) w1:=hk 44 (by simp [Op.operands,Call.operands])
     have K5:=Bx.mk k5
     clear k5
     clear hk hb Hcr Hcu Hse Hall HST HB5 HQ Hln Hfn Hsl KG HB HB2
     go_simp
     exact ⟨Below.refl _ _,K5.out⟩
   | 6, _ =>
     obtain rfl:=Option.some.inj ho
     have k5:CropT w5.heap.size m V F0 (ρ (.tmp 39)) w1:=hk 39 (by simp [Op.operands,Call.operands])
     obtain ⟨g9,cap9,g39,ho⟩:=k5
     have HO:=Bx.mk ho
     clear ho
     clear hk hb Hcr Hcu Hse Hall HST HB5 HQ Hln Hfn Hsl KG HB HB2
     go_simp
     exact ⟨Below.refl _ _,g9,cap9,rfl,HO.out⟩
   | 7, _ =>
     obtain rfl:=Option.some.inj ho
     have k5:CropT w5.heap.size m V F0 (ρ (.tmp 39)) w1:=hk 39 (by simp [Op.operands,Call.operands])
     obtain ⟨g9,cap9,g39,-⟩:=k5
     clear hk hb Hcr Hcu Hse Hall HST HB5 HQ Hln Hfn Hsl KG HB HB2
     go_simp
     exact Below.refl _ _
   | 8, _ =>
     obtain rfl:=Option.some.inj ho
     have hbs:=hb.size
     have Hn:=Bx.mk (show Bk (w1.alloc (.cells #[(0:Int),(0:Int),(0:Int),(0:Int),(0:Int),(0:Int),.slice none 0 0] 28)) w1.heap.size #[(0:Int),(0:Int),(0:Int),(0:Int),(0:Int),(0:Int),.slice none 0 0] 28 from Bk.new _ _ _)
     clear hk hb Hcr Hcu Hse Hall HST HB5 HQ Hln Hfn Hsl KG HB HB2
     go_simp
     exact ⟨(Below.refl _ _).alloc (Nat.le_refl _) _,Hn.out⟩
 · intro vs W1 hlen hb hR
   match vs,hlen with
   | [v0, v1, v2, v3, v4, v5, v6, v7, v8], _ =>
     obtain rfl:v0=_:=hR 0 v0 (by decide) rfl
     obtain rfl:v1=_:=hR 1 v1 (by decide) rfl
     obtain rfl:v2=_:=hR 2 v2 (by decide) rfl
     obtain rfl:v3=_:=hR 3 v3 (by decide) rfl
     obtain ⟨g4,cap4,rfl,-⟩:=hR 4 v4 (by decide) rfl
     obtain ⟨g5,cap5,rfl,-⟩:=hR 5 v5 (by decide) rfl
     obtain ⟨g,cap,rfl,ho⟩:=hR 6 v6 (by decide) rfl
     obtain ⟨go,rfl,hg1,kg⟩:=hR 8 v8 (by decide) rfl
     clear hR
     have HI:=Bx.mk (ItI.start HST.out HB2.out HB5.out hb (addn_good (by have:=Hn.out;omega) Hfn.out good_nil) (addn_mem n F0 []) Hfn.out (q_len (HME.out ▸ HQ.out) F0) ho hg1 kg)
     obtain ⟨k0,k1,k2,k3,k4,k5,k6⟩:=kg.c7
     obtain ⟨f0,f1,f2,f3,f4,f5,f6⟩:=kg.f7
     clear hb ho hg1 kg HST HB2 HB5 HB KG Hcr Hcu Hsl c0 c1 c2 c3 c4 c5 c6 hp1 hp2 hp3 HP5
     have hle:=Hln.out
     clear Hln Hfn
     generalize addn n F0 []=ts0 at *
     refine ⟨fun h7=>?_,?_⟩
     obtain rfl:v7=_:=h7 v7 rfl
     clear h7
     all_goals
      simp only [puts,List.take_succ_cons,List.take_zero,List.drop_succ_cons,List.drop_zero,List.map_cons,List.map_nil,List.zip_cons_cons,List.zip_nil_right,List.foldl_cons,List.foldl_nil]
      go_upto_region 7 with fail
      generalize hW2:World.setCell (World.setCell (World.setCell (World.setCell (World.setCell (World.setCell (World.setCell W1 _ _) _ _) _ _) _ _) _ _) _ _) _ _=W2 at *
      clear hW2 k0 k1 k2 k3 k4 k5 k6 f0 f1 f2 f3 f4 f5 f6
      go_wp2_with fail
      go_loopw [8,49] (fun v8 v49 wr => ∃ (i:Nat) (Fr:Nat→Prop) (F:Pt→Int) (ts:List Tr) (g cap:Nat),i≤L.length∧v8 = .int .i64 (idn ts n F)∧v49 = .int .i64 i∧Bx (ItI w Fr sb n V m F F ts go g cap wr∧ts.length≤3901+52000 * i)) (fun _ i _=>L.length - (intOf i).toNat)
      case atStart=>exact ⟨0,_,_,_,_,_,Nat.zero_le _,rfl,rfl,⟨HI.out,hle⟩⟩
      case round =>
       clear HI
       obtain ⟨i,Fr,F,ts,g,cap,hi,rfl,rfl,HI⟩:=hrel
       by_cases hlt:i<L.length
       · have t0:decide ((i:Int)<(L.length:Int))=true:=by simp;omega
         obtain ⟨s,hs⟩ : ∃ s,L[i]? = some s:=⟨_,List.getElem?_eq_getElem hlt⟩
         obtain ⟨bA,oA,rfl,hcell,hok⟩:=Hse.out i s hs
         have hfs:fewS n s=true:=List.all_eq_true.1 Hall.out s (List.mem_of_getElem? hs)
         have hfx:s.ys ≠ [] → ∀ b,s.ga.map (·.block)=some b→Fr b:=fun hy b hb=>by
          obtain ⟨x,r,hxr⟩:=List.exists_cons_of_ne_nil hy
          obtain ⟨b',off,h1,h2⟩:=hok.ys 0 x (by rw [hxr];rfl)
          rw [h1] at hb
          simp only [Option.map_some,Option.some.injEq] at hb
          rw [←hb];exact HI.out.1.old _ (World.block_lt_of_cell? w _ h2)
         have b1:(0:Int)≤(i:Int):=by omega
         have b2:(i:Int)<(L.length:Int):=by omega
         obtain ⟨AL,hA⟩ : ∃ AL,AL=s.arr.toList:=⟨_,rfl⟩
         have hAs:AL.length=24:=by rw [hA];rfl
         have hA1:Bx (AL.toArray.all (·.oneCell')=true):=⟨by rw [hA];simp [Value.oneCell']⟩
         have hi24:Bx ((Tryz.prog.info? 41).map (·.size)=some AL.length):=⟨by rw [hAs];kernel_rfl⟩
         have hi25:Bx ((Tryz.prog.info? 41).map (·.size)=some AL.toArray.size):=⟨by rw [List.size_toArray,hAs];kernel_rfl⟩
         have HR:Bx (wr.rangeAt bA (oA+i * 24) AL):=⟨fun j v hj=>cell_later HI.out.1.bel (hcell j v (by rw [hA] at hj;simpa using hj))⟩
         have hAr:s.arr=AL.toArray:=by rw [hA]
         have HA24:=Bx.mk hAs
         have HAr:=Bx.mk hAr
         have hlen4:ts.length≤500000:=by have:=HI.out.2;omega
         have Hpl:=Bx.mk fun (W':World) (hb:Below w.heap.size w W') (Fr2:Nat→Prop) (h2 : ∀ k,Fr k→Fr2 k) hFar hSt=>play_any (by have:=Hn.out;omega) F HI.out.1.fn s hfs sb 1000000 ts HI.out.1.good (by omega) HI.out.1.mem (fun F' h=>Nat.le_trans ((step_both (by have:=Hn.out;omega) HI.out.1.fn hfs h).2 ts HI.out.1.good HI.out.1.mem) (by omega)) W' (hok.below hb) Fr2 (fun hy b hb'=>h2 _ (hfx hy b hb')) hFar hSt
         rw [hAr] at Hpl
         have HFS:=Bx.mk hfs
         have HOK:=Bx.mk hok
         clear hA hAs hcell hok hfx hAr hs hfs
         go_upto_region 10 with (first
          | (refine wpList_load_mid rfl _ _ rfl bA (oA+i * 24) rfl AL _ HR.out Tryz.underlying41 rfl hi24.out ?_)
          | (refine wpList_store_whole rfl _ _ _ rfl wr.heap.size rfl _ AL.toArray rfl 41 (heap_alloc_new _ _) hi25.out (by rw [show AL.toArray.size=24 by simp [HA24.out]];rfl) hA1.out ?_))
         generalize hW:World.setRow (World.alloc wr _) _ _=W1
         have hB1:Below wr.heap.size wr W1:=by rw [←hW];exact below_setRow ((Below.refl _ _).alloc (Nat.le_refl _) _) (Nat.le_refl _) _
         have KS:=Bx.mk (show Bk W1 wr.heap.size AL.toArray 41 by rw [←hW];exact setRow_heap _ _ _ _ _ (0,0) (heap_alloc_new _ _))
         have HM:=Bx.mk (HI.out.1.wide hB1 wr.heap.size (Nat.le_refl _) KS.out.lt)
         have HLN:=Bx.mk HI.out.2
         have HLT:=Bx.mk HI.out.1
         clear hW hA1 HR HA24 hi24 hB1 HI
         have q0:=(show Bk W1 wr.heap.size s.arr 41 from by rw [HAr.out];exact KS.out).cell 0 rfl
         by_cases hk:s.kd=1∨s.kd=2∨s.kd=3
         rotate_left
         · by_cases h1:s.kd<1
           · have tk:decide (s.kd<1)=true:=by simp;omega
             have hl5:ts.length≤3901+52000 * (i+1):=Nat.le_trans HLN.out (Nat.add_le_add_left (Nat.mul_le_mul_left _ (Nat.le_succ i)) _)
             have HJ:=Bx.mk (And.intro HM.out hl5)
             clear hk h1 hl5 Hpl HLT
             go_wp2_with fail
             go_roundw
             case rel=>exact ⟨i+1,_,F,ts,g,cap,by omega,rfl,by go_num,HJ⟩
             case measure=>simp [intOf];omega
           · have tk:decide (s.kd<1)=false:=by simp;omega
             have tk2:decide (3<s.kd)=true:=by simp;omega
             have hl5:ts.length≤3901+52000 * (i+1):=Nat.le_trans HLN.out (Nat.add_le_add_left (Nat.mul_le_mul_left _ (Nat.le_succ i)) _)
             have HJ:=Bx.mk (And.intro HM.out hl5)
             clear hk h1 hl5 Hpl HLT
             go_wp2_with fail
             go_roundw
             case rel=>exact ⟨i+1,_,F,ts,g,cap,by omega,rfl,by go_num,HJ⟩
             case measure=>simp [intOf];omega
         have tk:decide (s.kd<1)=false:=by simp;omega
         have tk2:decide (3<s.kd)=false:=by simp;omega
         have HP:=Bx.mk (Hpl.out W1 HM.out.bel (fun k=>Fr k∨k=wr.heap.size) (fun k h=>.inl h) HM.out.far HM.out.st)
         clear Hpl
         go_wp2_with (refine wpList_load_whole rfl _ _ rfl wr.heap.size rfl _ _ KS.out _ Tryz.underlying41 rfl hi25.out ?_)
         refine HP.out.mono ?_
         intro e2 W2 hpr
         cases hst:stepF n F s with
         | none =>
           obtain ⟨rfl,hb2⟩:=hpr.no hst
           have hl5:ts.length≤3901+52000 * (i+1):=Nat.le_trans HLN.out (Nat.add_le_add_left (Nat.mul_le_mul_left _ (Nat.le_succ i)) _)
           have HJ:=Bx.mk (And.intro (HM.out.later hb2) hl5)
           clear hpr hb2 HM KS hst HP hl5 q0 HLT
           go_wp2_with fail
           go_roundw
           case rel=>exact ⟨i+1,_,F,ts,g,cap,by omega,rfl,by go_num,HJ⟩
           case measure=>simp [intOf];omega
         | some F' =>
           have hd:=hpr.yes F' hst
           have hn12:n≤12:=by have:=Hn.out;omega
           have hsb:=step_both hn12 HLT.out.fn HFS.out hst
           have hlen':=hsb.2 ts HLT.out.good HLT.out.mem
           obtain ⟨rfl,hS3⟩:e2=ret2 (idn (addn n F' ts) n F') 0∧StoreIs W2 (fun k=>Fr k∨k=wr.heap.size) sb 1000000 (addn n F' ts):=by
            rcases hd.way with ⟨_,h2,h3⟩ | ⟨hn',_⟩
            · exact ⟨h2,h3⟩
            · exact absurd (.inr (by omega)) hn'
           have HM2:=Bx.mk (HM.out.made hd.keeps hS3 (addn_good hn12 hsb.1 HLT.out.good) (addn_mem n F' ts) hsb.1)
           have ks2:Bk W2 wr.heap.size s.arr 41:=by rw [HAr.out];exact (hd.keeps.block _ (.inr rfl) KS.out.lt).trans KS.out
           have HOK2:=Bx.mk (HOK.out.below HM2.out.bel)
           have hl5:(addn n F' ts).length≤3901+52000 * (i+1):=by
            refine Nat.le_trans hlen' (Nat.le_trans (Nat.add_le_add_right HLN.out _) ?_)
            rw [Nat.mul_add,Nat.mul_one,Nat.add_assoc]
            exact Nat.le_refl _
           have hl6:(addn n F' ts).length≤4194304:=Nat.le_trans hlen' (Nat.le_trans (Nat.add_le_add_right hlen4 _) (by decide))
           have HL5:=Bx.mk hl5
           have HL6:=Bx.mk hl6
           have Hst:=Bx.mk hst
           clear hpr hd hsb hlen' hS3 HM KS HP hst hl5 hl6 q0 hn12
           generalize addn n F' ts=ts' at *
           obtain ⟨q0,q1,q2,q3,q4,q5,q6,q7,q8,q9,q10,q11⟩:=ks2.c12
           have q12:=ks2.cell 12 rfl
           have q13:=ks2.cell 13 rfl
           have q14:=ks2.cell 14 rfl
           have q15:=ks2.cell 15 rfl
           obtain ⟨co0,co1,co2,co3,co4,co5,co6⟩:=HM2.out.ko.c7
           rcases hk with hk | hk | hk
           · have e1:(s.kd == 1)=true:=by simp [hk]
             have Har:=Bx.mk (arr_fill HQ.out HME.out HM2.out hk Hst.out)
             clear hk
             go_wp2_with fail
             refine Har.out.mono ?_
             rintro _ w3 ⟨g',cap',rfl,ho,hb3⟩
             have HP3:=Bx.mk (HM2.out.put hb3 HQ.out.pos (q_len HQ.out F') ho)
             have kk:=HM2.out.ko.later hb3
             obtain ⟨x0,x1,x2,x3,x4,x5,x6⟩:=kk.c7
             obtain ⟨y0,y1,y2,y3,y4,y5,y6⟩:=kk.f7
             clear q0 q1 q2 q3 q4 q5 q6 q7 q8 q9 q10 q11 q12 q13 q14 q15 co0 co1 co2 co3 co4 co5 co6 kk ho hb3 Har HM2
             have Hfr:=Bx.mk (q_from' HME.out Hn.out HQ.out HP3.out.fn _ sb g' cap' HP3.out.cap HP3.out.sl _ HP3.out.gf 1000000 ts' HP3.out.good (by have:=HL6.out;omega) HP3.out.mem HP3.out.far HP3.out.st)
             have tne:(idn ts' n F' != idn ts' n F')=false:=by simp
             go_wp2_with fail
             refine Hfr.out.mono ?_
             rintro _ w5 ⟨rfl,hS5,hk5⟩
             have HJ:=Bx.mk (And.intro (HP3.out.made hk5 hS5 HP3.out.good HP3.out.mem HP3.out.fn) HL5.out)
             clear x0 y0 x1 y1 x2 y2 x3 y3 x4 y4 x5 y5 x6 y6 hS5 hk5 HP3 Hfr
             go_wp2_with fail
             go_roundw
             case rel=>exact ⟨i+1,_,F',ts',g',cap',by omega,rfl,by go_num,HJ⟩
             case measure=>simp [intOf];omega
           · have e1:(s.kd == 1)=false:=by simp [hk]
             have e2:(s.kd == 2)=true:=by simp [hk]
             have Har:=Bx.mk (arr_paste HQ.out HME.out HM2.out hk HFS.out HOK2.out Hst.out)
             clear hk
             go_wp2_with fail
             refine Har.out.mono ?_
             rintro _ w3 ⟨g',cap',rfl,ho,hb3⟩
             have HP3:=Bx.mk (HM2.out.put hb3 HQ.out.pos (q_len HQ.out F') ho)
             have kk:=HM2.out.ko.later hb3
             obtain ⟨x0,x1,x2,x3,x4,x5,x6⟩:=kk.c7
             obtain ⟨y0,y1,y2,y3,y4,y5,y6⟩:=kk.f7
             clear q0 q1 q2 q3 q4 q5 q6 q7 q8 q9 q10 q11 q12 q13 q14 q15 co0 co1 co2 co3 co4 co5 co6 kk ho hb3 Har HM2
             have Hfr:=Bx.mk (q_from' HME.out Hn.out HQ.out HP3.out.fn _ sb g' cap' HP3.out.cap HP3.out.sl _ HP3.out.gf 1000000 ts' HP3.out.good (by have:=HL6.out;omega) HP3.out.mem HP3.out.far HP3.out.st)
             have tne:(idn ts' n F' != idn ts' n F')=false:=by simp
             go_wp2_with fail
             refine Hfr.out.mono ?_
             rintro _ w5 ⟨rfl,hS5,hk5⟩
             have HJ:=Bx.mk (And.intro (HP3.out.made hk5 hS5 HP3.out.good HP3.out.mem HP3.out.fn) HL5.out)
             clear x0 y0 x1 y1 x2 y2 x3 y3 x4 y4 x5 y5 x6 y6 hS5 hk5 HP3 Hfr
             go_wp2_with fail
             go_roundw
             case rel=>exact ⟨i+1,_,F',ts',g',cap',by omega,rfl,by go_num,HJ⟩
             case measure=>simp [intOf];omega
           · have e1:(s.kd == 1)=false:=by simp [hk]
             have e2:(s.kd == 2)=false:=by simp [hk]
             have Har:=Bx.mk (arr_write HQ.out HME.out HM2.out hk HFS.out HOK2.out Hst.out)
             clear hk
             go_wp2_with fail
             refine Har.out.mono ?_
             rintro _ w3 ⟨g',cap',rfl,ho,hb3⟩
             have HP3:=Bx.mk (HM2.out.put hb3 HQ.out.pos (q_len HQ.out F') ho)
             have kk:=HM2.out.ko.later hb3
             obtain ⟨x0,x1,x2,x3,x4,x5,x6⟩:=kk.c7
             obtain ⟨y0,y1,y2,y3,y4,y5,y6⟩:=kk.f7
             clear q0 q1 q2 q3 q4 q5 q6 q7 q8 q9 q10 q11 q12 q13 q14 q15 co0 co1 co2 co3 co4 co5 co6 kk ho hb3 Har HM2
             have Hfr:=Bx.mk (q_from' HME.out Hn.out HQ.out HP3.out.fn _ sb g' cap' HP3.out.cap HP3.out.sl _ HP3.out.gf 1000000 ts' HP3.out.good (by have:=HL6.out;omega) HP3.out.mem HP3.out.far HP3.out.st)
             have tne:(idn ts' n F' != idn ts' n F')=false:=by simp
             go_wp2_with fail
             refine Hfr.out.mono ?_
             rintro _ w5 ⟨rfl,hS5,hk5⟩
             have HJ:=Bx.mk (And.intro (HP3.out.made hk5 hS5 HP3.out.good HP3.out.mem HP3.out.fn) HL5.out)
             clear x0 y0 x1 y1 x2 y2 x3 y3 x4 y4 x5 y5 x6 y6 hS5 hk5 HP3 Hfr
             go_wp2_with fail
             go_roundw
             case rel=>exact ⟨i+1,_,F',ts',g',cap',by omega,rfl,by go_num,HJ⟩
             case measure=>simp [intOf];omega
       · obtain rfl:i=L.length:=by omega
         have t0:decide ((L.length:Int)<(L.length:Int))=false:=by simp
         go_wp2_with fail
         refine (sanity10_true _).mono ?_
         rintro _ w9 ⟨rfl,hb9⟩
         have HB9:=Bx.mk (HI.out.1.bel.trans (hb9.mono HI.out.1.bel.size))
         clear hb9
         go_wp2_with fail
         go_ret
         exact ⟨rfl,HB9.out⟩
end
section
open Go.RowKit Go.Sort Go.Maps
open Oct
set_option maxRecDepth 100000 in
set_option maxHeartbeats 1000000 in
theorem ita_deep (a b c d e f dd:Int) (hdd:4<dd) (ha la:Option Addr) (xl hcp m lc:Nat) (w:World) :
 Calls Tryz.prog 5 #[.agg #[a,b,c,d,e,f,.slice ha xl hcp],dd,.slice la m lc] w fun e' w'=>e' = .returned (.bool true)∧Below w.heap.size w w':=by
 have t1:decide ((4:Int)<dd)=true:=by simp;omega
 clear hdd
 go_enter Tryz.func5,Tryz.ntmps5
 go_upto_region 1 with fail
 generalize hW:World.alloc w _=W
 have hB:=bl1 hW
 have HB:=Bx.mk hB
 clear hW hB
 go_wp2_with fail
 refine (sanity10_true _).mono ?_
 rintro _ w3 ⟨rfl,hb3⟩
 have HB3:=Bx.mk (HB.out.trans (hb3.mono HB.out.size))
 clear hb3 HB
 go_wp2_with fail
 go_ret
 exact ⟨rfl,HB3.out⟩
set_option maxRecDepth 100000 in
set_option maxHeartbeats 1000000 in
theorem ita_off (a b c d e f dd:Int) (hdd : ¬4<dd) (ha la:Option Addr) (xl hcp m lc:Nat) (w:World)
 (hf : ∀ W,Below w.heap.size w W→Calls Tryz.prog 9 #[.agg #[a,b,c,d,e,f,.slice ha xl hcp],dd,.slice la m lc] W fun e' w'=>e' = .returned (.bool false)∧Below W.heap.size W w') :
 Calls Tryz.prog 5 #[.agg #[a,b,c,d,e,f,.slice ha xl hcp],dd,.slice la m lc] w fun e' w'=>e' = .returned (.bool true)∧Below w.heap.size w w':=by
 have HF:=Bx.mk hf
 have t1:decide ((4:Int)<dd)=false:=by simp;omega
 clear hf hdd
 go_enter Tryz.func5,Tryz.ntmps5
 go_upto_region 1 with fail
 generalize hW:World.alloc w _=W
 have hB:=bl1 hW
 have kg:Bk W w.heap.size #[a,b,c,d,e,f,.slice ha xl hcp] 28:=bk0 hW
 clear hW
 obtain ⟨c0,c1,c2,c3,c4,c5,c6⟩:=kg.c7
 have HQ:=Bx.mk (HF.out W hB)
 have HB:=Bx.mk hB
 clear kg hB HF
 go_wp2_with fail
 refine HQ.out.mono ?_
 rintro _ w2 ⟨rfl,hb2⟩
 have HB2:=Bx.mk (HB.out.trans (hb2.mono HB.out.size))
 clear hb2 HB HQ c0 c1 c2 c3 c4 c5 c6
 go_wp2_with fail
 refine (sanity10_true _).mono ?_
 rintro _ w3 ⟨rfl,hb3⟩
 have HB3:=Bx.mk (HB2.out.trans (hb3.mono HB2.out.size))
 clear hb3 HB2
 go_wp2_with fail
 go_ret
 exact ⟨rfl,HB3.out⟩
theorem tree_array_true (a b c d e f dd:Int) (ha la:Option Addr) (hcp lc:Nat) (xs:List Int) (L:List Stp) (hcap:xs.length≤hcp) (w:World) (hsl:Sl w .i64 ha xs) (hse:SlS w la L) :
 Calls Tryz.prog 5 #[.agg #[a,b,c,d,e,f,.slice ha xs.length hcp],dd,.slice la L.length lc] w fun e' w'=>e' = .returned (.bool true)∧Below w.heap.size w w':=by
 by_cases hdd:4<dd
 · exact ita_deep a b c d e f dd hdd ha la _ hcp _ lc w
 by_cases hfw:xs.length≤300∧L.length≤8∧fromE ⟨⟨a,b,c⟩,⟨d,e,f⟩⟩ xs dd=0
 · obtain ⟨h1,h2,hE⟩:=hfw
   obtain ⟨n,hn,rfl,hV,hC⟩:=fromE_zero hE
   have HX:=goodG_of hV h1 hcap
   cases hall:L.all (fewS n) with
   | true=>exact ita_on a b c d e f ha la hcp lc xs L w h1 h2 hsl hse n (by omega) HX hE hV hC hall
   | false =>
     refine ita_off a b c d e f _ hdd ha la _ hcp _ lc w fun W hb=>?_
     have h:=few10_yes a b c d e f ha hcp xs h1 n hn hE la lc L h2 W (hsl.below hb) (hse.below hb)
     rw [hall] at h
     exact h
 · exact ita_off a b c d e f dd hdd ha la _ hcp _ lc w fun W hb=>few10_no a b c d e f dd ha hcp xs la L.length lc hfw W (hsl.below hb)
end
section
open Go.RowKit Go.ChangeShapes Go.WideShapes
open Oct
theorem cellsPt : Tryz.prog.cellsOf 23=3:=by kernel_rfl
theorem cellsBox : Tryz.prog.cellsOf 25=6:=by kernel_rfl
theorem cellsGrid : Tryz.prog.cellsOf 28=7:=by kernel_rfl
theorem cellsIntT : Tryz.prog.cellsOf 3=1:=by kernel_rfl
theorem cellsInts : Tryz.prog.cellsOf 26=1:=by kernel_rfl
theorem row_sl {k:IntKind} {w:World} {a:Option Addr} {len cap:Nat} {zs:List Int}
 (h:(a=none∧len=0∧cap=0∧zs=[]) ∨ ∃ x,a=some x∧len≤cap∧cap≤maxLen∧zs.length=cap∧(∀ i,i<zs.length→w.cell? (x.add i)=some (.int k (zs.getD i 0))) ∧ ∀ n∈zs,(Lit.int k n).wf=true) :
 ∃ xs:List Int,len=xs.length∧Sl w k a xs:=by
 rcases h with ⟨rfl,rfl,rfl,rfl⟩ | ⟨x,rfl,hl,hm,hz,hc,hw⟩
 · exact ⟨[],rfl,Sl.nil _ _ _⟩
 · refine ⟨zs.take len,by simp;omega,fun i y hy=>?_⟩
   rw [List.getElem?_take] at hy
   split at hy
   · rename_i hi
     have h1:=hc i (by omega)
     have h2:w.cell? (x.add i)=some (.int k y):=by rw [h1];simp [List.getD,hy]
     obtain ⟨b,off,spot⟩:=x
     have hspot:spot=none:=by
      have h0:=hc 0 (by omega)
      simpa [Addr.add] using World.cell?_spot h0
     subst hspot
     refine ⟨b,off,rfl,?_⟩
     have:(⟨b,off,none⟩:Addr).add i=⟨b,off+i,none⟩:=by unfold Addr.add;split <;> simp_all
     rwa [this] at h2
   · cases hy
section
variable {H:Type} {enc:TypeId × Value→H} {w:World} {base:Nat} {spare:Nat→Bool} {held:Bool} {fuel:Nat} {x:DataW H × List MemPlace}
theorem trod_int1 {v:Value} (h:DataW.trod enc Tryz.prog w base spare held fuel 3 [v]=some x) : ∃ n:Int,v = .int .i64 n∧(Lit.int .i64 n).wf=true:=by
 obtain ⟨n,h1,_,h2⟩:=DataW.trod_int Tryz.underlying3 h
 simp only [List.cons.injEq,and_true] at h1
 exact ⟨n,h1,h2⟩
theorem trod_pt {c0 c1 c2:Value} (h:DataW.trod enc Tryz.prog w base spare held fuel 23 [c0,c1,c2]=some x) :
 ∃ a b c:Int,c0 = .int .i64 a∧c1 = .int .i64 b∧c2 = .int .i64 c:=by
 obtain ⟨y0,y1,y2,n,_,_,h0,h1,h2⟩:=Go.Deep.trod_struct3 Tryz.underlying23 h
 have h0:DataW.trod enc Tryz.prog w base spare held n 3 [c0]=some y0:=by simpa [cellsIntT] using h0
 have h1:DataW.trod enc Tryz.prog w base spare held n 3 [c1]=some y1:=by simpa [cellsIntT] using h1
 have h2:DataW.trod enc Tryz.prog w base spare held n 3 [c2]=some y2:=by simpa [cellsIntT] using h2
 obtain ⟨a,e0,_⟩:=trod_int1 h0
 obtain ⟨b,e1,_⟩:=trod_int1 h1
 obtain ⟨c,e2,_⟩:=trod_int1 h2
 exact ⟨a,b,c,e0,e1,e2⟩
theorem trod_box {c0 c1 c2 c3 c4 c5:Value} (h:DataW.trod enc Tryz.prog w base spare held fuel 25 [c0,c1,c2,c3,c4,c5]=some x) :
 ∃ a b c d e f:Int,c0 = .int .i64 a∧c1 = .int .i64 b∧c2 = .int .i64 c∧c3 = .int .i64 d∧c4 = .int .i64 e∧c5 = .int .i64 f:=by
 obtain ⟨y0,y1,n,_,_,h0,h1⟩:=trod_struct2 Tryz.underlying25 h
 have h0:DataW.trod enc Tryz.prog w base spare held n 23 [c0,c1,c2]=some y0:=by simpa [cellsPt] using h0
 have h1:DataW.trod enc Tryz.prog w base spare held n 23 [c3,c4,c5]=some y1:=by simpa [cellsPt] using h1
 obtain ⟨a,b,c,e0,e1,e2⟩:=trod_pt h0
 obtain ⟨d,e,f,e3,e4,e5⟩:=trod_pt h1
 exact ⟨a,b,c,d,e,f,e0,e1,e2,e3,e4,e5⟩
theorem trod_ints {v:Value} (h:DataW.trod enc Tryz.prog w base (fun _=>true) held fuel 26 [v]=some x) :
 ∃ ha hcp,∃ xs:List Int,v = .slice ha xs.length hcp∧Sl w .i64 ha xs∧xs.length≤hcp:=by
 rcases open_ints Tryz.underlying26 Tryz.underlying3 cellsIntT h with ⟨h1,_⟩ | ⟨a,len,cap,zs,h1,_,hl,hm,hz,_,hc,hw⟩
 · simp only [List.cons.injEq,and_true] at h1
   exact ⟨none,0,[],h1,Sl.nil _ _ _,by simp⟩
 · simp only [List.cons.injEq,and_true] at h1
   simp only [if_true] at hz
   obtain ⟨xs,e,hs⟩:=row_sl (k:=.i64) (w:=w) (a:=some a) (len:=len) (cap:=cap) (zs:=zs) (Or.inr ⟨a,rfl,hl,hm,hz,hc,hw⟩)
   exact ⟨some a,cap,xs,by rw [h1,e],hs,by omega⟩
theorem list7 {α:Type} {l:List α} (h:l.length=7) : ∃ a b c d e f g,l=[a,b,c,d,e,f,g]:=by
 match l,h with
 | [a,b,c,d,e,f,g],_=>exact ⟨a,b,c,d,e,f,g,rfl⟩
set_option maxRecDepth 100000 in
theorem open_grid {r:Reach} {b0:Nat} {v:Value} {d:DataW H} {p:List MemPlace} (hv:Value.okWide Tryz.prog w r b0 28 v) (h:DataW.Trod enc Tryz.prog w base (fun _=>true) held 28 v d p) :
 ∃ (a b c d e f:Int) (ha:Option Addr) (hcp:Nat) (xs:List Int),v = .agg #[a,b,c,d,e,f,.slice ha xs.length hcp]∧Sl w .i64 ha xs∧xs.length≤hcp:=by
 obtain ⟨cs,rfl,hsz⟩:=okWide_struct Tryz.underlying28 hv
 obtain ⟨l⟩:=cs
 have hl:l.length=7:=by rw [cellsGrid] at hsz;exact hsz
 obtain ⟨c0,c1,c2,c3,c4,c5,c6,rfl⟩:=list7 hl
 obtain ⟨fuel,hf⟩:=h
 obtain ⟨y0,y1,n,_,_,h0,h1⟩:=trod_struct2 Tryz.underlying28 hf
 have h0:DataW.trod enc Tryz.prog w base (fun _=>true) held n 25 [c0,c1,c2,c3,c4,c5]=some y0:=by simpa [Value.cells,cellsBox] using h0
 have h1:DataW.trod enc Tryz.prog w base (fun _=>true) held n 26 [c6]=some y1:=by simpa [Value.cells,cellsInts] using h1
 obtain ⟨a,b,c,d,e,f,rfl,rfl,rfl,rfl,rfl,rfl⟩:=trod_box h0
 obtain ⟨ha,hcp,xs,rfl,hs,hc⟩:=trod_ints h1
 exact ⟨a,b,c,d,e,f,ha,hcp,xs,rfl,hs,hc⟩
end
end
end Go.Proofs.YtfcbajmjaifjlaaGreat
