/- Td2, Td3, Opn: joined by program, for one claim. -/
import Derived.Test.YtfcbajmjaifjlaaGreatMr
import Derived.Test.YtfcbajmjaifjlaaGreatM41
import Derived.Test.YtfcbajmjaifjlaaGreatM39
import Derived.Test.YtfcbajmjaifjlaaGreatM16
import Derived.Test.YtfcbajmjaifjlaaGreatM40
import Derived.Test.YtfcbajmjaifjlaaGreatM33
import Derived.Deep.MidRow
import Derived.Deep.WholeRow
import Derived.BigQuiet
import Derived.Test.YtfcbajmjaifjlaaGreatM17
import Derived.ProofKit
import Derived.OpenShut
import Derived.ChangeArms
import Derived.ChangeSlices
import Derived.WideShapes
import Derived.Deep.Strs
set_option linter.unusedVariables false
set_option linter.unusedSimpArgs false
namespace Go.Proofs.YtfcbajmjaifjlaaGreat
section
open Go.RowKit Go.Sort Go.Maps
open Oct
structure TdI (w:World) (Fr:Nat→Prop) (sb n:Nat) (F0 F:Pt→Int) (ts0 ts:List Tr) (p:Pt) (wr:World):Prop where
 mi:MatI w Fr sb 1000000 n F ts [] (.slice none 0 0) wr
 pre:ts0 <+: ts
 kp:Bk wr (w.heap.size+1) #[p.x,p.y,p.z] 23
 kf:Fr (w.heap.size+1)
theorem cnt_eq {p:Pt} {D:List (Pt × Nat)} {k:Nat} {x:Pt × Nat} {ib:Bool} (hc:cntP p (D.take (k+1))=cntP p (D.take k)+(if inD p x=true then 1 else 0)) (hb:inD p x=ib) (hle:cntP p (D.take (k+1))≤1) :
 (match ib with | true=>Value.int .i64 (wrap64 (((cntP p (D.take k):Nat):Int)+1)) | false=>Value.int .i64 ((cntP p (D.take k):Nat):Int))=Value.int .i64 ((cntP p (D.take (k+1)):Nat):Int):=by
 rw [hb] at hc
 cases ib with
 | false=>simp only [Bool.false_eq_true,if_false,Nat.add_zero] at hc;rw [hc]
 | true =>
   simp only [if_true] at hc
   have:wrap64 (((cntP p (D.take k):Nat):Int)+1)=((cntP p (D.take (k+1)):Nat):Int):=by
    rw [hc]
    simp only [wrap64,IntKind.wrap]
    omega
   simp only [this]
set_option maxRecDepth 100000 in
set_option maxHeartbeats 8000000 in
theorem td_on (a b c d e f:Int) (ha la:Option Addr) (hcp lc:Nat) (xs:List Int) (L:List Stp) (p:Pt) (w:World) (hl:xs.length≤300) (hL:L.length≤8) (hsl:Sl w .i64 ha xs) (hse:SlS w la L) (n:Nat) (hn:n≤12) (HX:GoodG ⟨⟨a,b,c⟩,⟨d,e,f⟩⟩ xs hcp) (hE:fromE ⟨⟨a,b,c⟩,⟨d,e,f⟩⟩ xs ((n:Int)+2)=0) (hV:validG ⟨⟨a,b,c⟩,⟨d,e,f⟩⟩ xs=true) (hC:emptyB ⟨⟨a,b,c⟩,⟨d,e,f⟩⟩=true∨containsB ⟨⟨0,0,0⟩,⟨2 ^ (n+2),2 ^ (n+2),2 ^ (n+2)⟩⟩ ⟨⟨a,b,c⟩,⟨d,e,f⟩⟩=true) (hfew:L.all (fewS n)=true) :
 Calls Tryz.prog 7 #[.agg #[a,b,c,d,e,f,.slice ha xs.length hcp],.int .i64 ((n:Int)+2),.slice la L.length lc,.agg #[p.x,p.y,p.z]] w fun e' w'=>e' = .returned (.bool true)∧Below w.heap.size w w':=by
 have Hse:=Bx.mk hse
 have Hfw:=Bx.mk fun W h1 h2=>few10_yes a b c d e f ha hcp xs hl n hn hE la lc L hL W h1 h2
 rw [hfew] at Hfw
 have Hbu:=Bx.mk fun W h1=>built10_yes 1000000 a b c d e f ha hcp xs hl n hn HX hE hV hC (.inr (by have:=addn_few HX hn;omega)) W h1
 have Hln:=Bx.mk (addn_few HX hn)
 have Hfn:=Bx.mk (grid_fn HX hC)
 have Hsl:=Bx.mk hsl
 have Hn:=Bx.mk hn
 have Hall:=Bx.mk hfew
 clear hsl HX hV hC hE hn hse hfew
 generalize cellG ⟨⟨a,b,c⟩,⟨d,e,f⟩⟩ xs=F0 at *
 go_enter Tryz.func7,Tryz.ntmps7
 go_upto_region 1 with fail
 generalize hW:World.alloc (World.alloc w _) _=W
 have HB:=Bx.mk (show Below w.heap.size w W by rw [←hW];exact ((Below.refl _ _).alloc (Nat.le_refl _) _).alloc (by simp) _)
 have KG:=Bx.mk (show Bk W w.heap.size #[a,b,c,d,e,f,.slice ha xs.length hcp] 28 by rw [←hW];exact blk_old (blk_new _ _ _ (by simp)))
 have KP:=Bx.mk (show Bk W (w.heap.size+1) #[p.x,p.y,p.z] 23 by rw [←hW];exact blk_new _ _ _ (by simp))
 clear hW
 obtain ⟨c0,c1,c2,c3,c4,c5,c6⟩:=KG.out.c7
 go_wp2_with fail
 refine (Hfw.out _ (Hsl.out.below HB.out) (Hse.out.below HB.out)).mono ?_
 rintro _ w2 ⟨rfl,hb2⟩
 replace HB:=Bx.mk (HB.out.trans (hb2.mono HB.out.size))
 replace KG:=Bx.mk (KG.out.later hb2)
 replace KP:=Bx.mk (KP.out.later hb2)
 clear hb2 c0 c1 c2 c3 c4 c5 c6 Hfw
 obtain ⟨c0,c1,c2,c3,c4,c5,c6⟩:=KG.out.c7
 go_wp2_with fail
 refine (Hbu.out _ (Hsl.out.below HB.out)).mono ?_
 rintro _ w5 ⟨sb,rfl,hS,hb5⟩
 have hi0:=addn_mem n F0 []
 have hg0:=addn_good Hn.out Hfn.out good_nil
 have HM0:=Bx.mk hi0
 have HI:Bx (TdI w (fun k=>k<w2.heap.size) sb n F0 F0 (addn n F0 []) (addn n F0 []) p w5):=⟨⟨⟨hS,fun j hj=>Nat.lt_of_lt_of_le hj hb5.size,fun j hj=>Nat.lt_of_lt_of_le hj HB.out.size,HB.out.trans (hb5.mono HB.out.size),hg0,hi0,Hfn.out,Ownv.nil _ _ _,fun g hg=>by cases hg⟩,List.prefix_refl _,KP.out.later hb5,KP.out.lt⟩⟩
 have hle:=Hln.out
 clear hb5 hS c0 c1 c2 c3 c4 c5 c6 Hbu KG KP HB Hln hi0 hg0 Hsl
 generalize addn n F0 []=ts0 at *
 generalize (fun k=>k<w2.heap.size)=Far0 at *
 go_wp2_with fail
 go_loopw [13,46] (fun v13 v46 wr => ∃ (i:Nat) (Fr:Nat→Prop) (F:Pt→Int) (ts:List Tr),i≤L.length∧v13 = .int .i64 (idn ts n F)∧v46 = .int .i64 i∧Bx (TdI w Fr sb n F0 F ts0 ts p wr∧ts.length≤3901+52000 * i)) (fun _ i _=>L.length - (intOf i).toNat)
 case atStart=>exact ⟨0,_,_,_,Nat.zero_le _,rfl,rfl,⟨HI.out,hle⟩⟩
 case round =>
  clear HI hle
  obtain ⟨i,Fr,F,ts,hi,rfl,rfl,HI⟩:=hrel
  by_cases hlt:i<L.length
  · have t0:decide ((i:Int)<(L.length:Int))=true:=by simp;omega
    obtain ⟨s,hs⟩ : ∃ s,L[i]? = some s:=⟨_,List.getElem?_eq_getElem hlt⟩
    obtain ⟨bA,oA,rfl,hcell,hok⟩:=Hse.out i s hs
    have hfs:fewS n s=true:=List.all_eq_true.1 Hall.out s (List.mem_of_getElem? hs)
    have hfx:s.ys ≠ [] → ∀ b,s.ga.map (·.block)=some b→Fr b:=fun hy b hb=>by
     obtain ⟨x,r,hxr⟩:=List.exists_cons_of_ne_nil hy
     obtain ⟨b',off,h1,h2⟩:=hok.ys 0 x (by rw [hxr];rfl)
     rw [h1] at hb
     simp only [Option.map_some,Option.some.injEq] at hb
     rw [←hb];exact HI.out.1.mi.old _ (World.block_lt_of_cell? w _ h2)
    have b1:(0:Int)≤(i:Int):=by omega
    have b2:(i:Int)<(L.length:Int):=by omega
    obtain ⟨AL,hA⟩ : ∃ AL,AL=s.arr.toList:=⟨_,rfl⟩
    have hAs:AL.length=24:=by rw [hA];rfl
    have hA1:Bx (AL.toArray.all (·.oneCell')=true):=⟨by rw [hA];simp [Value.oneCell']⟩
    have hi24:Bx ((Tryz.prog.info? 41).map (·.size)=some AL.length):=⟨by rw [hAs];kernel_rfl⟩
    have hi25:Bx ((Tryz.prog.info? 41).map (·.size)=some AL.toArray.size):=⟨by rw [List.size_toArray,hAs];kernel_rfl⟩
    have HR:Bx (wr.rangeAt bA (oA+i * 24) AL):=⟨fun j v hj=>cell_later HI.out.1.mi.bel (hcell j v (by rw [hA] at hj;simpa using hj))⟩
    have hAr:s.arr=AL.toArray:=by rw [hA]
    have HA24:=Bx.mk hAs
    have hlen4:ts.length≤500000:=by have:=HI.out.2;omega
    have Hpl:=Bx.mk fun (W':World) (hb:Below w.heap.size w W') (Fr2:Nat→Prop) (h2 : ∀ k,Fr k→Fr2 k) hFar hSt=>play_any Hn.out F HI.out.1.mi.fn s hfs sb 1000000 ts HI.out.1.mi.good (by omega) HI.out.1.mi.mem (fun F' h=>Nat.le_trans ((step_both Hn.out HI.out.1.mi.fn hfs h).2 ts HI.out.1.mi.good HI.out.1.mi.mem) (by omega)) W' (hok.below hb) Fr2 (fun hy b hb'=>h2 _ (hfx hy b hb')) hFar hSt
    rw [hAr] at Hpl
    have HFS:=Bx.mk hfs
    clear hA hAs hcell hok hfx hAr hs hfs
    go_upto_region 10 with (first
     | (refine wpList_load_mid rfl _ _ rfl bA (oA+i * 24) rfl AL _ HR.out Tryz.underlying41 rfl hi24.out ?_)
     | (refine wpList_store_whole rfl _ _ _ rfl wr.heap.size rfl _ AL.toArray rfl 41 (heap_alloc_new _ _) hi25.out (by rw [show AL.toArray.size=24 by simp [HA24.out]];rfl) hA1.out ?_))
    generalize hW:World.setRow (World.alloc wr _) _ _=W1
    have hB1:Below wr.heap.size wr W1:=by rw [←hW];exact below_setRow ((Below.refl _ _).alloc (Nat.le_refl _) _) (Nat.le_refl _) _
    have KS:=Bx.mk (show Bk W1 wr.heap.size AL.toArray 41 by rw [←hW];exact setRow_heap _ _ _ _ _ (0,0) (heap_alloc_new _ _))
    have HM:Bx (TdI w (fun k=>Fr k∨k=wr.heap.size) sb n F0 F ts0 ts p W1):=⟨⟨⟨(HI.out.1.mi.st.widen (fun k hk=>hk.imp (fun h=>h) (fun (e:k=wr.heap.size)=>by omega))).later hB1,fun j hj=>(by
     rcases hj with hj | rfl
     · exact Nat.lt_of_lt_of_le (HI.out.1.mi.far j hj) hB1.size
     · exact KS.out.lt),fun j hj=>.inl (HI.out.1.mi.old j hj),HI.out.1.mi.bel.trans (hB1.mono HI.out.1.mi.bel.size),HI.out.1.mi.good,HI.out.1.mi.mem,HI.out.1.mi.fn,HI.out.1.mi.own.below hB1,fun g hg=>.inl (HI.out.1.mi.row g hg)⟩,HI.out.1.pre,HI.out.1.kp.later hB1,.inl HI.out.1.kf⟩⟩
    have HP:=Bx.mk (Hpl.out W1 HM.out.mi.bel (fun k=>Fr k∨k=wr.heap.size) (fun k h=>.inl h) HM.out.mi.far HM.out.mi.st)
    have HLN:=Bx.mk HI.out.2
    have HLT:=Bx.mk HI.out.1
    clear hW hA1 HR HA24 Hpl hi24 HI hB1
    go_wp2_with (refine wpList_load_whole rfl _ _ rfl wr.heap.size rfl _ _ KS.out _ Tryz.underlying41 rfl hi25.out ?_)
    refine HP.out.mono ?_
    intro e2 W2 hpr
    cases hst:stepF n F s with
    | none =>
      obtain ⟨rfl,hb2⟩:=hpr.no hst
      have hl5:ts.length≤3901+52000 * (i+1):=Nat.le_trans HLN.out (Nat.add_le_add_left (Nat.mul_le_mul_left _ (Nat.le_succ i)) _)
      have HJ:Bx (TdI w (fun k=>Fr k∨k=wr.heap.size) sb n F0 F ts0 ts p W2∧ts.length≤3901+52000 * (i+1)):=⟨⟨⟨HM.out.mi.later hb2,HM.out.pre,HM.out.kp.later hb2,HM.out.kf⟩,hl5⟩⟩
      clear hpr hb2 HP HM KS hst hl5
      go_wp2_with fail
      go_roundw
      case rel=>exact ⟨i+1,_,F,ts,by omega,rfl,by go_num,HJ⟩
      case measure=>simp [intOf];omega
    | some F' =>
      have hd:=hpr.yes F' hst
      have hsb:=step_both Hn.out HLT.out.mi.fn HFS.out hst
      have hlen':=hsb.2 ts HLT.out.mi.good HLT.out.mi.mem
      obtain ⟨rfl,hS3⟩:e2=ret2 (idn (addn n F' ts) n F') 0∧StoreIs W2 (fun k=>Fr k∨k=wr.heap.size) sb 1000000 (addn n F' ts):=by
       rcases hd.way with ⟨_,h2,h3⟩ | ⟨hn',_⟩
       · exact ⟨h2,h3⟩
       · exact absurd (.inr (by omega)) hn'
      have hl5:(addn n F' ts).length≤3901+52000 * (i+1):=by
       refine Nat.le_trans hlen' (Nat.le_trans (Nat.add_le_add_right HLN.out _) ?_)
       rw [Nat.mul_add,Nat.mul_one,Nat.add_assoc]
       exact Nat.le_refl _
      have HJ:Bx (TdI w (fun k=>Fr k∨k=wr.heap.size) sb n F0 F' ts0 (addn n F' ts) p W2∧(addn n F' ts).length≤3901+52000 * (i+1)):=⟨⟨⟨HM.out.mi.made hd.keeps hS3 (addn_good Hn.out hsb.1 HLT.out.mi.good) (addn_mem n F' ts) hsb.1,HM.out.pre.trans (addn_pre n F' ts),(hd.keeps.block _ HM.out.kf HM.out.kp.lt).trans HM.out.kp,HM.out.kf⟩,hl5⟩⟩
      clear hpr hd hsb hlen' hS3 HM HP KS hst hl5
      go_wp2_with fail
      go_roundw
      case rel=>exact ⟨i+1,_,F',addn n F' ts,by omega,rfl,by go_num,HJ⟩
      case measure=>simp [intOf];omega
  · obtain rfl:i=L.length:=by omega
    have t0:decide ((L.length:Int)<(L.length:Int))=false:=by simp
    have hl4:ts.length≤4194304:=by have:=HI.out.2;omega
    have hmem0:trF n F0∈ts:=HI.out.1.pre.subset HM0.out
    have hid0:idn ts n F0=idn ts0 n F0:=by unfold idn;rw [idT_prefix HI.out.1.pre HM0.out]
    have HTI:=Bx.mk HI.out.1
    have HL4:=Bx.mk hl4
    have HMM:=Bx.mk hmem0
    have Hdf:=Bx.mk fun W hS=>tdiff_any 1000000 ts HTI.out.mi.good hl4 sb n Hn.out (trF n F0) (trF n F) hmem0 HTI.out.mi.mem W Fr hS
    rw [show (idT ts (trF n F0):Int)=idn ts0 n F0 from hid0] at Hdf
    rw [show (idT ts (trF n F):Int)=idn ts n F from rfl] at Hdf
    have HID:=Bx.mk hid0
    clear HI hmem0 hid0 hl4 hi hlt
    go_wp2_with fail
    refine (Hdf.out wr HTI.out.mi.st).mono ?_
    rintro _ W0 ⟨v,rfl,ho,hb⟩
    obtain ⟨da,dc,rfl,hsk⟩:=own_slk ho
    obtain ⟨D,hD⟩ : ∃ D,D=diffT n ⟨0,0,0⟩ (trF n F0) (trF n F):=⟨_,rfl⟩
    rw [←hD] at hsk ⊢
    have HD:=Bx.mk hD
    have HK:=Bx.mk hsk
    have hDl:D.length≤1000000000000:=by rw [hD];exact Nat.le_trans (diff_len n _ _ _) (Nat.le_trans (Nat.pow_le_pow_right (by decide) Hn.out) (by decide))
    have HSt:=Bx.mk (HTI.out.mi.st.later hb)
    have KP0:=Bx.mk (HTI.out.kp.later hb)
    have HB0:=Bx.mk (HTI.out.mi.bel.trans (hb.mono HTI.out.mi.bel.size))
    have HCn:=Bx.mk (show cntP p D≤1 from by
     rw [hD]
     have h:=(diff_one (F:=F0) (G:=F) p n ⟨0,0,0⟩ (al_zero n)).1
     exact Nat.le_trans h (by split <;> omega))
    have HI:Bx (Below W0.heap.size W0 W0):=⟨Below.refl _ _⟩
    clear ho hb hsk hD Hdf t0
    go_wp2_with fail
    go_loopw [19,69] (fun v19 v69 wr' => ∃ k:Nat,k≤D.length∧v19 = .int .i64 ((cntP p (D.take k):Nat):Int)∧v69 = .int .i64 (k:Int)∧Bx (Below W0.heap.size W0 wr')) (fun _ i _=>D.length - (intOf i).toNat)
    case atStart=>exact ⟨0,Nat.zero_le _,rfl,rfl,HI⟩
    case round =>
     clear HI
     obtain ⟨k,hk,rfl,rfl,HI⟩:=hrel
     --ROUND
     by_cases hlt:k<D.length
     · have t0:decide ((k:Int)<(D.length:Int))=true:=by simp;omega
       obtain ⟨x,hx⟩ : ∃ x,D[k]? = some x:=⟨_,List.getElem?_eq_getElem hlt⟩
       have hdc:DC n F0 F x:=dc_of (by rw [←HD.out];exact List.mem_of_getElem? hx)
       obtain ⟨bD,oD,rfl,y0,y1,y2,y3⟩:=(HK.out.below HI.out) k x hx
       have b1:(0:Int)≤(k:Int):=by omega
       have b2:(k:Int)<(D.length:Int):=by omega
       have Hcb:=Bx.mk fun W=>cube_box Hn.out hdc.hin W
       have Hir:=Bx.mk fun W=>ref_in p.x p.y p.z x.1.x x.1.y x.1.z (x.1.x+2 ^ (x.2+2)) (x.1.y+2 ^ (x.2+2)) (x.1.z+2 ^ (x.2+2)) W
       rw [show inB ⟨p.x,p.y,p.z⟩ ⟨⟨x.1.x,x.1.y,x.1.z⟩,⟨x.1.x+2 ^ (x.2+2),x.1.y+2 ^ (x.2+2),x.1.z+2 ^ (x.2+2)⟩⟩=inD p x from rfl] at Hir
       have Hp0:=Bx.mk fun W (h:Below W0.heap.size W0 W)=>part_cube Hn.out hdc.hin HTI.out.mi.good HMM.out HL4.out sb 1000000 Fr W (HSt.out.later h)
       have Hp1:=Bx.mk fun W (h:Below W0.heap.size W0 W)=>part_cube Hn.out hdc.hin HTI.out.mi.good HTI.out.mi.mem HL4.out sb 1000000 Fr W (HSt.out.later h)
       rw [HID.out] at Hp0
       have hm0:=(part_mem hdc.hin HTI.out.mi.good HMM.out).2
       have hm1:=(part_mem hdc.hin HTI.out.mi.good HTI.out.mi.mem).2
       have tne:((idT ts (Tr.can F0 x.2 x.1):Int) == (idT ts (Tr.can F x.2 x.1):Int))=false:=by
        rw [beq_eq_false_iff_ne]
        intro e
        exact hdc.ne (idT_inj hm0 hm1 (by exact_mod_cast e))
       have Hk0:=Bx.mk fun W (h:Below W0.heap.size W0 W)=>kindV_any Fr sb 1000000 ts (Tr.can F0 x.2 x.1) hm0 HL4.out W (HSt.out.later h)
       have Hk1:=Bx.mk fun W (h:Below W0.heap.size W0 W)=>kindV_any Fr sb 1000000 ts (Tr.can F x.2 x.1) hm1 HL4.out W (HSt.out.later h)
       have Hun:=Bx.mk fun (h:0<x.2)=>(And.intro (kind_uni (hdc.uni h).1) (kind_uni (hdc.uni h).2))
       have Hct:=Bx.mk (cnt_take (p:=p) hx hdc.hin.al)
       have hcl:=cnt_le (p:=p) (D:=D) (k+1)
       have HC1:=Bx.mk (show cntP p (D.take (k+1))≤1 from Nat.le_trans hcl HCn.out)
       have Hpv:Bx (∀ j,k=j+1 → ∃ y,D[j]? = some y ∧ ∀ W,Calls Tryz.prog 37 #[.agg #[.int .i64 y.1.x,.int .i64 y.1.y,.int .i64 y.1.z],.agg #[.int .i64 x.1.x,.int .i64 x.1.y,.int .i64 x.1.z]] W fun e w'=>e = .returned (.int .i64 (-1))∧Below W.heap.size W w'):=⟨fun j e=>by
        subst e
        obtain ⟨y,hy⟩ : ∃ y,D[j]? = some y:=⟨_,List.getElem?_eq_getElem (by omega)⟩
        exact ⟨y,hy,fun W=>diff_lt Hn.out (by rw [←HD.out];exact hy) (by rw [←HD.out];exact hx) W⟩⟩
       generalize hpw:(2:Int) ^ (x.2+2)=m at *
       generalize (idT ts (Tr.can F0 x.2 x.1):Int)=iA at *
       generalize (idT ts (Tr.can F x.2 x.1):Int)=iZ at *
       generalize kindV (Tr.can F0 x.2 x.1)=kA at *
       generalize kindV (Tr.can F x.2 x.1)=kZ at *
       clear hpw hdc hm0 hm1 hcl hx
       rename World=>wq
       go_upto_region 19 with fail
       generalize hW:World.alloc wq _=W1
       have HB1:=Bx.mk (HI.out.trans ((show Below wq.heap.size wq W1 by rw [←hW];exact (Below.refl _ _).alloc (Nat.le_refl _) _).mono HI.out.size))
       have KC:=Bx.mk (show Bk W1 wq.heap.size #[.int .i64 x.1.x,.int .i64 x.1.y,.int .i64 x.1.z,.int .i64 ((x.2:Int)+2)] 39 by rw [←hW];exact blk_new _ _ _ rfl)
       clear hW y0 y1 y2 y3 HI
       generalize wq.heap.size=gc at *
       obtain ⟨k0,k1,k2,k3⟩:=KC.out.c4
       go_wp2_with fail
       refine (Hcb.out _).mono ?_
       rintro _ w3 ⟨rfl,hb3⟩
       have HB3:=Bx.mk (HB1.out.trans (hb3.mono HB1.out.size))
       have KC3:=Bx.mk (KC.out.later hb3)
       have KP3:=Bx.mk (KP0.out.later HB3.out)
       clear hb3 k0 k1 k2 k3 HB1 KC Hcb
       have p0 : ∀ o,(w3.alloc o).cell? ⟨w.heap.size+1,0,none⟩=some (.int .i64 p.x):=fun o=>Bk.cell (blk_old KP3.out) 0 rfl
       have p1 : ∀ o,(w3.alloc o).cell? ⟨w.heap.size+1,1,none⟩=some (.int .i64 p.y):=fun o=>Bk.cell (blk_old KP3.out) 1 rfl
       have p2 : ∀ o,(w3.alloc o).cell? ⟨w.heap.size+1,2,none⟩=some (.int .i64 p.z):=fun o=>Bk.cell (blk_old KP3.out) 2 rfl
       go_wp2_with fail
       generalize hW3:World.alloc w3 _=V3
       have hb3:=bl1 hW3
       have HB4:=Bx.mk (HB3.out.trans (hb3.mono HB3.out.size))
       have KC4:=Bx.mk (KC3.out.later hb3)
       clear hW3 hb3 p0 p1 p2 HB3 KC3 KP3
       refine (Hir.out _).mono ?_
       rintro _ w5 ⟨rfl,hb5⟩
       have HB5:=Bx.mk (HB4.out.trans (hb5.mono HB4.out.size))
       have KC5:=Bx.mk (KC4.out.later hb5)
       clear hb5 HB4 KC4 Hir
       generalize hib:inD p x=ib
       have HIB:=Bx.mk hib
       clear hib
       cases ib
       all_goals
        go_upto_region 22 with fail
        obtain ⟨q0,q1,q2⟩:=KC5.out.r3
        obtain rfl | ⟨j,rfl⟩:k=0 ∨ ∃ j,k=j+1:=by cases k with | zero=>exact .inl rfl | succ j=>exact .inr ⟨j,rfl⟩
        · have tk:decide ((0:Int)<((0:Nat):Int))=false:=by decide
          refine wp_region_quiet_below (by kernel_rfl) (by kernel_rfl) ?_
          repeat (first | go_big_quiet_step ((fail)) | quiet_step (fail))
          refine wpQuiet_nil ?_
          rintro _ ⟨⟨dq,osq⟩,rfl⟩
          have hbq:=below_regrown w5 dq osq
          have HB6:=Bx.mk (HB5.out.trans (hbq.mono HB5.out.size))
          have KC6:=Bx.mk (KC5.out.later hbq)
          clear q0 q1 q2 hbq HB5 KC5
          generalize grow (redrawn w5 dq) osq=w6 at *
          obtain ⟨k0,k1,k2,k3⟩:=KC6.out.c4
          go_wp2_with fail
          refine (Hp0.out _ HB6.out).mono ?_
          rintro _ w7 ⟨rfl,hb7⟩
          have HB7:=Bx.mk (HB6.out.trans (hb7.mono HB6.out.size))
          have KC7:=Bx.mk (KC6.out.later hb7)
          clear hb7 HB6 KC6 k0 k1 k2 k3
          obtain ⟨k0,k1,k2,k3⟩:=KC7.out.c4
          go_wp2_with fail
          refine (Hp1.out _ HB7.out).mono ?_
          rintro _ w8 ⟨rfl,hb8⟩
          have HB8:=Bx.mk (HB7.out.trans (hb8.mono HB7.out.size))
          have KC8:=Bx.mk (KC7.out.later hb8)
          clear hb8 HB7 KC7 k0 k1 k2 k3
          have k3:=KC8.out.cell 3 rfl
          by_cases hlv:0<x.2
          · have tl:decide ((2:Int)<(x.2:Int)+2)=true:=by simp;omega
            obtain ⟨e1,e2⟩:=Hun.out hlv
            have tk1:(kA != 1)=false:=by rw [e1];rfl
            have tk2:(kZ != 1)=false:=by rw [e2];rfl
            clear e1 e2
            go_wp2_with fail
            refine (Hk0.out _ HB8.out).mono ?_
            rintro _ _ ⟨rfl,rfl⟩
            go_wp2_with fail
            refine (Hk1.out _ HB8.out).mono ?_
            rintro _ _ ⟨rfl,rfl⟩
            go_wp2_with fail
            go_roundw
            case rel=>exact ⟨0+1,by omega,cnt_eq Hct.out HIB.out HC1.out,by go_num,HB8⟩
            case measure=>simp [intOf];omega
          · have tl:decide ((2:Int)<(x.2:Int)+2)=false:=by simp;omega
            go_wp2_with fail
            go_roundw
            case rel=>exact ⟨0+1,by omega,cnt_eq Hct.out HIB.out HC1.out,by go_num,HB8⟩
            case measure=>simp [intOf];omega
        · have tk:decide ((0:Int)<((j+1:Nat):Int))=true:=by simp
          obtain ⟨y,hy,hcmp⟩:=Hpv.out j rfl
          obtain ⟨bE,oE,hE2,z0,z1,z2,z3⟩:=(HK.out.below HB5.out) j y hy
          injection hE2 with hE2
          injection hE2 with hE3 hE4
          subst hE3 hE4
          have r0 : ∀ dk osk,(grow (redrawn w5 dk) osk).cell? ⟨bD,oD+j * 4,none⟩=some (.int .i64 y.1.x):=cell_regrown z0
          have r1 : ∀ dk osk,(grow (redrawn w5 dk) osk).cell? ⟨bD,oD+j * 4+1,none⟩=some (.int .i64 y.1.y):=cell_regrown z1
          have r2 : ∀ dk osk,(grow (redrawn w5 dk) osk).cell? ⟨bD,oD+j * 4+2,none⟩=some (.int .i64 y.1.z):=cell_regrown z2
          have u0:=Bx.mk fun dk osk=>Calls.regrown_of (hcmp (grow (redrawn w5 dk) osk))
          have hsub:IntKind.i64.wrap (((j+1:Nat):Int) - 1)=(j:Int):=by rw [show ((j+1:Nat):Int) - 1=(j:Int) by omega];exact IntWalk.i64_in _ (by omega)
          have hsub2:wrap64 (((j+1:Nat):Int) - 1)=(j:Int):=by rw [←IntWalk.i64_left];exact hsub
          have d1:(0:Int)≤(j:Int):=by omega
          have d2:(j:Int)<(D.length:Int):=by omega
          have tc:decide ((0:Int) ≤ -1)=false:=by decide
          clear z0 z1 z2 z3 hy hcmp
          refine wp_region_quiet_below (by kernel_rfl) (by kernel_rfl) ?_
          repeat (first | go_big_quiet_step ((first | with_reducible exact u0.out _ _)) | quiet_step (first | with_reducible exact u0.out _ _))
          refine wpQuiet_nil ?_
          rintro _ ⟨⟨dq,osq⟩,rfl⟩
          have hbq:=below_regrown w5 dq osq
          have HB6:=Bx.mk (HB5.out.trans (hbq.mono HB5.out.size))
          have KC6:=Bx.mk (KC5.out.later hbq)
          clear q0 q1 q2 r0 r1 r2 u0 hbq HB5 KC5
          generalize grow (redrawn w5 dq) osq=w6 at *
          obtain ⟨k0,k1,k2,k3⟩:=KC6.out.c4
          go_wp2_with fail
          refine (Hp0.out _ HB6.out).mono ?_
          rintro _ w7 ⟨rfl,hb7⟩
          have HB7:=Bx.mk (HB6.out.trans (hb7.mono HB6.out.size))
          have KC7:=Bx.mk (KC6.out.later hb7)
          clear hb7 HB6 KC6 k0 k1 k2 k3
          obtain ⟨k0,k1,k2,k3⟩:=KC7.out.c4
          go_wp2_with fail
          refine (Hp1.out _ HB7.out).mono ?_
          rintro _ w8 ⟨rfl,hb8⟩
          have HB8:=Bx.mk (HB7.out.trans (hb8.mono HB7.out.size))
          have KC8:=Bx.mk (KC7.out.later hb8)
          clear hb8 HB7 KC7 k0 k1 k2 k3
          have k3:=KC8.out.cell 3 rfl
          by_cases hlv:0<x.2
          · have tl:decide ((2:Int)<(x.2:Int)+2)=true:=by simp;omega
            obtain ⟨e1,e2⟩:=Hun.out hlv
            have tk1:(kA != 1)=false:=by rw [e1];rfl
            have tk2:(kZ != 1)=false:=by rw [e2];rfl
            clear e1 e2
            go_wp2_with fail
            refine (Hk0.out _ HB8.out).mono ?_
            rintro _ _ ⟨rfl,rfl⟩
            go_wp2_with fail
            refine (Hk1.out _ HB8.out).mono ?_
            rintro _ _ ⟨rfl,rfl⟩
            go_wp2_with fail
            go_roundw
            case rel=>exact ⟨(j+1)+1,by omega,cnt_eq Hct.out HIB.out HC1.out,by go_num,HB8⟩
            case measure=>simp [intOf];omega
          · have tl:decide ((2:Int)<(x.2:Int)+2)=false:=by simp;omega
            go_wp2_with fail
            go_roundw
            case rel=>exact ⟨(j+1)+1,by omega,cnt_eq Hct.out HIB.out HC1.out,by go_num,HB8⟩
            case measure=>simp [intOf];omega
     · obtain rfl:k=D.length:=by omega
       have t0:decide ((D.length:Int)<(D.length:Int))=false:=by simp
       have hc1:=HCn.out
       have hc2:F0 p ≠ F p→cntP p D=1:=fun h=>by
        rw [HD.out]
        refine (diff_one (F:=F0) (G:=F) p n ⟨0,0,0⟩ (al_zero n)).2 ?_ h
        cases hin:inB p (cubeB (2 ^ (n+2))) with
        | true=>exact inC_of_in hin
        | false=>exact absurd ((Hfn.out.out p hin).trans (HTI.out.mi.fn.out p hin).symm) h
       have HG0:=Bx.mk fun W (h:Below W0.heap.size W0 W)=>get_fn W Fr sb 1000000 ts n F0 Hn.out Hfn.out HTI.out.mi.good (Nat.le_trans HL4.out (by decide)) HMM.out p.x p.y p.z (HSt.out.later h)
       have HG1:=Bx.mk fun W (h:Below W0.heap.size W0 W)=>get_fn W Fr sb 1000000 ts n F Hn.out HTI.out.mi.fn HTI.out.mi.good (Nat.le_trans HL4.out (by decide)) HTI.out.mi.mem p.x p.y p.z (HSt.out.later h)
       rw [show F0 ⟨p.x,p.y,p.z⟩=F0 p from rfl,show (idT ts (trF n F0):Int)=idn ts0 n F0 from HID.out] at HG0
       rw [show F ⟨p.x,p.y,p.z⟩=F p from rfl,show (idT ts (trF n F):Int)=idn ts n F from rfl] at HG1
       have hids:(D.length=0∧idn ts0 n F0=idn ts n F)∨(D.length ≠ 0∧idn ts0 n F0 ≠ idn ts n F):=by
        rw [←HID.out]
        by_cases h:trF n F0=trF n F
        · exact .inl ⟨by rw [HD.out,(diff_nil (N:=n) (F:=F0) (G:=F)).2 h];rfl,by unfold idn;rw [h]⟩
        · refine .inr ⟨fun e=>h ((diff_nil (N:=n) (F:=F0) (G:=F)).1 (by rw [←HD.out];exact List.eq_nil_of_length_eq_zero e)),fun e=>h (idT_inj HMM.out HTI.out.mi.mem (by unfold idn at e;exact_mod_cast e))⟩
       have Hids:=Bx.mk hids
       rw [List.take_length]
       clear hids HL4 HCn hlt hk
       generalize cntP p D=cc at *
       generalize idn ts0 n F0=iA at *
       generalize idn ts n F=iZ at *
       rename World=>wq
       have q0 : ∀ dk osk,(grow (redrawn wq dk) osk).cell? ⟨w.heap.size+1,0,none⟩=some (.int .i64 p.x):=cell_regrown ((KP0.out.later HI.out).cell 0 rfl)
       have q1 : ∀ dk osk,(grow (redrawn wq dk) osk).cell? ⟨w.heap.size+1,1,none⟩=some (.int .i64 p.y):=cell_regrown ((KP0.out.later HI.out).cell 1 rfl)
       have q2 : ∀ dk osk,(grow (redrawn wq dk) osk).cell? ⟨w.heap.size+1,2,none⟩=some (.int .i64 p.z):=cell_regrown ((KP0.out.later HI.out).cell 2 rfl)
       have u0:=Bx.mk fun dk osk=>Calls.regrown_of (HG0.out (grow (redrawn wq dk) osk) (HI.out.trans ((below_regrown wq dk osk).mono HI.out.size)))
       have u1:=Bx.mk fun dk osk=>Calls.regrown_of (HG1.out (grow (redrawn wq dk) osk) (HI.out.trans ((below_regrown wq dk osk).mono HI.out.size)))
       have tc2:decide ((1:Int)<(cc:Int))=false:=by simp;omega
       generalize F0 p=a0 at *
       generalize F p=a1 at *
       go_upto_region 29 with fail
       obtain h | h:=Decidable.em (a0=a1)
       · have tn:(a0 != a1)=false:=by simp [h]
         clear h hc1 hc2
         refine wp_region_quiet_below (by kernel_rfl) (by kernel_rfl) ?_
         repeat (first | go_big_quiet_step ((first | with_reducible exact u0.out _ _ | with_reducible exact u1.out _ _)) | quiet_step (first | with_reducible exact u0.out _ _ | with_reducible exact u1.out _ _))
         refine wpQuiet_nil ?_
         rintro _ ⟨⟨dq,osq⟩,rfl⟩
         have hbq:=below_regrown wq dq osq
         have HB6:=Bx.mk (HB0.out.trans ((HI.out.trans (hbq.mono HI.out.size)).mono HB0.out.size))
         clear q0 q1 q2 u0 u1 hbq HI
         generalize grow (redrawn wq dq) osq=w6 at *
         go_wp2_with fail
         refine (sanity10_true _).mono ?_
         rintro _ w9 ⟨rfl,hb9⟩
         have HB9:=Bx.mk (HB6.out.trans (hb9.mono HB6.out.size))
         clear hb9 HB6
         obtain ⟨e1,e2⟩ | ⟨e1,e2⟩:=Hids.out
         · have f1:((D.length:Int) == 0)=true:=by rw [e1];rfl
           have f2:(iA == iZ)=true:=by rw [e2];simp
           clear e1 e2
           go_wp2_with fail
           go_ret
           exact ⟨rfl,HB9.out⟩
         · have f1:((D.length:Int) == 0)=false:=by rw [beq_eq_false_iff_ne];omega
           have f2:(iA == iZ)=false:=by rw [beq_eq_false_iff_ne];exact e2
           clear e1 e2
           go_wp2_with fail
           go_ret
           exact ⟨rfl,HB9.out⟩
       · have tn:(a0 != a1)=true:=by simpa using h
         have tc:((cc:Int) != 1)=false:=by rw [hc2 h];rfl
         clear h hc1 hc2
         refine wp_region_quiet_below (by kernel_rfl) (by kernel_rfl) ?_
         repeat (first | go_big_quiet_step ((first | with_reducible exact u0.out _ _ | with_reducible exact u1.out _ _)) | quiet_step (first | with_reducible exact u0.out _ _ | with_reducible exact u1.out _ _))
         refine wpQuiet_nil ?_
         rintro _ ⟨⟨dq,osq⟩,rfl⟩
         have hbq:=below_regrown wq dq osq
         have HB6:=Bx.mk (HB0.out.trans ((HI.out.trans (hbq.mono HI.out.size)).mono HB0.out.size))
         clear q0 q1 q2 u0 u1 hbq HI
         generalize grow (redrawn wq dq) osq=w6 at *
         go_wp2_with fail
         refine (sanity10_true _).mono ?_
         rintro _ w9 ⟨rfl,hb9⟩
         have HB9:=Bx.mk (HB6.out.trans (hb9.mono HB6.out.size))
         clear hb9 HB6
         obtain ⟨e1,e2⟩ | ⟨e1,e2⟩:=Hids.out
         · have f1:((D.length:Int) == 0)=true:=by rw [e1];rfl
           have f2:(iA == iZ)=true:=by rw [e2];simp
           clear e1 e2
           go_wp2_with fail
           go_ret
           exact ⟨rfl,HB9.out⟩
         · have f1:((D.length:Int) == 0)=false:=by rw [beq_eq_false_iff_ne];omega
           have f2:(iA == iZ)=false:=by rw [beq_eq_false_iff_ne];exact e2
           clear e1 e2
           go_wp2_with fail
           go_ret
           exact ⟨rfl,HB9.out⟩
end
section
open Go.RowKit Go.Sort Go.Maps
open Oct
set_option maxRecDepth 100000 in
set_option maxHeartbeats 1000000 in
theorem td_off (a b c d e f dd px py pz:Int) (ha la:Option Addr) (xl hcp m lc:Nat) (w:World)
 (hf : ∀ W,Below w.heap.size w W→Calls Tryz.prog 9 #[.agg #[a,b,c,d,e,f,.slice ha xl hcp],dd,.slice la m lc] W fun e' w'=>e' = .returned (.bool false)∧Below W.heap.size W w') :
 Calls Tryz.prog 7 #[.agg #[a,b,c,d,e,f,.slice ha xl hcp],dd,.slice la m lc,.agg #[px,py,pz]] w fun e' w'=>e' = .returned (.bool true)∧Below w.heap.size w w':=by
 have HF:=Bx.mk hf
 clear hf
 go_enter Tryz.func7,Tryz.ntmps7
 go_upto_region 1 with fail
 generalize hW:World.alloc (World.alloc w _) _=W
 have hB:=bl2 hW
 have kg:Bk W w.heap.size #[a,b,c,d,e,f,.slice ha xl hcp] 28:=bk1 hW
 clear hW
 obtain ⟨c0,c1,c2,c3,c4,c5,c6⟩:=kg.c7
 have HQ:=Bx.mk (HF.out W hB)
 have HB:=Bx.mk hB
 clear kg hB HF
 go_wp2_with fail
 refine HQ.out.mono ?_
 rintro _ w2 ⟨rfl,hb2⟩
 have HB2:=Bx.mk (HB.out.trans (hb2.mono HB.out.size))
 clear hb2 HB HQ c0 c1 c2 c3 c4 c5 c6
 go_wp2_with fail
 refine (sanity10_true _).mono ?_
 rintro _ w3 ⟨rfl,hb3⟩
 have HB3:=Bx.mk (HB2.out.trans (hb3.mono HB2.out.size))
 clear hb3 HB2
 go_wp2_with fail
 go_ret
 exact ⟨rfl,HB3.out⟩
theorem tree_differs_true (a b c d e f dd px py pz:Int) (ha la:Option Addr) (hcp lc:Nat) (xs:List Int) (L:List Stp) (hcap:xs.length≤hcp) (w:World) (hsl:Sl w .i64 ha xs) (hse:SlS w la L) :
 Calls Tryz.prog 7 #[.agg #[a,b,c,d,e,f,.slice ha xs.length hcp],dd,.slice la L.length lc,.agg #[px,py,pz]] w fun e' w'=>e' = .returned (.bool true)∧Below w.heap.size w w':=by
 by_cases hfw:xs.length≤300∧L.length≤8∧fromE ⟨⟨a,b,c⟩,⟨d,e,f⟩⟩ xs dd=0
 · obtain ⟨h1,h2,hE⟩:=hfw
   obtain ⟨n,hn,rfl,hV,hC⟩:=fromE_zero hE
   have HX:=goodG_of hV h1 hcap
   cases hall:L.all (fewS n) with
   | true=>exact td_on a b c d e f ha la hcp lc xs L ⟨px,py,pz⟩ w h1 h2 hsl hse n hn HX hE hV hC hall
   | false =>
     refine td_off a b c d e f _ px py pz ha la _ hcp _ lc w fun W hb=>?_
     have h:=few10_yes a b c d e f ha hcp xs h1 n hn hE la lc L h2 W (hsl.below hb) (hse.below hb)
     rw [hall] at h
     exact h
 · exact td_off a b c d e f dd px py pz ha la _ hcp _ lc w fun W hb=>few10_no a b c d e f dd ha hcp xs la L.length lc hfw W (hsl.below hb)
end
section
open Go.RowKit Go.ChangeShapes Go.WideShapes
open Oct
theorem cellsPt : Tryz.prog.cellsOf 23=3:=by kernel_rfl
theorem cellsBox : Tryz.prog.cellsOf 25=6:=by kernel_rfl
theorem cellsGrid : Tryz.prog.cellsOf 28=7:=by kernel_rfl
theorem cellsIntT : Tryz.prog.cellsOf 3=1:=by kernel_rfl
theorem cellsInts : Tryz.prog.cellsOf 26=1:=by kernel_rfl
theorem row_sl {k:IntKind} {w:World} {a:Option Addr} {len cap:Nat} {zs:List Int}
 (h:(a=none∧len=0∧cap=0∧zs=[]) ∨ ∃ x,a=some x∧len≤cap∧cap≤maxLen∧zs.length=cap∧(∀ i,i<zs.length→w.cell? (x.add i)=some (.int k (zs.getD i 0))) ∧ ∀ n∈zs,(Lit.int k n).wf=true) :
 ∃ xs:List Int,len=xs.length∧Sl w k a xs:=by
 rcases h with ⟨rfl,rfl,rfl,rfl⟩ | ⟨x,rfl,hl,hm,hz,hc,hw⟩
 · exact ⟨[],rfl,Sl.nil _ _ _⟩
 · refine ⟨zs.take len,by simp;omega,fun i y hy=>?_⟩
   rw [List.getElem?_take] at hy
   split at hy
   · rename_i hi
     have h1:=hc i (by omega)
     have h2:w.cell? (x.add i)=some (.int k y):=by rw [h1];simp [List.getD,hy]
     obtain ⟨b,off,spot⟩:=x
     have hspot:spot=none:=by
      have h0:=hc 0 (by omega)
      simpa [Addr.add] using World.cell?_spot h0
     subst hspot
     refine ⟨b,off,rfl,?_⟩
     have:(⟨b,off,none⟩:Addr).add i=⟨b,off+i,none⟩:=by unfold Addr.add;split <;> simp_all
     rwa [this] at h2
   · cases hy
section
variable {H:Type} {enc:TypeId × Value→H} {w:World} {base:Nat} {spare:Nat→Bool} {held:Bool} {fuel:Nat} {x:DataW H × List MemPlace}
theorem trod_int1 {v:Value} (h:DataW.trod enc Tryz.prog w base spare held fuel 3 [v]=some x) : ∃ n:Int,v = .int .i64 n∧(Lit.int .i64 n).wf=true:=by
 obtain ⟨n,h1,_,h2⟩:=DataW.trod_int Tryz.underlying3 h
 simp only [List.cons.injEq,and_true] at h1
 exact ⟨n,h1,h2⟩
theorem trod_pt {c0 c1 c2:Value} (h:DataW.trod enc Tryz.prog w base spare held fuel 23 [c0,c1,c2]=some x) :
 ∃ a b c:Int,c0 = .int .i64 a∧c1 = .int .i64 b∧c2 = .int .i64 c:=by
 obtain ⟨y0,y1,y2,n,_,_,h0,h1,h2⟩:=Go.Deep.trod_struct3 Tryz.underlying23 h
 have h0:DataW.trod enc Tryz.prog w base spare held n 3 [c0]=some y0:=by simpa [cellsIntT] using h0
 have h1:DataW.trod enc Tryz.prog w base spare held n 3 [c1]=some y1:=by simpa [cellsIntT] using h1
 have h2:DataW.trod enc Tryz.prog w base spare held n 3 [c2]=some y2:=by simpa [cellsIntT] using h2
 obtain ⟨a,e0,_⟩:=trod_int1 h0
 obtain ⟨b,e1,_⟩:=trod_int1 h1
 obtain ⟨c,e2,_⟩:=trod_int1 h2
 exact ⟨a,b,c,e0,e1,e2⟩
theorem trod_box {c0 c1 c2 c3 c4 c5:Value} (h:DataW.trod enc Tryz.prog w base spare held fuel 25 [c0,c1,c2,c3,c4,c5]=some x) :
 ∃ a b c d e f:Int,c0 = .int .i64 a∧c1 = .int .i64 b∧c2 = .int .i64 c∧c3 = .int .i64 d∧c4 = .int .i64 e∧c5 = .int .i64 f:=by
 obtain ⟨y0,y1,n,_,_,h0,h1⟩:=trod_struct2 Tryz.underlying25 h
 have h0:DataW.trod enc Tryz.prog w base spare held n 23 [c0,c1,c2]=some y0:=by simpa [cellsPt] using h0
 have h1:DataW.trod enc Tryz.prog w base spare held n 23 [c3,c4,c5]=some y1:=by simpa [cellsPt] using h1
 obtain ⟨a,b,c,e0,e1,e2⟩:=trod_pt h0
 obtain ⟨d,e,f,e3,e4,e5⟩:=trod_pt h1
 exact ⟨a,b,c,d,e,f,e0,e1,e2,e3,e4,e5⟩
theorem trod_ints {v:Value} (h:DataW.trod enc Tryz.prog w base (fun _=>true) held fuel 26 [v]=some x) :
 ∃ ha hcp,∃ xs:List Int,v = .slice ha xs.length hcp∧Sl w .i64 ha xs∧xs.length≤hcp:=by
 rcases open_ints Tryz.underlying26 Tryz.underlying3 cellsIntT h with ⟨h1,_⟩ | ⟨a,len,cap,zs,h1,_,hl,hm,hz,_,hc,hw⟩
 · simp only [List.cons.injEq,and_true] at h1
   exact ⟨none,0,[],h1,Sl.nil _ _ _,by simp⟩
 · simp only [List.cons.injEq,and_true] at h1
   simp only [if_true] at hz
   obtain ⟨xs,e,hs⟩:=row_sl (k:=.i64) (w:=w) (a:=some a) (len:=len) (cap:=cap) (zs:=zs) (Or.inr ⟨a,rfl,hl,hm,hz,hc,hw⟩)
   exact ⟨some a,cap,xs,by rw [h1,e],hs,by omega⟩
theorem list7 {α:Type} {l:List α} (h:l.length=7) : ∃ a b c d e f g,l=[a,b,c,d,e,f,g]:=by
 match l,h with
 | [a,b,c,d,e,f,g],_=>exact ⟨a,b,c,d,e,f,g,rfl⟩
theorem list3 {α:Type} {l:List α} (h:l.length=3) : ∃ a b c,l=[a,b,c]:=by
 match l,h with
 | [a,b,c],_=>exact ⟨a,b,c,rfl⟩
set_option maxRecDepth 100000 in
theorem open_grid {r:Reach} {b0:Nat} {v:Value} {d:DataW H} {p:List MemPlace} (hv:Value.okWide Tryz.prog w r b0 28 v) (h:DataW.Trod enc Tryz.prog w base (fun _=>true) held 28 v d p) :
 ∃ (a b c d e f:Int) (ha:Option Addr) (hcp:Nat) (xs:List Int),v = .agg #[a,b,c,d,e,f,.slice ha xs.length hcp]∧Sl w .i64 ha xs∧xs.length≤hcp:=by
 obtain ⟨cs,rfl,hsz⟩:=okWide_struct Tryz.underlying28 hv
 obtain ⟨l⟩:=cs
 have hl:l.length=7:=by rw [cellsGrid] at hsz;exact hsz
 obtain ⟨c0,c1,c2,c3,c4,c5,c6,rfl⟩:=list7 hl
 obtain ⟨fuel,hf⟩:=h
 obtain ⟨y0,y1,n,_,_,h0,h1⟩:=trod_struct2 Tryz.underlying28 hf
 have h0:DataW.trod enc Tryz.prog w base (fun _=>true) held n 25 [c0,c1,c2,c3,c4,c5]=some y0:=by simpa [Value.cells,cellsBox] using h0
 have h1:DataW.trod enc Tryz.prog w base (fun _=>true) held n 26 [c6]=some y1:=by simpa [Value.cells,cellsInts] using h1
 obtain ⟨a,b,c,d,e,f,rfl,rfl,rfl,rfl,rfl,rfl⟩:=trod_box h0
 obtain ⟨ha,hcp,xs,rfl,hs,hc⟩:=trod_ints h1
 exact ⟨a,b,c,d,e,f,ha,hcp,xs,rfl,hs,hc⟩
set_option maxRecDepth 100000 in
theorem open_pt {r:Reach} {b0:Nat} {v:Value} {d:DataW H} {p:List MemPlace} (hv:Value.okWide Tryz.prog w r b0 23 v) (h:DataW.Trod enc Tryz.prog w base spare held 23 v d p) :
 ∃ a b c:Int,v = .agg #[a,b,c]:=by
 obtain ⟨cs,rfl,hsz⟩:=okWide_struct Tryz.underlying23 hv
 obtain ⟨l⟩:=cs
 have hl:l.length=3:=by rw [cellsPt] at hsz;exact hsz
 obtain ⟨c0,c1,c2,rfl⟩:=list3 hl
 obtain ⟨fuel,hf⟩:=h
 obtain ⟨a,b,c,rfl,rfl,rfl⟩:=trod_pt (by simpa [Value.cells] using hf)
 exact ⟨a,b,c,rfl⟩
end
end
end Go.Proofs.YtfcbajmjaifjlaaGreat
