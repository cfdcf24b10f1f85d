/- Mt1, Mt2, Mt3, Opn, Opt: joined by program, for one claim. -/
import Derived.Test.YtfcbajmjaifjlaaGreatM48
import Derived.Test.YtfcbajmjaifjlaaGreatM46
import Derived.Test.YtfcbajmjaifjlaaGreatM17
import Derived.Test.YtfcbajmjaifjlaaGreatM47
import Derived.Deep.MidRow
import Derived.Deep.WholeRow
import Derived.Test.YtfcbajmjaifjlaaGreatM18
import Derived.ProofKit
import Derived.OpenShut
import Derived.ChangeArms
import Derived.ChangeSlices
import Derived.WideShapes
import Derived.Deep.Strs
import Derived.Deep.Slices
import Derived.Deep.Fields
set_option linter.unusedVariables false
set_option linter.unusedSimpArgs false
namespace Go.Proofs.YtfcbajmjaifjlaaGreat
section
open Go.RowKit Go.Sort Go.Maps
open Oct
set_option maxRecDepth 100000 in
set_option maxHeartbeats 1000000 in
theorem mt_off (a b c d e f dd:Int) (ha la:Option Addr) (xl hcp m lc:Nat) (w:World)
 (hf : ∀ W,Below w.heap.size w W→Calls Tryz.prog 9 #[.agg #[a,b,c,d,e,f,.slice ha xl hcp],dd,.slice la m lc] W fun e' w'=>e' = .returned (.bool false)∧Below W.heap.size W w') :
 Calls Tryz.prog 3 #[.agg #[a,b,c,d,e,f,.slice ha xl hcp],dd,.slice la m lc] w fun e' w'=>e' = .returned (.bool true)∧Below w.heap.size w w':=by
 have HF:=Bx.mk hf
 clear hf
 go_enter Tryz.func3,Tryz.ntmps3
 go_upto_region 1 with fail
 generalize hW:World.alloc w _=W
 have hB:=bl1 hW
 have kg:Bk W w.heap.size #[a,b,c,d,e,f,.slice ha xl hcp] 28:=bk0 hW
 clear hW
 obtain ⟨c0,c1,c2,c3,c4,c5,c6⟩:=kg.c7
 have HQ:=Bx.mk (HF.out W hB)
 have HB:=Bx.mk hB
 clear kg hB HF
 go_wp2_with fail
 refine HQ.out.mono ?_
 rintro _ w2 ⟨rfl,hb2⟩
 have HB2:=Bx.mk (HB.out.trans (hb2.mono HB.out.size))
 clear hb2 HB HQ c0 c1 c2 c3 c4 c5 c6
 go_wp2_with fail
 refine (sanity10_true _).mono ?_
 rintro _ w3 ⟨rfl,hb3⟩
 have HB3:=Bx.mk (HB2.out.trans (hb3.mono HB2.out.size))
 clear hb3 HB2
 go_wp2_with fail
 go_ret
 exact ⟨rfl,HB3.out⟩
end
section
open Go.RowKit Go.Sort Go.Maps
open Oct
set_option maxRecDepth 100000 in
set_option maxHeartbeats 8000000 in
theorem mt_loop (a b c d e f:Int) (ha la:Option Addr) (hcp lc:Nat) (xs:List Int) (L:List Stp) (w:World) (hl:xs.length≤300) (hL:L.length≤8) (hsl:Sl w .i64 ha xs) (hse:SlS w la L) (n:Nat) (hn:n≤12) (HX:GoodG ⟨⟨a,b,c⟩,⟨d,e,f⟩⟩ xs hcp) (hE:fromE ⟨⟨a,b,c⟩,⟨d,e,f⟩⟩ xs ((n:Int)+2)=0) (hV:validG ⟨⟨a,b,c⟩,⟨d,e,f⟩⟩ xs=true) (hC:emptyB ⟨⟨a,b,c⟩,⟨d,e,f⟩⟩=true∨containsB ⟨⟨0,0,0⟩,⟨2 ^ (n+2),2 ^ (n+2),2 ^ (n+2)⟩⟩ ⟨⟨a,b,c⟩,⟨d,e,f⟩⟩=true) (hfew:L.all (fewS n)=true) :
 Calls Tryz.prog 3 #[.agg #[a,b,c,d,e,f,.slice ha xs.length hcp],.int .i64 ((n:Int)+2),.slice la L.length lc] w fun e' w'=>e' = .returned (.bool true)∧Below w.heap.size w w':=by
 have Hse:=Bx.mk hse
 have Hfw:=Bx.mk fun W h1 h2=>few10_yes a b c d e f ha hcp xs hl n hn hE la lc L hL W h1 h2
 rw [hfew] at Hfw
 have Hbu:=Bx.mk fun W h1=>built10_yes 1000000 a b c d e f ha hcp xs hl n hn HX hE hV hC (.inr (by have:=addn_few HX hn;omega)) W h1
 have Had:=Bx.mk fun W=>m_add n (cellG ⟨⟨a,b,c⟩,⟨d,e,f⟩⟩ xs) hn HX.range [] good_nil (Nat.le_trans (addn_few HX hn) (by omega)) W w.heap.size (.slice none 0 0)
 have Hln:=Bx.mk (addn_few HX hn)
 have Hfn:=Bx.mk (grid_fn HX hC)
 have Hsl:=Bx.mk hsl
 have Hn:=Bx.mk hn
 have Hall:=Bx.mk hfew
 clear hsl HX hV hC hE hn hse hfew
 generalize cellG ⟨⟨a,b,c⟩,⟨d,e,f⟩⟩ xs=F0 at *
 go_enter Tryz.func3,Tryz.ntmps3
 go_upto_region 1 with fail
 generalize hW:World.alloc w _=W
 have hB:=bl1 hW
 have kg:Bk W w.heap.size #[a,b,c,d,e,f,.slice ha xs.length hcp] 28:=bk0 hW
 clear hW
 obtain ⟨c0,c1,c2,c3,c4,c5,c6⟩:=kg.c7
 go_wp2_with fail
 refine (Hfw.out _ (Hsl.out.below hB) (Hse.out.below hB)).mono ?_
 rintro _ w2 ⟨rfl,hb2⟩
 replace hB:=hB.trans (hb2.mono hB.size)
 replace kg:=kg.later hb2
 clear hb2 c0 c1 c2 c3 c4 c5 c6 Hfw
 obtain ⟨c0,c1,c2,c3,c4,c5,c6⟩:=kg.c7
 go_wp2_with fail
 refine (Hbu.out _ (Hsl.out.below hB)).mono ?_
 rintro _ w5 ⟨sb,rfl,hS,hb5⟩
 obtain ⟨Far,hFa⟩ : ∃ Far:Nat→Prop,Far=fun k=>k<w2.heap.size:=⟨_,rfl⟩
 rw [←hFa] at hS
 have hlt:Bx (∀ j,Far j→j<w5.heap.size):=⟨fun j hj=>by rw [hFa] at hj;exact Nat.lt_of_lt_of_le hj hb5.size⟩
 have hlo:Bx (∀ j,j<w.heap.size→Far j):=⟨fun j hj=>by rw [hFa];exact Nat.lt_of_lt_of_le hj hB.size⟩
 replace hB:=hB.trans (hb5.mono hB.size)
 have hS:=Bx.mk hS
 clear hFa hb5 c0 c1 c2 c3 c4 c5 c6 kg Hbu
 go_wp2_with fail
 refine (Had.out _ hB.size (Ownv.nil _ _ _)).mono ?_
 rintro _ w6 ⟨v0,rfl,ho,hadd⟩
 have hm:Bx (MatI w Far sb 1000000 n F0 (addn n F0 []) [] (.slice none 0 0) w5):=⟨⟨hS.out,hlt.out,hlo.out,hB,addn_good Hn.out Hfn.out good_nil,addn_mem _ _ _,Hfn.out,Ownv.nil _ _ _,fun g hg=>by cases hg⟩⟩
 replace hm:=Bx.mk (hm.out.push hadd ho)
 obtain ⟨ac,cap,rfl,-⟩:=ho.form
 rw [encs_len] at hm ⊢
 have hle:Bx ((addn n F0 []).length≤3901):=Hln
 clear hS hB hlt hlo ho hadd Had Hsl Hln Hfn
 generalize (fun j=>Far j∨_)=Far1 at *
 generalize addn n F0 []=ts0 at *
 go_wp2_with fail
 go_loopw [8,9,11,38] (fun v8 v9 v11 v38 wr => ∃ (i:Nat) (Fr:Nat→Prop) (F:Pt→Int) (ts:List Tr),i≤L.length∧v8 = .int .i64 (idn ts n F)∧v9 = .string (txt n F)∧v38 = .int .i64 i∧Bx (MatI w Fr sb 1000000 n F ts ts v11 wr∧ts.length≤3901+52000 * i)) (fun _ _ _ i _=>L.length - (intOf i).toNat)
 case atStart=>exact ⟨0,_,_,_,Nat.zero_le _,rfl,rfl,rfl,⟨hm.out,hle.out⟩⟩
 case round =>
  clear hm hle
  obtain ⟨i,Fr,F,ts,hi,rfl,rfl,rfl,HI⟩:=hrel
  obtain ⟨ac2,cap2,rfl,-⟩:=HI.out.1.own.form
  rw [encs_len] at HI ⊢
  by_cases hlt:i<L.length
  · have t0:decide ((i:Int)<(L.length:Int))=true:=by simp;omega
    obtain ⟨s,hs⟩ : ∃ s,L[i]? = some s:=⟨_,List.getElem?_eq_getElem hlt⟩
    obtain ⟨bA,oA,rfl,hcell,hok⟩:=Hse.out i s hs
    have hfs:fewS n s=true:=List.all_eq_true.1 Hall.out s (List.mem_of_getElem? hs)
    have hfx:s.ys ≠ [] → ∀ b,s.ga.map (·.block)=some b→Fr b:=fun hy b hb=>by
     obtain ⟨x,r,hxr⟩:=List.exists_cons_of_ne_nil hy
     obtain ⟨b',off,h1,h2⟩:=hok.ys 0 x (by rw [hxr];rfl)
     rw [h1] at hb
     simp only [Option.map_some,Option.some.injEq] at hb
     rw [←hb];exact HI.out.1.old _ (World.block_lt_of_cell? w _ h2)
    have b1:(0:Int)≤(i:Int):=by omega
    have b2:(i:Int)<(L.length:Int):=by omega
    obtain ⟨AL,hA⟩ : ∃ AL,AL=s.arr.toList:=⟨_,rfl⟩
    have hAs:AL.length=24:=by rw [hA];rfl
    have hA1:Bx (AL.toArray.all (·.oneCell')=true):=⟨by rw [hA];simp [Value.oneCell']⟩
    have hi24:Bx ((Tryz.prog.info? 41).map (·.size)=some AL.length):=⟨by rw [hAs];kernel_rfl⟩
    have hi25:Bx ((Tryz.prog.info? 41).map (·.size)=some AL.toArray.size):=⟨by rw [List.size_toArray,hAs];kernel_rfl⟩
    have HR:Bx (wr.rangeAt bA (oA+i * 24) AL):=⟨fun j v hj=>cell_later HI.out.1.bel (hcell j v (by rw [hA] at hj;simpa using hj))⟩
    have hAr:s.arr=AL.toArray:=by rw [hA]
    have HA24:=Bx.mk hAs
    have hlen4:ts.length≤500000:=by have:=HI.out.2;omega
    have Hpl:=Bx.mk fun (W':World) (hb:Below w.heap.size w W') (Fr2:Nat→Prop) (h2 : ∀ k,Fr k→Fr2 k) hFar hSt=>play_any Hn.out F HI.out.1.fn s hfs sb 1000000 ts HI.out.1.good (by omega) HI.out.1.mem (fun F' h=>Nat.le_trans ((step_both Hn.out HI.out.1.fn hfs h).2 ts HI.out.1.good HI.out.1.mem) (by omega)) W' (hok.below hb) Fr2 (fun hy b hb'=>h2 _ (hfx hy b hb')) hFar hSt
    have Hlk:=Bx.mk fun (F':Pt→Int) (ts':List Tr) (hF:FnC n F') (hG:Good ts') (hm:trF n F'∈ts') (hl:ts'.length≤4194304) (Fr2:Nat→Prop) W' hSt=>(show Calls Tryz.prog 15 #[.pointer (some ⟨sb,0,none⟩),.int .i64 (idn ts' n F'),.string (txt n F')] W' fun e w'=>e = .returned (.bool true)∧Below W'.heap.size W' w' from like_any Fr2 sb 1000000 ts' hG hl (trF n F') (wf_can hF.range n _ (by have:=Hn.out;omega)) (enc_trF Hn.out hF.range) hm W' hSt)
    have Htl:=Bx.mk fun (W':World) (hb:Below w.heap.size w W')=>told_any Hn.out F HI.out.1.fn s hfs W' (hok.below hb)
    rw [hAr] at Hpl Htl
    have HFS:=Bx.mk hfs
    clear hA hAs hcell hok hfx hAr hs hfs
    go_upto_region 10 with (first
     | (refine wpList_load_mid rfl _ _ rfl bA (oA+i * 24) rfl AL _ HR.out Tryz.underlying41 rfl hi24.out ?_)
     | (refine wpList_store_whole rfl _ _ _ rfl wr.heap.size rfl _ AL.toArray rfl 41 (heap_alloc_new _ _) hi25.out (by rw [show AL.toArray.size=24 by simp [HA24.out]];rfl) hA1.out ?_))
    generalize hW:World.setRow (World.alloc wr _) _ _=W1
    have hB1:Below wr.heap.size wr W1:=by rw [←hW];exact below_setRow ((Below.refl _ _).alloc (Nat.le_refl _) _) (Nat.le_refl _) _
    have KS:=Bx.mk (show Bk W1 wr.heap.size AL.toArray 41 by rw [←hW];exact setRow_heap _ _ _ _ _ (0,0) (heap_alloc_new _ _))
    have HM:Bx (MatI w (fun k=>Fr k∨k=wr.heap.size) sb 1000000 n F ts ts (.slice ac2 ts.length cap2) W1):=⟨⟨(HI.out.1.st.widen (fun k hk=>hk.imp (fun h=>h) (fun (e:k=wr.heap.size)=>by omega))).later hB1,fun j hj=>(by
     rcases hj with hj | rfl
     · exact Nat.lt_of_lt_of_le (HI.out.1.far j hj) hB1.size
     · exact KS.out.lt),fun j hj=>.inl (HI.out.1.old j hj),HI.out.1.bel.trans (hB1.mono HI.out.1.bel.size),HI.out.1.good,HI.out.1.mem,HI.out.1.fn,HI.out.1.own.below hB1,fun g hg=>.inl (HI.out.1.row g hg)⟩⟩
    have HP:=Bx.mk (Hpl.out W1 HM.out.bel (fun k=>Fr k∨k=wr.heap.size) (fun k h=>.inl h) HM.out.far HM.out.st)
    clear hW hA1 HR HA24 Hpl hi24
    go_wp2_with (refine wpList_load_whole rfl _ _ rfl wr.heap.size rfl _ _ KS.out _ Tryz.underlying41 rfl hi25.out ?_)
    refine HP.out.mono ?_
    intro e2 W2 hpr
    cases hst:stepF n F s with
    | none =>
      obtain ⟨rfl,hb2⟩:=hpr.no hst
      have HM2:=Bx.mk (HM.out.later hb2)
      have KS2:=Bx.mk (KS.out.later hb2)
      have HT:=Bx.mk (Htl.out W2 HM2.out.bel)
      have Hst:=Bx.mk hst
      clear hpr hb2 HP HM KS Htl hst
      go_wp2_with (refine wpList_load_whole rfl _ _ rfl wr.heap.size rfl _ _ KS2.out _ Tryz.underlying41 rfl hi25.out ?_)
      refine HT.out.mono ?_
      intro e3 W3 htl
      obtain rfl:=htl.no Hst.out
      have HM3:=Bx.mk (HM2.out.later htl.bel)
      clear htl HM2 KS2 HT
      go_wp2_with fail
      refine (Hlk.out F ts HI.out.1.fn HI.out.1.good HI.out.1.mem (by omega) _ W3 HM3.out.st).mono ?_
      rintro _ W4 ⟨rfl,hb4⟩
      have HM4:=Bx.mk (HM3.out.later hb4)
      clear hb4 HM3
      have tl:((ts.length:Int) == (ts.length:Int))=true:=by simp
      go_wp2_with fail
      refine (len_any _ sb 1000000 ts W4 HM4.out.st).mono ?_
      rintro _ _ ⟨rfl,rfl⟩
      go_wp2_with fail
      have hl5:ts.length≤3901+52000 * (i+1):=Nat.le_trans HI.out.2 (Nat.add_le_add_left (Nat.mul_le_mul_left _ (Nat.le_succ i)) _)
      have HJ:=Bx.mk (And.intro HM4.out hl5)
      go_roundw
      case rel=>exact ⟨i+1,_,F,ts,by omega,rfl,rfl,by go_num,HJ⟩
      case measure=>simp [intOf];omega
    | some F' =>
      have hd:=hpr.yes F' hst
      have hsb:=step_both Hn.out HI.out.1.fn HFS.out hst
      have hlen':=hsb.2 ts HI.out.1.good HI.out.1.mem
      obtain ⟨rfl,hS3⟩:e2=ret2 (idn (addn n F' ts) n F') 0∧StoreIs W2 (fun k=>Fr k∨k=wr.heap.size) sb 1000000 (addn n F' ts):=by
       rcases hd.way with ⟨_,h2,h3⟩ | ⟨hn',_⟩
       · exact ⟨h2,h3⟩
       · exact absurd (.inr (by omega)) hn'
      have HM2:=Bx.mk (HM.out.made hd.keeps hS3 (addn_good Hn.out hsb.1 HI.out.1.good) (addn_mem n F' ts) hsb.1)
      have KS2:Bx (Bk W2 wr.heap.size AL.toArray 41):=⟨(hd.keeps.block _ (.inr rfl) KS.out.lt).trans KS.out⟩
      have HT:=Bx.mk (Htl.out W2 HM2.out.bel)
      have Hst:=Bx.mk hst
      have Had2:=Bx.mk fun W hB ho=>m_add n F' Hn.out hsb.1.range ts HI.out.1.good (by omega) W w.heap.size (.slice ac2 ts.length cap2) hB ho
      have hl5:(addn n F' ts).length≤3901+52000 * (i+1):=by
       refine Nat.le_trans hlen' (Nat.le_trans (Nat.add_le_add_right HI.out.2 _) ?_)
       rw [Nat.mul_add,Nat.mul_one,Nat.add_assoc]
       exact Nat.le_refl _
      have hl6:(addn n F' ts).length≤4194304:=Nat.le_trans hlen' (Nat.le_trans (Nat.add_le_add_right hlen4 _) (by decide))
      have HF':=Bx.mk hsb.1
      have Hl5:=Bx.mk hl5
      have Hl6:=Bx.mk hl6
      clear hpr hd hsb hlen' hS3 HP HM KS Htl hst hl5 hl6
      go_wp2_with (refine wpList_load_whole rfl _ _ rfl wr.heap.size rfl _ _ KS2.out _ Tryz.underlying41 rfl hi25.out ?_)
      refine HT.out.mono ?_
      intro e3 W3 htl
      obtain rfl:=htl.yes F' Hst.out
      have HM3:=Bx.mk (HM2.out.later htl.bel)
      clear htl HM2 KS2 HT
      go_wp2_with fail
      refine (Had2.out W3 HM3.out.bel.size HM3.out.own).mono ?_
      rintro _ W4 ⟨v',rfl,ho,hadd⟩
      have HM4:=Bx.mk (HM3.out.push hadd ho)
      obtain ⟨ac3,cap3,rfl,-⟩:=ho.form
      rw [encs_len] at HM4 ⊢
      clear ho hadd HM3 Had2
      go_wp2_with fail
      refine (Hlk.out F' (addn n F' ts) HF'.out HM4.out.good HM4.out.mem Hl6.out _ W4 HM4.out.st).mono ?_
      rintro _ W5 ⟨rfl,hb5⟩
      have HM5:=Bx.mk (HM4.out.later hb5)
      clear hb5 HM4
      have tl:(((addn n F' ts).length:Int) == ((addn n F' ts).length:Int))=true:=by simp
      go_wp2_with fail
      refine (len_any _ sb 1000000 _ W5 HM5.out.st).mono ?_
      rintro _ _ ⟨rfl,rfl⟩
      have HJ:=Bx.mk (And.intro HM5.out Hl5.out)
      go_wp2_with fail
      go_roundw
      case rel=>exact ⟨i+1,_,F',addn n F' ts,by omega,rfl,rfl,by go_num,HJ⟩
      case measure=>simp [intOf];omega
  · obtain rfl:i=L.length:=by omega
    have t0:decide ((L.length:Int)<(L.length:Int))=false:=by simp
    go_wp2_with fail
    refine (sanity10_true _).mono ?_
    rintro _ w9 ⟨rfl,hb9⟩
    have HB9:=Bx.mk (HI.out.1.bel.trans (hb9.mono HI.out.1.bel.size))
    clear hb9
    go_wp2_with fail
    go_ret
    exact ⟨rfl,HB9.out⟩
end
section
open Go.RowKit Go.Sort Go.Maps
open Oct
theorem tree_match_true (a b c d e f dd:Int) (ha la:Option Addr) (hcp lc:Nat) (xs:List Int) (L:List Stp) (hcap:xs.length≤hcp) (w:World) (hsl:Sl w .i64 ha xs) (hse:SlS w la L) :
 Calls Tryz.prog 3 #[.agg #[a,b,c,d,e,f,.slice ha xs.length hcp],dd,.slice la L.length lc] w fun e' w'=>e' = .returned (.bool true)∧Below w.heap.size w w':=by
 by_cases hfw:xs.length≤300∧L.length≤8∧fromE ⟨⟨a,b,c⟩,⟨d,e,f⟩⟩ xs dd=0
 · obtain ⟨h1,h2,hE⟩:=hfw
   obtain ⟨n,hn,rfl,hV,hC⟩:=fromE_zero hE
   have HX:=goodG_of hV h1 hcap
   cases hall:L.all (fewS n) with
   | true=>exact mt_loop a b c d e f ha la hcp lc xs L w h1 h2 hsl hse n hn HX hE hV hC hall
   | false =>
     refine mt_off a b c d e f _ ha la _ hcp _ lc w fun W hb=>?_
     have h:=few10_yes a b c d e f ha hcp xs h1 n hn hE la lc L h2 W (hsl.below hb) (hse.below hb)
     rw [hall] at h
     exact h
 · exact mt_off a b c d e f dd ha la _ hcp _ lc w fun W hb=>few10_no a b c d e f dd ha hcp xs la L.length lc hfw W (hsl.below hb)
end
section
open Go.RowKit Go.ChangeShapes Go.WideShapes
open Oct
theorem cellsPt : Tryz.prog.cellsOf 23=3:=by kernel_rfl
theorem cellsBox : Tryz.prog.cellsOf 25=6:=by kernel_rfl
theorem cellsGrid : Tryz.prog.cellsOf 28=7:=by kernel_rfl
theorem cellsIntT : Tryz.prog.cellsOf 3=1:=by kernel_rfl
theorem cellsInts : Tryz.prog.cellsOf 26=1:=by kernel_rfl
theorem row_sl {k:IntKind} {w:World} {a:Option Addr} {len cap:Nat} {zs:List Int}
 (h:(a=none∧len=0∧cap=0∧zs=[]) ∨ ∃ x,a=some x∧len≤cap∧cap≤maxLen∧zs.length=cap∧(∀ i,i<zs.length→w.cell? (x.add i)=some (.int k (zs.getD i 0))) ∧ ∀ n∈zs,(Lit.int k n).wf=true) :
 ∃ xs:List Int,len=xs.length∧Sl w k a xs:=by
 rcases h with ⟨rfl,rfl,rfl,rfl⟩ | ⟨x,rfl,hl,hm,hz,hc,hw⟩
 · exact ⟨[],rfl,Sl.nil _ _ _⟩
 · refine ⟨zs.take len,by simp;omega,fun i y hy=>?_⟩
   rw [List.getElem?_take] at hy
   split at hy
   · rename_i hi
     have h1:=hc i (by omega)
     have h2:w.cell? (x.add i)=some (.int k y):=by rw [h1];simp [List.getD,hy]
     obtain ⟨b,off,spot⟩:=x
     have hspot:spot=none:=by
      have h0:=hc 0 (by omega)
      simpa [Addr.add] using World.cell?_spot h0
     subst hspot
     refine ⟨b,off,rfl,?_⟩
     have:(⟨b,off,none⟩:Addr).add i=⟨b,off+i,none⟩:=by unfold Addr.add;split <;> simp_all
     rwa [this] at h2
   · cases hy
section
variable {H:Type} {enc:TypeId × Value→H} {w:World} {base:Nat} {spare:Nat→Bool} {held:Bool} {fuel:Nat} {x:DataW H × List MemPlace}
theorem trod_int1 {v:Value} (h:DataW.trod enc Tryz.prog w base spare held fuel 3 [v]=some x) : ∃ n:Int,v = .int .i64 n∧(Lit.int .i64 n).wf=true:=by
 obtain ⟨n,h1,_,h2⟩:=DataW.trod_int Tryz.underlying3 h
 simp only [List.cons.injEq,and_true] at h1
 exact ⟨n,h1,h2⟩
theorem trod_pt {c0 c1 c2:Value} (h:DataW.trod enc Tryz.prog w base spare held fuel 23 [c0,c1,c2]=some x) :
 ∃ a b c:Int,c0 = .int .i64 a∧c1 = .int .i64 b∧c2 = .int .i64 c:=by
 obtain ⟨y0,y1,y2,n,_,_,h0,h1,h2⟩:=Go.Deep.trod_struct3 Tryz.underlying23 h
 have h0:DataW.trod enc Tryz.prog w base spare held n 3 [c0]=some y0:=by simpa [cellsIntT] using h0
 have h1:DataW.trod enc Tryz.prog w base spare held n 3 [c1]=some y1:=by simpa [cellsIntT] using h1
 have h2:DataW.trod enc Tryz.prog w base spare held n 3 [c2]=some y2:=by simpa [cellsIntT] using h2
 obtain ⟨a,e0,_⟩:=trod_int1 h0
 obtain ⟨b,e1,_⟩:=trod_int1 h1
 obtain ⟨c,e2,_⟩:=trod_int1 h2
 exact ⟨a,b,c,e0,e1,e2⟩
theorem trod_box {c0 c1 c2 c3 c4 c5:Value} (h:DataW.trod enc Tryz.prog w base spare held fuel 25 [c0,c1,c2,c3,c4,c5]=some x) :
 ∃ a b c d e f:Int,c0 = .int .i64 a∧c1 = .int .i64 b∧c2 = .int .i64 c∧c3 = .int .i64 d∧c4 = .int .i64 e∧c5 = .int .i64 f:=by
 obtain ⟨y0,y1,n,_,_,h0,h1⟩:=trod_struct2 Tryz.underlying25 h
 have h0:DataW.trod enc Tryz.prog w base spare held n 23 [c0,c1,c2]=some y0:=by simpa [cellsPt] using h0
 have h1:DataW.trod enc Tryz.prog w base spare held n 23 [c3,c4,c5]=some y1:=by simpa [cellsPt] using h1
 obtain ⟨a,b,c,e0,e1,e2⟩:=trod_pt h0
 obtain ⟨d,e,f,e3,e4,e5⟩:=trod_pt h1
 exact ⟨a,b,c,d,e,f,e0,e1,e2,e3,e4,e5⟩
theorem trod_ints {v:Value} (h:DataW.trod enc Tryz.prog w base (fun _=>true) held fuel 26 [v]=some x) :
 ∃ ha hcp,∃ xs:List Int,v = .slice ha xs.length hcp∧Sl w .i64 ha xs∧xs.length≤hcp:=by
 rcases open_ints Tryz.underlying26 Tryz.underlying3 cellsIntT h with ⟨h1,_⟩ | ⟨a,len,cap,zs,h1,_,hl,hm,hz,_,hc,hw⟩
 · simp only [List.cons.injEq,and_true] at h1
   exact ⟨none,0,[],h1,Sl.nil _ _ _,by simp⟩
 · simp only [List.cons.injEq,and_true] at h1
   simp only [if_true] at hz
   obtain ⟨xs,e,hs⟩:=row_sl (k:=.i64) (w:=w) (a:=some a) (len:=len) (cap:=cap) (zs:=zs) (Or.inr ⟨a,rfl,hl,hm,hz,hc,hw⟩)
   exact ⟨some a,cap,xs,by rw [h1,e],hs,by omega⟩
theorem list7 {α:Type} {l:List α} (h:l.length=7) : ∃ a b c d e f g,l=[a,b,c,d,e,f,g]:=by
 match l,h with
 | [a,b,c,d,e,f,g],_=>exact ⟨a,b,c,d,e,f,g,rfl⟩
set_option maxRecDepth 100000 in
theorem open_grid {r:Reach} {b0:Nat} {v:Value} {d:DataW H} {p:List MemPlace} (hv:Value.okWide Tryz.prog w r b0 28 v) (h:DataW.Trod enc Tryz.prog w base (fun _=>true) held 28 v d p) :
 ∃ (a b c d e f:Int) (ha:Option Addr) (hcp:Nat) (xs:List Int),v = .agg #[a,b,c,d,e,f,.slice ha xs.length hcp]∧Sl w .i64 ha xs∧xs.length≤hcp:=by
 obtain ⟨cs,rfl,hsz⟩:=okWide_struct Tryz.underlying28 hv
 obtain ⟨l⟩:=cs
 have hl:l.length=7:=by rw [cellsGrid] at hsz;exact hsz
 obtain ⟨c0,c1,c2,c3,c4,c5,c6,rfl⟩:=list7 hl
 obtain ⟨fuel,hf⟩:=h
 obtain ⟨y0,y1,n,_,_,h0,h1⟩:=trod_struct2 Tryz.underlying28 hf
 have h0:DataW.trod enc Tryz.prog w base (fun _=>true) held n 25 [c0,c1,c2,c3,c4,c5]=some y0:=by simpa [Value.cells,cellsBox] using h0
 have h1:DataW.trod enc Tryz.prog w base (fun _=>true) held n 26 [c6]=some y1:=by simpa [Value.cells,cellsInts] using h1
 obtain ⟨a,b,c,d,e,f,rfl,rfl,rfl,rfl,rfl,rfl⟩:=trod_box h0
 obtain ⟨ha,hcp,xs,rfl,hs,hc⟩:=trod_ints h1
 exact ⟨a,b,c,d,e,f,ha,hcp,xs,rfl,hs,hc⟩
end
end
section
open Go.RowKit Go.ChangeShapes Go.WideShapes
open Oct
theorem cellsChg : Tryz.prog.cellsOf 96=5:=by kernel_rfl
theorem cellsChgs : Tryz.prog.cellsOf 37=1:=by kernel_rfl
theorem cellsCub : Tryz.prog.cellsOf 39=4:=by kernel_rfl
theorem cellsStp : Tryz.prog.cellsOf 41=24:=by kernel_rfl
theorem list5 {α:Type} {l:List α} (h:l.length=5) : ∃ a b c d e,l=[a,b,c,d,e]:=by
 match l,h with
 | [a,b,c,d,e],_=>exact ⟨a,b,c,d,e,rfl⟩
theorem list6 {α:Type} {l:List α} (h:l.length=6) : ∃ a b c d e f,l=[a,b,c,d,e,f]:=by
 match l,h with
 | [a,b,c,d,e,f],_=>exact ⟨a,b,c,d,e,f,rfl⟩
theorem list24 {α:Type} {l:List α} (h:l.length=24) : ∃ a0 a1 a2 a3 a4 a5 a6 a7 a8 a9 a10 a11 a12 a13 a14 a15 a16 a17 a18 a19 a20 a21 a22 a23,l=[a0,a1,a2,a3,a4,a5,a6,a7,a8,a9,a10,a11,a12,a13,a14,a15,a16,a17,a18,a19,a20,a21,a22,a23]:=by
 obtain ⟨a0,a1,a2,a3,a4,a5,e0⟩:=list6 (l:=l.take 6) (by simp;omega)
 obtain ⟨b0,b1,b2,b3,b4,b5,e1⟩:=list6 (l:=(l.drop 6).take 6) (by simp;omega)
 obtain ⟨c0,c1,c2,c3,c4,c5,e2⟩:=list6 (l:=(l.drop 12).take 6) (by simp;omega)
 obtain ⟨d0,d1,d2,d3,d4,d5,e3⟩:=list6 (l:=l.drop 18) (by simp;omega)
 have h0:l=l.take 6++((l.drop 6).take 6++((l.drop 12).take 6++l.drop 18)):=by
  rw [show l.drop 18=(l.drop 12).drop 6 from by rw [List.drop_drop],List.take_append_drop,show l.drop 12=(l.drop 6).drop 6 from by rw [List.drop_drop],List.take_append_drop,List.take_append_drop]
 rw [e0,e1,e2,e3] at h0
 exact ⟨a0,a1,a2,a3,a4,a5,b0,b1,b2,b3,b4,b5,c0,c1,c2,c3,c4,c5,d0,d1,d2,d3,d4,d5,h0⟩
section
variable {H:Type} {enc:TypeId × Value→H} {w:World} {base:Nat} {held:Bool}
theorem open_rows {S:Type} {t e:TypeId} {k:Nat} (f:S→List Value) (Pk:S→Prop) (ht : Tryz.prog.underlying t=some (.slice e)) (hk : Tryz.prog.cellsOf e=k) (hpos:0<k) (s0:S)
 (R : ∀ {n:Nat} {cs:List Value} {y:DataW H × List MemPlace},cs.length=k→DataW.trod enc Tryz.prog w base (fun _=>true) held n e cs=some y → ∃ s:S,cs=f s∧Pk s)
 {fuel:Nat} {x:DataW H × List MemPlace} {v:Value} (h:DataW.trod enc Tryz.prog w base (fun _=>true) held fuel t [v]=some x) :
 ∃ ha hcp,∃ L:List S,v = .slice ha L.length hcp∧L.length≤hcp ∧ ∀ (i:Nat) (s:S),L[i]? = some s → ∃ b off,ha=some ⟨b,off,none⟩∧(∀ j u,(f s)[j]? = some u→w.cell? ⟨b,off+i * k+j,none⟩=some u)∧Pk s:=by
 rcases Go.Deep.open_slice ht h with ⟨h1,_⟩ | ⟨a,len,cap,m,n,D,Pl,h1,_,hl,_,hm,_,hi⟩
 · simp only [List.cons.injEq,and_true] at h1
   exact ⟨none,0,[],h1,Nat.le_refl _,fun i s h=>by simp at h⟩
 · simp only [List.cons.injEq,and_true] at h1
   simp only [if_true] at hm
   subst hm
   have key : ∀ i,i<len → ∃ s:S,(f s).length=k∧(∀ j u,(f s)[j]? = some u→w.cell? (a.add (i * k+j))=some u)∧Pk s:=by
    intro i hil
    obtain ⟨cs,hcs,ht'⟩:=hi i (by omega)
    rw [hk] at hcs
    obtain ⟨_,hlen,hat⟩:=World.cells?_some hcs
    obtain ⟨s,rfl,hP⟩:=R hlen ht'
    refine ⟨s,hlen,fun j u hu=>?_,hP⟩
    have hj:=(List.getElem?_eq_some_iff.1 hu).1
    have:=hat j (by omega)
    rw [Go.Deep.add_add] at this
    rw [this]
    simpa [List.getD] using hu
   have hf : ∃ g:Nat→S,∀ i,i<len→(f (g i)).length=k∧(∀ j u,(f (g i))[j]? = some u→w.cell? (a.add (i * k+j))=some u)∧Pk (g i) :=
    ⟨fun i=>if h:i<len then (key i h).choose else s0,fun i h=>by simp only [dif_pos h];exact (key i h).choose_spec⟩
   obtain ⟨g,hf⟩:=hf
   refine ⟨some a,m,(List.range len).map g,by simpa using h1,by simpa using hl,fun i s he=>?_⟩
   rw [List.getElem?_map] at he
   have hil:i<len:=by
    rcases Nat.lt_or_ge i len with h | h
    · exact h
    · rw [List.getElem?_eq_none (by simpa using h)] at he;cases he
   rw [List.getElem?_range hil] at he
   simp only [Option.map_some,Option.some.injEq] at he
   subst he
   obtain ⟨hlen,hc,hP⟩:=hf i hil
   obtain ⟨b,off,spot⟩:=a
   have hspot:spot=none:=by
    obtain ⟨hlen0,hc0,-⟩:=hf 0 (by omega)
    have h0:=hc0 0 _ (List.getElem?_eq_getElem (by omega))
    have h1:=World.cell?_spot h0
    rw [Nat.zero_mul] at h1
    exact h1
   subst hspot
   have ha : ∀ j,(⟨b,off,none⟩:Addr).add j=⟨b,off+j,none⟩:=fun j=>by unfold Addr.add;split <;> simp_all
   refine ⟨b,off,rfl,fun j u hu=>?_,hP⟩
   have:=hc j u hu
   rw [ha] at this
   rw [Nat.add_assoc]
   exact this
set_option maxRecDepth 100000 in
theorem trod_chgs {fuel:Nat} {x:DataW H × List MemPlace} {v:Value} (h:DataW.trod enc Tryz.prog w base (fun _=>true) held fuel 37 [v]=some x) :
 ∃ ha hcp,∃ cs:List Chg,v = .slice ha cs.length hcp∧SlC w ha cs∧cs.length≤hcp:=by
 obtain ⟨ha,hcp,L,e1,e2,e3⟩:=open_rows (S:=Chg) Chg.cells (fun _=>True) Tryz.underlying37 cellsChg (by omega) ⟨0,0,0,0,0⟩ (by
  intro n cs y hl hy
  obtain ⟨c0,c1,c2,c3,c4,rfl⟩:=list5 hl
  obtain ⟨y0,y1,y2,m,_,_,h0,h1,h2⟩:=Go.Deep.trod_struct3 Tryz.underlying96 hy
  have h0:DataW.trod enc Tryz.prog w base (fun _=>true) held m 23 [c0,c1,c2]=some y0:=by simpa [cellsPt] using h0
  have h1:DataW.trod enc Tryz.prog w base (fun _=>true) held m 3 [c3]=some y1:=by simpa [cellsIntT] using h1
  have h2:DataW.trod enc Tryz.prog w base (fun _=>true) held m 3 [c4]=some y2:=by simpa [cellsIntT] using h2
  obtain ⟨a,b,c,rfl,rfl,rfl⟩:=trod_pt h0
  obtain ⟨d,rfl,_⟩:=trod_int1 h1
  obtain ⟨e,rfl,_⟩:=trod_int1 h2
  exact ⟨⟨a,b,c,d,e⟩,rfl,trivial⟩) h
 refine ⟨ha,hcp,L,e1,fun i c hc=>?_,e2⟩
 obtain ⟨b,off,rfl,hj,_⟩:=e3 i c hc
 exact ⟨b,off,rfl,hj 0 _ rfl,hj 1 _ rfl,hj 2 _ rfl,hj 3 _ rfl,hj 4 _ rfl⟩
set_option maxRecDepth 100000 in
theorem trod_cube {spare:Nat→Bool} {fuel:Nat} {x:DataW H × List MemPlace} {c0 c1 c2 c3:Value} (h:DataW.trod enc Tryz.prog w base spare held fuel 39 [c0,c1,c2,c3]=some x) :
 ∃ a b c d:Int,c0 = .int .i64 a∧c1 = .int .i64 b∧c2 = .int .i64 c∧c3 = .int .i64 d:=by
 obtain ⟨y0,y1,n,_,_,h0,h1⟩:=trod_struct2 Tryz.underlying39 h
 have h0:DataW.trod enc Tryz.prog w base spare held n 23 [c0,c1,c2]=some y0:=by simpa [cellsPt] using h0
 have h1:DataW.trod enc Tryz.prog w base spare held n 3 [c3]=some y1:=by simpa [cellsIntT] using h1
 obtain ⟨a,b,c,e0,e1,e2⟩:=trod_pt h0
 obtain ⟨d,e3,_⟩:=trod_int1 h1
 exact ⟨a,b,c,d,e0,e1,e2,e3⟩
set_option maxRecDepth 100000 in
theorem trod_gridc {fuel:Nat} {x:DataW H × List MemPlace} {c0 c1 c2 c3 c4 c5 c6:Value} (h:DataW.trod enc Tryz.prog w base (fun _=>true) held fuel 28 [c0,c1,c2,c3,c4,c5,c6]=some x) :
 ∃ (a b c d e f:Int) (ha:Option Addr) (hcp:Nat) (xs:List Int),[c0,c1,c2,c3,c4,c5,c6]=[.int .i64 a,.int .i64 b,.int .i64 c,.int .i64 d,.int .i64 e,.int .i64 f,.slice ha xs.length hcp]∧Sl w .i64 ha xs∧xs.length≤hcp:=by
 obtain ⟨y0,y1,n,_,_,h0,h1⟩:=trod_struct2 Tryz.underlying28 h
 have h0:DataW.trod enc Tryz.prog w base (fun _=>true) held n 25 [c0,c1,c2,c3,c4,c5]=some y0:=by simpa [cellsBox] using h0
 have h1:DataW.trod enc Tryz.prog w base (fun _=>true) held n 26 [c6]=some y1:=by simpa [cellsInts] using h1
 obtain ⟨a,b,c,d,e,f,rfl,rfl,rfl,rfl,rfl,rfl⟩:=trod_box h0
 obtain ⟨ha,hcp,xs,rfl,hs,hc⟩:=trod_ints h1
 exact ⟨a,b,c,d,e,f,ha,hcp,xs,rfl,hs,hc⟩
theorem trod_struct7 {P:Program} {spare:Nat→Bool} {t:TypeId} {f0 f1 f2 f3 f4 f5 f6:Field} {fuel:Nat} {cs:List Value} {x:DataW H × List MemPlace} (ht:P.underlying t=some (.struct #[f0,f1,f2,f3,f4,f5,f6])) (h:DataW.trod enc P w base spare held fuel t cs=some x) :
 ∃ y0 y1 y2 y3 y4 y5 y6 n, DataW.trod enc P w base spare held n f0.type ((cs.drop f0.offset).take (P.cellsOf f0.type)) = some y0 ∧ DataW.trod enc P w base spare held n f1.type ((cs.drop f1.offset).take (P.cellsOf f1.type)) = some y1 ∧
   DataW.trod enc P w base spare held n f2.type ((cs.drop f2.offset).take (P.cellsOf f2.type))=some y2∧DataW.trod enc P w base spare held n f3.type ((cs.drop f3.offset).take (P.cellsOf f3.type))=some y3 ∧
   DataW.trod enc P w base spare held n f4.type ((cs.drop f4.offset).take (P.cellsOf f4.type))=some y4∧DataW.trod enc P w base spare held n f5.type ((cs.drop f5.offset).take (P.cellsOf f5.type))=some y5 ∧
   DataW.trod enc P w base spare held n f6.type ((cs.drop f6.offset).take (P.cellsOf f6.type))=some y6:=by
 obtain ⟨xs,n,_,rfl,hl,hlen,hf⟩:=DataW.trod_struct ht h
 match xs,hlen with
 | [y0,y1,y2,y3,y4,y5,y6],_=>exact ⟨y0,y1,y2,y3,y4,y5,y6,n,by simpa using hf 0 f0 rfl,by simpa using hf 1 f1 rfl,by simpa using hf 2 f2 rfl,by simpa using hf 3 f3 rfl,by simpa using hf 4 f4 rfl,by simpa using hf 5 f5 rfl,by simpa using hf 6 f6 rfl⟩
set_option maxRecDepth 100000 in
set_option maxHeartbeats 1000000 in
theorem trod_stp {fuel:Nat} {x:DataW H × List MemPlace} {cs:List Value} (hl:cs.length=24) (h:DataW.trod enc Tryz.prog w base (fun _=>true) held fuel 41 cs=some x) :
 ∃ s:Stp,cs=s.arr.toList∧StpOk w s:=by
 obtain ⟨a0,a1,a2,a3,a4,a5,a6,a7,a8,a9,a10,a11,a12,a13,a14,a15,a16,a17,a18,a19,a20,a21,a22,a23,rfl⟩:=list24 hl
 obtain ⟨y0,y1,y2,y3,y4,y5,y6,n,h0,h1,h2,h3,h4,h5,h6⟩:=trod_struct7 Tryz.underlying41 h
 have h0:DataW.trod enc Tryz.prog w base (fun _=>true) held n 3 [a0]=some y0:=by simpa [cellsIntT] using h0
 have h1:DataW.trod enc Tryz.prog w base (fun _=>true) held n 25 [a1,a2,a3,a4,a5,a6]=some y1:=by simpa [cellsBox] using h1
 have h2:DataW.trod enc Tryz.prog w base (fun _=>true) held n 3 [a7]=some y2:=by simpa [cellsIntT] using h2
 have h3:DataW.trod enc Tryz.prog w base (fun _=>true) held n 28 [a8,a9,a10,a11,a12,a13,a14]=some y3:=by simpa [cellsGrid] using h3
 have h4:DataW.trod enc Tryz.prog w base (fun _=>true) held n 37 [a15]=some y4:=by simpa [cellsChgs] using h4
 have h5:DataW.trod enc Tryz.prog w base (fun _=>true) held n 39 [a16,a17,a18,a19]=some y5:=by simpa [cellsCub] using h5
 have h6:DataW.trod enc Tryz.prog w base (fun _=>true) held n 39 [a20,a21,a22,a23]=some y6:=by simpa [cellsCub] using h6
 obtain ⟨kd,rfl,_⟩:=trod_int1 h0
 obtain ⟨b0,b1,b2,b3,b4,b5,rfl,rfl,rfl,rfl,rfl,rfl⟩:=trod_box h1
 obtain ⟨cell,rfl,_⟩:=trod_int1 h2
 obtain ⟨g0,g1,g2,g3,g4,g5,ga,gc,ys,e3,hys,hgc⟩:=trod_gridc h3
 obtain ⟨la,lc,chs,rfl,hcs,hlc⟩:=trod_chgs h4
 obtain ⟨p0,p1,p2,p3,rfl,rfl,rfl,rfl⟩:=trod_cube h5
 obtain ⟨q0,q1,q2,q3,rfl,rfl,rfl,rfl⟩:=trod_cube h6
 simp only [List.cons.injEq,and_true] at e3
 obtain ⟨rfl,rfl,rfl,rfl,rfl,rfl,rfl⟩:=e3
 exact ⟨⟨kd,⟨⟨b0,b1,b2⟩,⟨b3,b4,b5⟩⟩,cell,⟨⟨g0,g1,g2⟩,⟨g3,g4,g5⟩⟩,ga,ys,gc,la,chs,lc,⟨p0,p1,p2⟩,p3,⟨q0,q1,q2⟩,q3⟩,rfl,⟨hys,hgc,hcs,hlc⟩⟩
set_option maxRecDepth 100000 in
theorem open_stps {r:Reach} {b0:Nat} {v:Value} {d:DataW H} {p:List MemPlace} (hv:Value.okWide Tryz.prog w r b0 29 v) (h:DataW.Trod enc Tryz.prog w base (fun _=>true) held 29 v d p) :
 ∃ ha hcp,∃ L:List Stp,v = .slice ha L.length hcp∧SlS w ha L∧L.length≤hcp:=by
 obtain ⟨a,n,cap,rfl⟩:=okWide_slice Tryz.underlying29 hv
 obtain ⟨fuel,hf⟩:=h
 obtain ⟨ha,hcp,L,e1,e2,e3⟩:=open_rows (S:=Stp) (fun s=>s.arr.toList) (StpOk w) Tryz.underlying29 cellsStp (by omega) ⟨0,⟨⟨0,0,0⟩,⟨0,0,0⟩⟩,0,⟨⟨0,0,0⟩,⟨0,0,0⟩⟩,none,[],0,none,[],0,⟨0,0,0⟩,0,⟨0,0,0⟩,0⟩ (fun hl hy=>trod_stp hl hy) (by simpa [Value.cells] using hf)
 refine ⟨ha,hcp,L,e1,fun i s hs=>?_,e2⟩
 obtain ⟨b,off,rfl,hj,ho⟩:=e3 i s hs
 exact ⟨b,off,rfl,fun j v hv=>hj j v (by simpa using hv),ho⟩
end
end
end Go.Proofs.YtfcbajmjaifjlaaGreat
