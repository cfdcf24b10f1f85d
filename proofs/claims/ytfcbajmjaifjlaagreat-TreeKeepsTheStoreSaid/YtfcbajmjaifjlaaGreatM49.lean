/- Kt1, Kt2, Opn, Opt: joined by program, for one claim. -/
import Derived.Test.YtfcbajmjaifjlaaGreatM48
import Derived.Test.YtfcbajmjaifjlaaGreatM46
import Derived.Test.YtfcbajmjaifjlaaGreatM17
import Derived.Test.YtfcbajmjaifjlaaGreatM47
import Derived.Deep.MidRow
import Derived.Deep.WholeRow
import Derived.Great.BuildSlice
import Derived.Test.YtfcbajmjaifjlaaGreatM18
import Derived.ProofKit
import Derived.OpenShut
import Derived.ChangeArms
import Derived.ChangeSlices
import Derived.WideShapes
import Derived.Deep.Strs
import Derived.Deep.Slices
import Derived.Deep.Fields
set_option linter.unusedVariables false
set_option linter.unusedSimpArgs false
namespace Go.Proofs.YtfcbajmjaifjlaaGreat
section
open Go.RowKit Go.Sort Go.Maps
open Oct
theorem fill_one {AL:List Value} {k:Nat} (hk:0<k) (hl:AL.length=k) (cells:Array Value) (hc:cells.size=k):Instr.fill (fun i=>some (i * k,k)) cells [(0,.agg AL.toArray)]=some AL.toArray:=by
 obtain ⟨r,h1,h2,h3⟩:=Go.Great.fill_dense hk [.agg AL.toArray] 0 cells (fun v hv=>by
  rw [List.mem_singleton] at hv
  subst hv
  show AL.toArray.size=k
  simpa using hl) (by simp;omega)
 have e:(([.agg AL.toArray]:List Value).zipIdx 0).map (fun x=>(x.2,x.1))=[(0,.agg AL.toArray)]:=rfl
 rw [e] at h1
 rw [h1]
 congr 1
 apply Array.ext_getElem?
 intro j
 rw [h3 j]
 rcases Nat.lt_or_ge j k with h | h
 · rw [if_pos (by simp;omega)]
   have hd:j / k - 0=0:=by rw [Nat.div_eq_of_lt h]
   rw [hd,Nat.mod_eq_of_lt h]
   rfl
 · rw [if_neg (by simp;omega),Array.getElem?_eq_none (by omega),Array.getElem?_eq_none (by simp;omega)]
theorem wpList_buildOne {P:Program} {ops:Array Oper} {rest:List Oper} {o:Oper} {a:Act} {w:World} {Q:Exit→Act→World→Prop} (hg:o.guard=none) (t e:TypeId) (x:Operand) (ho:o.op = .buildSlice t 1 #[(0,x)]) (AL:List Value) (hx:a.eval x = .agg AL.toArray)
 (hu:P.underlying t=some (.slice e)) (hi:(P.info? e).map (·.size)=some AL.length) (hz:((P.info? e).bind (·.zero)).isSome=true) (hpos:0<AL.length) (hsm:AL.length≤1000)
 (h:wpList P ops Q rest (a.put o.dst (.slice (some ⟨w.heap.size,0,none⟩) 1 1)) (w.alloc (.cells AL.toArray e))):wpList P ops Q (o::rest) a w:=by
 cases hie:P.info? e with
 | none=>simp [hie] at hi
 | some ie =>
   simp only [hie,Option.map_some,Option.some.injEq,Option.bind_some] at hi hz
   obtain ⟨z,hzz⟩:=Option.isSome_iff_exists.1 hz
   refine wpList_buildSlice hg t e 1 _ ho _ ie z hu hie hzz (by rw [hi];omega) (by rw [hi];omega) ?_ h
   have hp:(#[((0:Nat),x)].map fun (i,x)=>(i,a.eval x)).toList=[((0:Nat),Value.agg AL.toArray)]:=by simp [hx]
   rw [hp,hi]
   exact fill_one hpos rfl _ (by simp)
theorem sls_one {w:World} {blk:Nat} {s:Stp} (hk:Bk w blk s.arr 41) (hok:StpOk w s):SlS w (some ⟨blk,0,none⟩) [s]:=by
 intro i x hx
 match i with
 | 0 =>
   obtain rfl:s=x:=by simpa using hx
   refine ⟨blk,0,rfl,fun j v hj=>?_,hok⟩
   have:=hk.cell j hj
   simpa using this
 | i+1=>simp at hx
set_option maxRecDepth 100000 in
set_option maxHeartbeats 2000000 in
theorem kt_off (a b c d e f dd room:Int) (ha:Option Addr) (xl hcp:Nat) (s:Stp) (w:World) (hok:StpOk w s)
 (hf : ∀ W la,Below w.heap.size w W→SlS W la [s]→Calls Tryz.prog 9 #[.agg #[a,b,c,d,e,f,.slice ha xl hcp],dd,.slice la 1 1] W fun e' w'=>e' = .returned (.bool false)∧Below W.heap.size W w') :
 Calls Tryz.prog 6 #[.agg #[a,b,c,d,e,f,.slice ha xl hcp],dd,.agg s.arr,.int .u8 room] w fun e' w'=>e' = .returned (.bool true)∧Below w.heap.size w w':=by
 have HF:=Bx.mk hf
 have HOK:=Bx.mk hok
 have hz24:Bx (((Tryz.prog.info? 41).bind (·.zero)).isSome=true):=⟨by kernel_rfl⟩
 clear hf hok
 go_enter Tryz.func6,Tryz.ntmps6
 go_upto_region 1 with fail
 generalize hW:World.alloc (World.alloc w _) _=W
 have hB:=bl2 hW
 have kg:Bk W w.heap.size #[a,b,c,d,e,f,.slice ha xl hcp] 28:=bk1 hW
 have kx:Bk W (w.heap.size+1) s.arr 41:=bk0 hW
 clear hW
 obtain ⟨AL,hA⟩ : ∃ AL,AL=s.arr.toList:=⟨_,rfl⟩
 have hAs:AL.length=24:=by rw [hA];rfl
 have hi24:Bx ((Tryz.prog.info? 41).map (·.size)=some AL.length):=⟨by rw [hAs];kernel_rfl⟩
 have hi25:Bx ((Tryz.prog.info? 41).map (·.size)=some AL.toArray.size):=⟨by rw [List.size_toArray,hAs];kernel_rfl⟩
 have hAr:s.arr=AL.toArray:=by rw [hA]
 rw [hAr] at kx
 have HA:=Bx.mk hAr
 have HL:=Bx.mk hAs
 clear hA hAs hAr
 have KX:=Bx.mk kx
 obtain ⟨c0,c1,c2,c3,c4,c5,c6⟩:=kg.c7
 have HB:=Bx.mk hB
 clear kg hB kx
 go_wp2_with (first
  | (refine wpList_load_whole rfl _ _ rfl (w.heap.size+1) rfl _ _ KX.out _ Tryz.underlying41 rfl hi25.out ?_)
  | (refine wpList_buildOne rfl _ 41 _ rfl AL rfl Tryz.underlying29 hi24.out hz24.out (by rw [HL.out];decide) (by rw [HL.out];decide) ?_))
 have hb1:Below W.heap.size W (W.alloc (.cells AL.toArray 41)):=(Below.refl _ _).alloc (Nat.le_refl _) _
 have HB1:=Bx.mk (HB.out.trans (hb1.mono HB.out.size))
 refine (HF.out _ _ HB1.out (sls_one (by rw [HA.out];exact blk_new _ _ _ rfl) (HOK.out.below HB1.out))).mono ?_
 rintro _ w2 ⟨rfl,hb2⟩
 have HB2:=Bx.mk (HB1.out.trans (hb2.mono HB1.out.size))
 clear hb1 hb2 HB HB1 HF c0 c1 c2 c3 c4 c5 c6 KX
 go_wp2_with fail
 refine (sanity10_true _).mono ?_
 rintro _ w3 ⟨rfl,hb3⟩
 have HB3:=Bx.mk (HB2.out.trans (hb3.mono HB2.out.size))
 clear hb3 HB2
 go_wp2_with fail
 go_ret
 exact ⟨rfl,HB3.out⟩
end
section
open Go.RowKit Go.Sort Go.Maps
open Oct
set_option maxRecDepth 100000 in
set_option maxHeartbeats 8000000 in
theorem kt_on (a b c d e f room:Int) (hr0:0≤room) (hr1:room≤255) (ha:Option Addr) (hcp:Nat) (xs:List Int) (s:Stp) (w:World) (hl:xs.length≤300) (hsl:Sl w .i64 ha xs) (hok:StpOk w s) (n:Nat) (hn:n≤12) (HX:GoodG ⟨⟨a,b,c⟩,⟨d,e,f⟩⟩ xs hcp) (hE:fromE ⟨⟨a,b,c⟩,⟨d,e,f⟩⟩ xs ((n:Int)+2)=0) (hV:validG ⟨⟨a,b,c⟩,⟨d,e,f⟩⟩ xs=true) (hC:emptyB ⟨⟨a,b,c⟩,⟨d,e,f⟩⟩=true∨containsB ⟨⟨0,0,0⟩,⟨2 ^ (n+2),2 ^ (n+2),2 ^ (n+2)⟩⟩ ⟨⟨a,b,c⟩,⟨d,e,f⟩⟩=true) (hfs:fewS n s=true) :
 Calls Tryz.prog 6 #[.agg #[a,b,c,d,e,f,.slice ha xs.length hcp],.int .i64 ((n:Int)+2),.agg s.arr,.int .u8 room] w fun e' w'=>e' = .returned (.bool true)∧Below w.heap.size w w':=by
 have Hok:=Bx.mk hok
 have Hfw:=Bx.mk fun W la h1 h2=>few10_yes a b c d e f ha hcp xs hl n hn hE la 1 [s] (by simp) W h1 h2
 rw [show [s].all (fewS n)=true from by simp [hfs]] at Hfw
 have Hrf:=Bx.mk fun W h1=>m_ref_yes a b c d e f ha hcp xs hl n hn HX hE W h1
 have Hbu:=Bx.mk fun most h W h1=>built10_yes most a b c d e f ha hcp xs hl n hn HX hE hV hC h W h1
 have Had:=Bx.mk fun W=>m_add n (cellG ⟨⟨a,b,c⟩,⟨d,e,f⟩⟩ xs) hn HX.range [] good_nil (Nat.le_trans (addn_few HX hn) (by omega)) W w.heap.size (.slice none 0 0)
 have Hln:=Bx.mk (addn_few HX hn)
 have Hfn:=Bx.mk (grid_fn HX hC)
 have Hsl:=Bx.mk hsl
 have Hn:=Bx.mk hn
 have HFS:=Bx.mk hfs
 have hz24:Bx (((Tryz.prog.info? 41).bind (·.zero)).isSome=true):=⟨by kernel_rfl⟩
 clear hsl HX hV hC hE hn hfs hok
 generalize cellG ⟨⟨a,b,c⟩,⟨d,e,f⟩⟩ xs=F at *
 go_enter Tryz.func6,Tryz.ntmps6
 go_upto_region 1 with fail
 generalize hW:World.alloc (World.alloc w _) _=W
 have HB:=Bx.mk (show Below w.heap.size w W by rw [←hW];exact ((Below.refl _ _).alloc (Nat.le_refl _) _).alloc (by simp) _)
 have KG:=Bx.mk (show Bk W w.heap.size #[a,b,c,d,e,f,.slice ha xs.length hcp] 28 by rw [←hW];exact blk_old (blk_new _ _ _ (by simp)))
 have kx:Bk W (w.heap.size+1) s.arr 41:=bk0 hW
 clear hW
 obtain ⟨AL,hA⟩ : ∃ AL,AL=s.arr.toList:=⟨_,rfl⟩
 have hAs:AL.length=24:=by rw [hA];rfl
 have hi24:Bx ((Tryz.prog.info? 41).map (·.size)=some AL.length):=⟨by rw [hAs];kernel_rfl⟩
 have hi25:Bx ((Tryz.prog.info? 41).map (·.size)=some AL.toArray.size):=⟨by rw [List.size_toArray,hAs];kernel_rfl⟩
 have hAr:s.arr=AL.toArray:=by rw [hA]
 rw [hAr] at kx
 have HA:=Bx.mk hAr
 have HL:=Bx.mk hAs
 clear hA hAs hAr
 have KX:=Bx.mk kx
 clear kx
 obtain ⟨c0,c1,c2,c3,c4,c5,c6⟩:=KG.out.c7
 go_wp2_with (first
  | (refine wpList_load_whole rfl _ _ rfl (w.heap.size+1) rfl _ _ KX.out _ Tryz.underlying41 rfl hi25.out ?_)
  | (refine wpList_buildOne rfl _ 41 _ rfl AL rfl Tryz.underlying29 hi24.out hz24.out (by rw [HL.out];decide) (by rw [HL.out];decide) ?_))
 have hb1:Below W.heap.size W (W.alloc (.cells AL.toArray 41)):=(Below.refl _ _).alloc (Nat.le_refl _) _
 refine (Hfw.out _ _ (Hsl.out.below (HB.out.trans (hb1.mono HB.out.size))) (sls_one (by rw [HA.out];exact blk_new _ _ _ rfl) (Hok.out.below (HB.out.trans (hb1.mono HB.out.size))))).mono ?_
 rintro _ w2 ⟨rfl,hb2⟩
 replace hb2:=hb1.trans (hb2.mono hb1.size)
 replace HB:=Bx.mk (HB.out.trans (hb2.mono HB.out.size))
 replace KG:=Bx.mk (KG.out.later hb2)
 replace KX:=Bx.mk (KX.out.later hb2)
 clear hb1 hb2 c0 c1 c2 c3 c4 c5 c6 Hfw HL hi24 hz24
 obtain ⟨c0,c1,c2,c3,c4,c5,c6⟩:=KG.out.c7
 go_wp2_with fail
 refine (Hrf.out _ (Hsl.out.below HB.out)).mono ?_
 rintro _ w3 ⟨rfl,hb3⟩
 replace HB:=Bx.mk (HB.out.trans (hb3.mono HB.out.size))
 replace KG:=Bx.mk (KG.out.later hb3)
 replace KX:=Bx.mk (KX.out.later hb3)
 clear hb3 c0 c1 c2 c3 c4 c5 c6 Hrf
 go_wp2_with fail
 refine (Had.out _ HB.out.size (Ownv.nil _ _ _)).mono ?_
 rintro _ w4 ⟨v0,rfl,ho,hadd⟩
 have hb4:Below w3.heap.size w3 w4:=by
  have hg:=hadd.grown
  exact ⟨hg.os,hg.tape,hg.output,hg.size,fun i hi=>hg.block i hi (by simp [Value.ownBlock])⟩
 replace HB:=Bx.mk (HB.out.trans (hb4.mono HB.out.size))
 replace KG:=Bx.mk (KG.out.later hb4)
 replace KX:=Bx.mk (KX.out.later hb4)
 have HO:=Bx.mk ho
 obtain ⟨ac,cap,rfl,-⟩:=ho.form
 rw [encs_len] at HO ⊢
 clear ho hadd hb4 Had
 have hG0:=Bx.mk (addn_good Hn.out Hfn.out good_nil)
 have hM0:=Bx.mk (addn_mem n F [])
 obtain ⟨most,hmost⟩ : ∃ most:Int,most=((addn n F []).length:Int)+room:=⟨_,rfl⟩
 have hfit:Tr.Fits most [] (addn n F []):=.inr (by omega)
 have Hbm:=Bx.mk fun W h=>Hbu.out most hfit W h
 have hle:=Hln.out
 clear Hbu hfit Hln
 generalize addn n F []=ts at *
 have hcv:IntKind.i64.wrap room=room:=IntWalk.i64_in _ (by omega)
 have hms:IntKind.i64.wrap ((ts.length:Int)+room)=most:=by rw [hmost];exact IntWalk.i64_in _ (by omega)
 have HMost:=Bx.mk hmost
 clear hmost
 obtain ⟨c0,c1,c2,c3,c4,c5,c6⟩:=KG.out.c7
 go_wp2_with fail
 refine (Hbm.out _ (Hsl.out.below HB.out)).mono ?_
 rintro _ w5 ⟨sb,rfl,hS,hb5⟩
 have HM:Bx (MatI w (fun k=>k<w4.heap.size) sb most n F ts ts (.slice ac ts.length cap) w5):=⟨⟨hS,fun j hj=>Nat.lt_of_lt_of_le hj hb5.size,fun j hj=>Nat.lt_of_lt_of_le hj HB.out.size,HB.out.trans (hb5.mono HB.out.size),hG0.out,hM0.out,Hfn.out,HO.out.below hb5,fun g hg=>(HO.out.lt g hg).2⟩⟩
 have KXF:=Bx.mk KX.out.lt
 replace KX:=Bx.mk (KX.out.later hb5)
 clear hS hb5 c0 c1 c2 c3 c4 c5 c6 KG HO HB Hsl Hbm hcv hms hG0 hM0
 have tl:((ts.length:Int) != (ts.length:Int))=false:=by simp
 have tle:((ts.length:Int) == (ts.length:Int))=true:=by simp
 generalize hFr:(fun k=>k<w4.heap.size)=Fr at *
 have HFr:Bx (Fr (w.heap.size+1)):=⟨by rw [←hFr];exact KXF.out⟩
 clear hFr KXF
 go_wp2_with fail
 refine (len_any _ sb most ts w5 HM.out.st).mono ?_
 rintro _ _ ⟨rfl,rfl⟩
 have hfx:s.ys ≠ [] → ∀ b,s.ga.map (·.block)=some b→Fr b:=fun hy b hb=>by
  obtain ⟨x,r,hxr⟩:=List.exists_cons_of_ne_nil hy
  obtain ⟨b',off,h1,h2⟩:=Hok.out.ys 0 x (by rw [hxr];rfl)
  rw [h1] at hb
  simp only [Option.map_some,Option.some.injEq] at hb
  rw [←hb];exact HM.out.old _ (World.block_lt_of_cell? w _ h2)
 have Hpl:=Bx.mk (play_any Hn.out F Hfn.out s HFS.out sb most ts HM.out.good (by omega) HM.out.mem (fun F' h=>Nat.le_trans ((step_both Hn.out Hfn.out HFS.out h).2 ts HM.out.good HM.out.mem) (by omega)) w5 (Hok.out.below HM.out.bel) Fr hfx HM.out.far HM.out.st)
 have Htl:=Bx.mk fun (W':World) (hb:Below w.heap.size w W')=>told_any Hn.out F Hfn.out s HFS.out W' (Hok.out.below hb)
 have Hlk:=Bx.mk fun (F':Pt→Int) (ts':List Tr) (hF:FnC n F') (hG:Good ts') (hm:trF n F'∈ts') (hl:ts'.length≤4194304) (Fr2:Nat→Prop) W' hSt=>(show Calls Tryz.prog 15 #[.pointer (some ⟨sb,0,none⟩),.int .i64 (idn ts' n F'),.string (txt n F')] W' fun e w'=>e = .returned (.bool true)∧Below W'.heap.size W' w' from like_any Fr2 sb most ts' hG hl (trF n F') (wf_can hF.range n _ (by have:=Hn.out;omega)) (enc_trF Hn.out hF.range) hm W' hSt)
 rw [HA.out] at Hpl Htl
 clear hfx
 go_wp2_with (refine wpList_load_whole rfl _ _ rfl (w.heap.size+1) rfl _ _ KX.out _ Tryz.underlying41 rfl hi25.out ?_)
 refine Hpl.out.mono ?_
 intro e2 W2 hpr
 cases hst:stepF n F s with
 | none =>
   obtain ⟨rfl,hb2⟩:=hpr.no hst
   have HM2:=Bx.mk (HM.out.later hb2)
   replace KX:=Bx.mk (KX.out.later hb2)
   have HT:=Bx.mk (Htl.out W2 HM2.out.bel)
   have Hst:=Bx.mk hst
   clear hpr hb2 HM Hpl Htl hst
   go_wp2_with (refine wpList_load_whole rfl _ _ rfl (w.heap.size+1) rfl _ _ KX.out _ Tryz.underlying41 rfl hi25.out ?_)
   refine HT.out.mono ?_
   intro e3 W3 htl
   obtain rfl:=htl.no Hst.out
   have HM3:=Bx.mk (HM2.out.later htl.bel)
   clear htl HM2 KX HT
   go_wp2_with fail
   refine (Hlk.out F ts Hfn.out HM3.out.good HM3.out.mem (by omega) _ W3 HM3.out.st).mono ?_
   rintro _ W4 ⟨rfl,hb4⟩
   have HM4:=Bx.mk (HM3.out.later hb4)
   clear hb4 HM3
   go_wp2_with fail
   refine (sanity10_true _).mono ?_
   rintro _ W5 ⟨rfl,hb5⟩
   have HM5:=Bx.mk (HM4.out.later hb5)
   clear hb5 HM4
   go_wp2_with fail
   refine (len_any _ sb most ts W5 HM5.out.st).mono ?_
   rintro _ _ ⟨rfl,rfl⟩
   go_wp2_with fail
   go_ret
   exact ⟨rfl,HM5.out.bel⟩
 | some F' =>
   have hd:=hpr.yes F' hst
   have hsb:=step_both Hn.out Hfn.out HFS.out hst
   have hlen':=hsb.2 ts HM.out.good HM.out.mem
   have KX2:Bx (Bk W2 (w.heap.size+1) AL.toArray 41):=⟨(hd.keeps.block _ HFr.out KX.out.lt).trans KX.out⟩
   have hl6:(addn n F' ts).length≤4194304:=Nat.le_trans hlen' (by omega)
   have Hl6:=Bx.mk hl6
   have HF':=Bx.mk hsb.1
   have Hst:=Bx.mk hst
   have Had2:=Bx.mk fun W hB ho=>m_add n F' Hn.out hsb.1.range ts HM.out.good (by omega) W w.heap.size (.slice ac ts.length cap) hB ho
   have HG':=Bx.mk (addn_good Hn.out hsb.1 HM.out.good)
   have HM':=Bx.mk (addn_mem n F' ts)
   have HPre:=Bx.mk (addn_pre n F' ts)
   have hmem0:=HM.out.mem
   have HI0:=Bx.mk (show idn (addn n F' ts) n F=idn ts n F from by unfold idn;rw [idT_prefix HPre.out hmem0])
   have HFm:=Bx.mk (HPre.out.subset hmem0)
   have Hle2:=Bx.mk HPre.out.length_le
   clear hmem0 hl6
   rcases hd.way with ⟨hfit,rfl,hS3⟩ | ⟨hfit,rfl,hS3⟩
   · have HM2:=Bx.mk (HM.out.made hd.keeps hS3 HG'.out HM'.out hsb.1)
     have hgt:decide (most<((addn n F' ts).length:Int))=false:=by
      have h1:=HMost.out
      rcases hfit with h | h
      · rw [h];simp;omega
      · simp;omega
     have HT:=Bx.mk (Htl.out W2 HM2.out.bel)
     clear hpr hd hlen' hS3 HM Hpl Htl hst hsb KX hfit
     generalize addn n F' ts=ts' at *
     have tl2:((ts'.length:Int) == (ts'.length:Int))=true:=by simp
     go_wp2_with (refine wpList_load_whole rfl _ _ rfl (w.heap.size+1) rfl _ _ KX2.out _ Tryz.underlying41 rfl hi25.out ?_)
     refine HT.out.mono ?_
     intro e3 W3 htl
     obtain rfl:=htl.yes F' Hst.out
     have HM3:=Bx.mk (HM2.out.later htl.bel)
     clear htl HM2 KX2 HT
     go_wp2_with fail
     refine (Had2.out W3 HM3.out.bel.size HM3.out.own).mono ?_
     rintro _ W4 ⟨v',rfl,ho,hadd⟩
     have HM4:=Bx.mk (HM3.out.drop hadd (Nat.le_refl _))
     obtain ⟨ac3,cap3,rfl,-⟩:=ho.form
     rw [encs_len]
     clear ho hadd HM3
     have hlk:=Hlk.out F ts' Hfn.out HM4.out.good HFm.out Hl6.out _ W4 HM4.out.st
     rw [HI0.out] at hlk
     have HLK:=Bx.mk hlk
     clear hlk
     go_wp2_with fail
     refine HLK.out.mono ?_
     rintro _ W5 ⟨rfl,hb5⟩
     have HM5:=Bx.mk (HM4.out.later hb5)
     clear hb5 HM4 HLK
     go_wp2_with fail
     refine (sanity10_true _).mono ?_
     rintro _ W6 ⟨rfl,hb6⟩
     have HM6:=Bx.mk (HM5.out.later hb6)
     clear hb6 HM5
     go_wp2_with fail
     refine (Hlk.out F' ts' HF'.out HM6.out.good HM6.out.mem Hl6.out _ W6 HM6.out.st).mono ?_
     rintro _ W7 ⟨rfl,hb7⟩
     have HM7:=Bx.mk (HM6.out.later hb7)
     clear hb7 HM6
     go_wp2_with fail
     refine (len_any _ sb most ts' W7 HM7.out.st).mono ?_
     rintro _ _ ⟨rfl,rfl⟩
     go_wp2_with fail
     refine (Had2.out W7 HM7.out.bel.size HM7.out.own).mono ?_
     rintro _ W8 ⟨v',rfl,ho,hadd⟩
     have HM8:=Bx.mk (HM7.out.drop hadd (Nat.le_refl _))
     obtain ⟨ac4,cap4,rfl,-⟩:=ho.form
     rw [encs_len]
     clear ho hadd HM7
     go_wp2_with fail
     go_ret
     exact ⟨rfl,HM8.out.bel⟩
   · have HM2:=Bx.mk (HM.out.made hd.keeps hS3 HM.out.good HM.out.mem Hfn.out)
     have hgt:decide (most<((addn n F' ts).length:Int))=true:=by
      have h1 : ¬((addn n F' ts).length:Int)≤most:=fun h=>hfit (.inr h)
      simp;omega
     have HT:=Bx.mk (Htl.out W2 HM2.out.bel)
     clear hpr hd hlen' hS3 HM Hpl Htl hst hsb KX hfit
     generalize addn n F' ts=ts' at *
     go_wp2_with (refine wpList_load_whole rfl _ _ rfl (w.heap.size+1) rfl _ _ KX2.out _ Tryz.underlying41 rfl hi25.out ?_)
     refine HT.out.mono ?_
     intro e3 W3 htl
     obtain rfl:=htl.yes F' Hst.out
     have HM3:=Bx.mk (HM2.out.later htl.bel)
     clear htl HM2 KX2 HT
     go_wp2_with fail
     refine (Had2.out W3 HM3.out.bel.size HM3.out.own).mono ?_
     rintro _ W4 ⟨v',rfl,ho,hadd⟩
     have HM4:=Bx.mk (HM3.out.drop hadd (Nat.le_refl _))
     obtain ⟨ac3,cap3,rfl,-⟩:=ho.form
     rw [encs_len]
     clear ho hadd HM3
     go_wp2_with fail
     refine (Hlk.out F ts Hfn.out HM4.out.good HM4.out.mem (by omega) _ W4 HM4.out.st).mono ?_
     rintro _ W5 ⟨rfl,hb5⟩
     have HM5:=Bx.mk (HM4.out.later hb5)
     clear hb5 HM4
     go_wp2_with fail
     refine (sanity10_true _).mono ?_
     rintro _ W6 ⟨rfl,hb6⟩
     have HM6:=Bx.mk (HM5.out.later hb6)
     clear hb6 HM5
     go_wp2_with fail
     refine (len_any _ sb most ts W6 HM6.out.st).mono ?_
     rintro _ _ ⟨rfl,rfl⟩
     go_wp2_with fail
     go_ret
     exact ⟨rfl,HM6.out.bel⟩
theorem tree_keeps_true (a b c d e f dd room:Int) (hr:0≤room∧room≤255) (ha:Option Addr) (hcp:Nat) (xs:List Int) (s:Stp) (hcap:xs.length≤hcp) (w:World) (hsl:Sl w .i64 ha xs) (hok:StpOk w s) :
 Calls Tryz.prog 6 #[.agg #[a,b,c,d,e,f,.slice ha xs.length hcp],dd,.agg s.arr,.int .u8 room] w fun e' w'=>e' = .returned (.bool true)∧Below w.heap.size w w':=by
 by_cases hfw:xs.length≤300∧[s].length≤8∧fromE ⟨⟨a,b,c⟩,⟨d,e,f⟩⟩ xs dd=0
 · obtain ⟨h1,h2,hE⟩:=hfw
   obtain ⟨n,hn,rfl,hV,hC⟩:=fromE_zero hE
   have HX:=goodG_of hV h1 hcap
   cases hall:fewS n s with
   | true=>exact kt_on a b c d e f room hr.1 hr.2 ha hcp xs s w h1 hsl hok n hn HX hE hV hC hall
   | false =>
     refine kt_off a b c d e f _ room ha _ hcp s w hok fun W la hb hS=>?_
     have h:=few10_yes a b c d e f ha hcp xs h1 n hn hE la 1 [s] h2 W (hsl.below hb) hS
     rw [show [s].all (fewS n)=false from by simp [hall]] at h
     exact h
 · exact kt_off a b c d e f dd room ha _ hcp s w hok fun W la hb hS=>few10_no a b c d e f dd ha hcp xs la 1 1 hfw W (hsl.below hb)
end
section
open Go.RowKit Go.ChangeShapes Go.WideShapes
open Oct
theorem wf_u8 {n:Int} (h:(Lit.int .u8 n).wf=true):0≤n∧n<256:=by
 simp [Lit.wf,IntKind.min,IntKind.max,IntKind.bits,IntKind.signed] at h
 omega
theorem cellsPt : Tryz.prog.cellsOf 23=3:=by kernel_rfl
theorem cellsBox : Tryz.prog.cellsOf 25=6:=by kernel_rfl
theorem cellsGrid : Tryz.prog.cellsOf 28=7:=by kernel_rfl
theorem cellsIntT : Tryz.prog.cellsOf 3=1:=by kernel_rfl
theorem cellsInts : Tryz.prog.cellsOf 26=1:=by kernel_rfl
theorem row_sl {k:IntKind} {w:World} {a:Option Addr} {len cap:Nat} {zs:List Int}
 (h:(a=none∧len=0∧cap=0∧zs=[]) ∨ ∃ x,a=some x∧len≤cap∧cap≤maxLen∧zs.length=cap∧(∀ i,i<zs.length→w.cell? (x.add i)=some (.int k (zs.getD i 0))) ∧ ∀ n∈zs,(Lit.int k n).wf=true) :
 ∃ xs:List Int,len=xs.length∧Sl w k a xs:=by
 rcases h with ⟨rfl,rfl,rfl,rfl⟩ | ⟨x,rfl,hl,hm,hz,hc,hw⟩
 · exact ⟨[],rfl,Sl.nil _ _ _⟩
 · refine ⟨zs.take len,by simp;omega,fun i y hy=>?_⟩
   rw [List.getElem?_take] at hy
   split at hy
   · rename_i hi
     have h1:=hc i (by omega)
     have h2:w.cell? (x.add i)=some (.int k y):=by rw [h1];simp [List.getD,hy]
     obtain ⟨b,off,spot⟩:=x
     have hspot:spot=none:=by
      have h0:=hc 0 (by omega)
      simpa [Addr.add] using World.cell?_spot h0
     subst hspot
     refine ⟨b,off,rfl,?_⟩
     have:(⟨b,off,none⟩:Addr).add i=⟨b,off+i,none⟩:=by unfold Addr.add;split <;> simp_all
     rwa [this] at h2
   · cases hy
section
variable {H:Type} {enc:TypeId × Value→H} {w:World} {base:Nat} {spare:Nat→Bool} {held:Bool} {fuel:Nat} {x:DataW H × List MemPlace}
theorem trod_int1 {v:Value} (h:DataW.trod enc Tryz.prog w base spare held fuel 3 [v]=some x) : ∃ n:Int,v = .int .i64 n∧(Lit.int .i64 n).wf=true:=by
 obtain ⟨n,h1,_,h2⟩:=DataW.trod_int Tryz.underlying3 h
 simp only [List.cons.injEq,and_true] at h1
 exact ⟨n,h1,h2⟩
theorem trod_pt {c0 c1 c2:Value} (h:DataW.trod enc Tryz.prog w base spare held fuel 23 [c0,c1,c2]=some x) :
 ∃ a b c:Int,c0 = .int .i64 a∧c1 = .int .i64 b∧c2 = .int .i64 c:=by
 obtain ⟨y0,y1,y2,n,_,_,h0,h1,h2⟩:=Go.Deep.trod_struct3 Tryz.underlying23 h
 have h0:DataW.trod enc Tryz.prog w base spare held n 3 [c0]=some y0:=by simpa [cellsIntT] using h0
 have h1:DataW.trod enc Tryz.prog w base spare held n 3 [c1]=some y1:=by simpa [cellsIntT] using h1
 have h2:DataW.trod enc Tryz.prog w base spare held n 3 [c2]=some y2:=by simpa [cellsIntT] using h2
 obtain ⟨a,e0,_⟩:=trod_int1 h0
 obtain ⟨b,e1,_⟩:=trod_int1 h1
 obtain ⟨c,e2,_⟩:=trod_int1 h2
 exact ⟨a,b,c,e0,e1,e2⟩
theorem trod_box {c0 c1 c2 c3 c4 c5:Value} (h:DataW.trod enc Tryz.prog w base spare held fuel 25 [c0,c1,c2,c3,c4,c5]=some x) :
 ∃ a b c d e f:Int,c0 = .int .i64 a∧c1 = .int .i64 b∧c2 = .int .i64 c∧c3 = .int .i64 d∧c4 = .int .i64 e∧c5 = .int .i64 f:=by
 obtain ⟨y0,y1,n,_,_,h0,h1⟩:=trod_struct2 Tryz.underlying25 h
 have h0:DataW.trod enc Tryz.prog w base spare held n 23 [c0,c1,c2]=some y0:=by simpa [cellsPt] using h0
 have h1:DataW.trod enc Tryz.prog w base spare held n 23 [c3,c4,c5]=some y1:=by simpa [cellsPt] using h1
 obtain ⟨a,b,c,e0,e1,e2⟩:=trod_pt h0
 obtain ⟨d,e,f,e3,e4,e5⟩:=trod_pt h1
 exact ⟨a,b,c,d,e,f,e0,e1,e2,e3,e4,e5⟩
theorem trod_ints {v:Value} (h:DataW.trod enc Tryz.prog w base (fun _=>true) held fuel 26 [v]=some x) :
 ∃ ha hcp,∃ xs:List Int,v = .slice ha xs.length hcp∧Sl w .i64 ha xs∧xs.length≤hcp:=by
 rcases open_ints Tryz.underlying26 Tryz.underlying3 cellsIntT h with ⟨h1,_⟩ | ⟨a,len,cap,zs,h1,_,hl,hm,hz,_,hc,hw⟩
 · simp only [List.cons.injEq,and_true] at h1
   exact ⟨none,0,[],h1,Sl.nil _ _ _,by simp⟩
 · simp only [List.cons.injEq,and_true] at h1
   simp only [if_true] at hz
   obtain ⟨xs,e,hs⟩:=row_sl (k:=.i64) (w:=w) (a:=some a) (len:=len) (cap:=cap) (zs:=zs) (Or.inr ⟨a,rfl,hl,hm,hz,hc,hw⟩)
   exact ⟨some a,cap,xs,by rw [h1,e],hs,by omega⟩
theorem list7 {α:Type} {l:List α} (h:l.length=7) : ∃ a b c d e f g,l=[a,b,c,d,e,f,g]:=by
 match l,h with
 | [a,b,c,d,e,f,g],_=>exact ⟨a,b,c,d,e,f,g,rfl⟩
set_option maxRecDepth 100000 in
theorem open_grid {r:Reach} {b0:Nat} {v:Value} {d:DataW H} {p:List MemPlace} (hv:Value.okWide Tryz.prog w r b0 28 v) (h:DataW.Trod enc Tryz.prog w base (fun _=>true) held 28 v d p) :
 ∃ (a b c d e f:Int) (ha:Option Addr) (hcp:Nat) (xs:List Int),v = .agg #[a,b,c,d,e,f,.slice ha xs.length hcp]∧Sl w .i64 ha xs∧xs.length≤hcp:=by
 obtain ⟨cs,rfl,hsz⟩:=okWide_struct Tryz.underlying28 hv
 obtain ⟨l⟩:=cs
 have hl:l.length=7:=by rw [cellsGrid] at hsz;exact hsz
 obtain ⟨c0,c1,c2,c3,c4,c5,c6,rfl⟩:=list7 hl
 obtain ⟨fuel,hf⟩:=h
 obtain ⟨y0,y1,n,_,_,h0,h1⟩:=trod_struct2 Tryz.underlying28 hf
 have h0:DataW.trod enc Tryz.prog w base (fun _=>true) held n 25 [c0,c1,c2,c3,c4,c5]=some y0:=by simpa [Value.cells,cellsBox] using h0
 have h1:DataW.trod enc Tryz.prog w base (fun _=>true) held n 26 [c6]=some y1:=by simpa [Value.cells,cellsInts] using h1
 obtain ⟨a,b,c,d,e,f,rfl,rfl,rfl,rfl,rfl,rfl⟩:=trod_box h0
 obtain ⟨ha,hcp,xs,rfl,hs,hc⟩:=trod_ints h1
 exact ⟨a,b,c,d,e,f,ha,hcp,xs,rfl,hs,hc⟩
end
end
section
open Go.RowKit Go.ChangeShapes Go.WideShapes
open Oct
theorem cellsChg : Tryz.prog.cellsOf 96=5:=by kernel_rfl
theorem cellsChgs : Tryz.prog.cellsOf 37=1:=by kernel_rfl
theorem cellsCub : Tryz.prog.cellsOf 39=4:=by kernel_rfl
theorem cellsStp : Tryz.prog.cellsOf 41=24:=by kernel_rfl
theorem list5 {α:Type} {l:List α} (h:l.length=5) : ∃ a b c d e,l=[a,b,c,d,e]:=by
 match l,h with
 | [a,b,c,d,e],_=>exact ⟨a,b,c,d,e,rfl⟩
theorem list6 {α:Type} {l:List α} (h:l.length=6) : ∃ a b c d e f,l=[a,b,c,d,e,f]:=by
 match l,h with
 | [a,b,c,d,e,f],_=>exact ⟨a,b,c,d,e,f,rfl⟩
theorem list24 {α:Type} {l:List α} (h:l.length=24) : ∃ a0 a1 a2 a3 a4 a5 a6 a7 a8 a9 a10 a11 a12 a13 a14 a15 a16 a17 a18 a19 a20 a21 a22 a23,l=[a0,a1,a2,a3,a4,a5,a6,a7,a8,a9,a10,a11,a12,a13,a14,a15,a16,a17,a18,a19,a20,a21,a22,a23]:=by
 obtain ⟨a0,a1,a2,a3,a4,a5,e0⟩:=list6 (l:=l.take 6) (by simp;omega)
 obtain ⟨b0,b1,b2,b3,b4,b5,e1⟩:=list6 (l:=(l.drop 6).take 6) (by simp;omega)
 obtain ⟨c0,c1,c2,c3,c4,c5,e2⟩:=list6 (l:=(l.drop 12).take 6) (by simp;omega)
 obtain ⟨d0,d1,d2,d3,d4,d5,e3⟩:=list6 (l:=l.drop 18) (by simp;omega)
 have h0:l=l.take 6++((l.drop 6).take 6++((l.drop 12).take 6++l.drop 18)):=by
  rw [show l.drop 18=(l.drop 12).drop 6 from by rw [List.drop_drop],List.take_append_drop,show l.drop 12=(l.drop 6).drop 6 from by rw [List.drop_drop],List.take_append_drop,List.take_append_drop]
 rw [e0,e1,e2,e3] at h0
 exact ⟨a0,a1,a2,a3,a4,a5,b0,b1,b2,b3,b4,b5,c0,c1,c2,c3,c4,c5,d0,d1,d2,d3,d4,d5,h0⟩
section
variable {H:Type} {enc:TypeId × Value→H} {w:World} {base:Nat} {held:Bool}
theorem open_rows {S:Type} {t e:TypeId} {k:Nat} (f:S→List Value) (Pk:S→Prop) (ht : Tryz.prog.underlying t=some (.slice e)) (hk : Tryz.prog.cellsOf e=k) (hpos:0<k) (s0:S)
 (R : ∀ {n:Nat} {cs:List Value} {y:DataW H × List MemPlace},cs.length=k→DataW.trod enc Tryz.prog w base (fun _=>true) held n e cs=some y → ∃ s:S,cs=f s∧Pk s)
 {fuel:Nat} {x:DataW H × List MemPlace} {v:Value} (h:DataW.trod enc Tryz.prog w base (fun _=>true) held fuel t [v]=some x) :
 ∃ ha hcp,∃ L:List S,v = .slice ha L.length hcp∧L.length≤hcp ∧ ∀ (i:Nat) (s:S),L[i]? = some s → ∃ b off,ha=some ⟨b,off,none⟩∧(∀ j u,(f s)[j]? = some u→w.cell? ⟨b,off+i * k+j,none⟩=some u)∧Pk s:=by
 rcases Go.Deep.open_slice ht h with ⟨h1,_⟩ | ⟨a,len,cap,m,n,D,Pl,h1,_,hl,_,hm,_,hi⟩
 · simp only [List.cons.injEq,and_true] at h1
   exact ⟨none,0,[],h1,Nat.le_refl _,fun i s h=>by simp at h⟩
 · simp only [List.cons.injEq,and_true] at h1
   simp only [if_true] at hm
   subst hm
   have key : ∀ i,i<len → ∃ s:S,(f s).length=k∧(∀ j u,(f s)[j]? = some u→w.cell? (a.add (i * k+j))=some u)∧Pk s:=by
    intro i hil
    obtain ⟨cs,hcs,ht'⟩:=hi i (by omega)
    rw [hk] at hcs
    obtain ⟨_,hlen,hat⟩:=World.cells?_some hcs
    obtain ⟨s,rfl,hP⟩:=R hlen ht'
    refine ⟨s,hlen,fun j u hu=>?_,hP⟩
    have hj:=(List.getElem?_eq_some_iff.1 hu).1
    have:=hat j (by omega)
    rw [Go.Deep.add_add] at this
    rw [this]
    simpa [List.getD] using hu
   have hf : ∃ g:Nat→S,∀ i,i<len→(f (g i)).length=k∧(∀ j u,(f (g i))[j]? = some u→w.cell? (a.add (i * k+j))=some u)∧Pk (g i) :=
    ⟨fun i=>if h:i<len then (key i h).choose else s0,fun i h=>by simp only [dif_pos h];exact (key i h).choose_spec⟩
   obtain ⟨g,hf⟩:=hf
   refine ⟨some a,m,(List.range len).map g,by simpa using h1,by simpa using hl,fun i s he=>?_⟩
   rw [List.getElem?_map] at he
   have hil:i<len:=by
    rcases Nat.lt_or_ge i len with h | h
    · exact h
    · rw [List.getElem?_eq_none (by simpa using h)] at he;cases he
   rw [List.getElem?_range hil] at he
   simp only [Option.map_some,Option.some.injEq] at he
   subst he
   obtain ⟨hlen,hc,hP⟩:=hf i hil
   obtain ⟨b,off,spot⟩:=a
   have hspot:spot=none:=by
    obtain ⟨hlen0,hc0,-⟩:=hf 0 (by omega)
    have h0:=hc0 0 _ (List.getElem?_eq_getElem (by omega))
    have h1:=World.cell?_spot h0
    rw [Nat.zero_mul] at h1
    exact h1
   subst hspot
   have ha : ∀ j,(⟨b,off,none⟩:Addr).add j=⟨b,off+j,none⟩:=fun j=>by unfold Addr.add;split <;> simp_all
   refine ⟨b,off,rfl,fun j u hu=>?_,hP⟩
   have:=hc j u hu
   rw [ha] at this
   rw [Nat.add_assoc]
   exact this
set_option maxRecDepth 100000 in
theorem trod_chgs {fuel:Nat} {x:DataW H × List MemPlace} {v:Value} (h:DataW.trod enc Tryz.prog w base (fun _=>true) held fuel 37 [v]=some x) :
 ∃ ha hcp,∃ cs:List Chg,v = .slice ha cs.length hcp∧SlC w ha cs∧cs.length≤hcp:=by
 obtain ⟨ha,hcp,L,e1,e2,e3⟩:=open_rows (S:=Chg) Chg.cells (fun _=>True) Tryz.underlying37 cellsChg (by omega) ⟨0,0,0,0,0⟩ (by
  intro n cs y hl hy
  obtain ⟨c0,c1,c2,c3,c4,rfl⟩:=list5 hl
  obtain ⟨y0,y1,y2,m,_,_,h0,h1,h2⟩:=Go.Deep.trod_struct3 Tryz.underlying96 hy
  have h0:DataW.trod enc Tryz.prog w base (fun _=>true) held m 23 [c0,c1,c2]=some y0:=by simpa [cellsPt] using h0
  have h1:DataW.trod enc Tryz.prog w base (fun _=>true) held m 3 [c3]=some y1:=by simpa [cellsIntT] using h1
  have h2:DataW.trod enc Tryz.prog w base (fun _=>true) held m 3 [c4]=some y2:=by simpa [cellsIntT] using h2
  obtain ⟨a,b,c,rfl,rfl,rfl⟩:=trod_pt h0
  obtain ⟨d,rfl,_⟩:=trod_int1 h1
  obtain ⟨e,rfl,_⟩:=trod_int1 h2
  exact ⟨⟨a,b,c,d,e⟩,rfl,trivial⟩) h
 refine ⟨ha,hcp,L,e1,fun i c hc=>?_,e2⟩
 obtain ⟨b,off,rfl,hj,_⟩:=e3 i c hc
 exact ⟨b,off,rfl,hj 0 _ rfl,hj 1 _ rfl,hj 2 _ rfl,hj 3 _ rfl,hj 4 _ rfl⟩
set_option maxRecDepth 100000 in
theorem trod_cube {spare:Nat→Bool} {fuel:Nat} {x:DataW H × List MemPlace} {c0 c1 c2 c3:Value} (h:DataW.trod enc Tryz.prog w base spare held fuel 39 [c0,c1,c2,c3]=some x) :
 ∃ a b c d:Int,c0 = .int .i64 a∧c1 = .int .i64 b∧c2 = .int .i64 c∧c3 = .int .i64 d:=by
 obtain ⟨y0,y1,n,_,_,h0,h1⟩:=trod_struct2 Tryz.underlying39 h
 have h0:DataW.trod enc Tryz.prog w base spare held n 23 [c0,c1,c2]=some y0:=by simpa [cellsPt] using h0
 have h1:DataW.trod enc Tryz.prog w base spare held n 3 [c3]=some y1:=by simpa [cellsIntT] using h1
 obtain ⟨a,b,c,e0,e1,e2⟩:=trod_pt h0
 obtain ⟨d,e3,_⟩:=trod_int1 h1
 exact ⟨a,b,c,d,e0,e1,e2,e3⟩
set_option maxRecDepth 100000 in
theorem trod_gridc {fuel:Nat} {x:DataW H × List MemPlace} {c0 c1 c2 c3 c4 c5 c6:Value} (h:DataW.trod enc Tryz.prog w base (fun _=>true) held fuel 28 [c0,c1,c2,c3,c4,c5,c6]=some x) :
 ∃ (a b c d e f:Int) (ha:Option Addr) (hcp:Nat) (xs:List Int),[c0,c1,c2,c3,c4,c5,c6]=[.int .i64 a,.int .i64 b,.int .i64 c,.int .i64 d,.int .i64 e,.int .i64 f,.slice ha xs.length hcp]∧Sl w .i64 ha xs∧xs.length≤hcp:=by
 obtain ⟨y0,y1,n,_,_,h0,h1⟩:=trod_struct2 Tryz.underlying28 h
 have h0:DataW.trod enc Tryz.prog w base (fun _=>true) held n 25 [c0,c1,c2,c3,c4,c5]=some y0:=by simpa [cellsBox] using h0
 have h1:DataW.trod enc Tryz.prog w base (fun _=>true) held n 26 [c6]=some y1:=by simpa [cellsInts] using h1
 obtain ⟨a,b,c,d,e,f,rfl,rfl,rfl,rfl,rfl,rfl⟩:=trod_box h0
 obtain ⟨ha,hcp,xs,rfl,hs,hc⟩:=trod_ints h1
 exact ⟨a,b,c,d,e,f,ha,hcp,xs,rfl,hs,hc⟩
theorem trod_struct7 {P:Program} {spare:Nat→Bool} {t:TypeId} {f0 f1 f2 f3 f4 f5 f6:Field} {fuel:Nat} {cs:List Value} {x:DataW H × List MemPlace} (ht:P.underlying t=some (.struct #[f0,f1,f2,f3,f4,f5,f6])) (h:DataW.trod enc P w base spare held fuel t cs=some x) :
 ∃ y0 y1 y2 y3 y4 y5 y6 n, DataW.trod enc P w base spare held n f0.type ((cs.drop f0.offset).take (P.cellsOf f0.type)) = some y0 ∧ DataW.trod enc P w base spare held n f1.type ((cs.drop f1.offset).take (P.cellsOf f1.type)) = some y1 ∧
   DataW.trod enc P w base spare held n f2.type ((cs.drop f2.offset).take (P.cellsOf f2.type))=some y2∧DataW.trod enc P w base spare held n f3.type ((cs.drop f3.offset).take (P.cellsOf f3.type))=some y3 ∧
   DataW.trod enc P w base spare held n f4.type ((cs.drop f4.offset).take (P.cellsOf f4.type))=some y4∧DataW.trod enc P w base spare held n f5.type ((cs.drop f5.offset).take (P.cellsOf f5.type))=some y5 ∧
   DataW.trod enc P w base spare held n f6.type ((cs.drop f6.offset).take (P.cellsOf f6.type))=some y6:=by
 obtain ⟨xs,n,_,rfl,hl,hlen,hf⟩:=DataW.trod_struct ht h
 match xs,hlen with
 | [y0,y1,y2,y3,y4,y5,y6],_=>exact ⟨y0,y1,y2,y3,y4,y5,y6,n,by simpa using hf 0 f0 rfl,by simpa using hf 1 f1 rfl,by simpa using hf 2 f2 rfl,by simpa using hf 3 f3 rfl,by simpa using hf 4 f4 rfl,by simpa using hf 5 f5 rfl,by simpa using hf 6 f6 rfl⟩
set_option maxRecDepth 100000 in
set_option maxHeartbeats 1000000 in
theorem trod_stp {fuel:Nat} {x:DataW H × List MemPlace} {cs:List Value} (hl:cs.length=24) (h:DataW.trod enc Tryz.prog w base (fun _=>true) held fuel 41 cs=some x) :
 ∃ s:Stp,cs=s.arr.toList∧StpOk w s:=by
 obtain ⟨a0,a1,a2,a3,a4,a5,a6,a7,a8,a9,a10,a11,a12,a13,a14,a15,a16,a17,a18,a19,a20,a21,a22,a23,rfl⟩:=list24 hl
 obtain ⟨y0,y1,y2,y3,y4,y5,y6,n,h0,h1,h2,h3,h4,h5,h6⟩:=trod_struct7 Tryz.underlying41 h
 have h0:DataW.trod enc Tryz.prog w base (fun _=>true) held n 3 [a0]=some y0:=by simpa [cellsIntT] using h0
 have h1:DataW.trod enc Tryz.prog w base (fun _=>true) held n 25 [a1,a2,a3,a4,a5,a6]=some y1:=by simpa [cellsBox] using h1
 have h2:DataW.trod enc Tryz.prog w base (fun _=>true) held n 3 [a7]=some y2:=by simpa [cellsIntT] using h2
 have h3:DataW.trod enc Tryz.prog w base (fun _=>true) held n 28 [a8,a9,a10,a11,a12,a13,a14]=some y3:=by simpa [cellsGrid] using h3
 have h4:DataW.trod enc Tryz.prog w base (fun _=>true) held n 37 [a15]=some y4:=by simpa [cellsChgs] using h4
 have h5:DataW.trod enc Tryz.prog w base (fun _=>true) held n 39 [a16,a17,a18,a19]=some y5:=by simpa [cellsCub] using h5
 have h6:DataW.trod enc Tryz.prog w base (fun _=>true) held n 39 [a20,a21,a22,a23]=some y6:=by simpa [cellsCub] using h6
 obtain ⟨kd,rfl,_⟩:=trod_int1 h0
 obtain ⟨b0,b1,b2,b3,b4,b5,rfl,rfl,rfl,rfl,rfl,rfl⟩:=trod_box h1
 obtain ⟨cell,rfl,_⟩:=trod_int1 h2
 obtain ⟨g0,g1,g2,g3,g4,g5,ga,gc,ys,e3,hys,hgc⟩:=trod_gridc h3
 obtain ⟨la,lc,chs,rfl,hcs,hlc⟩:=trod_chgs h4
 obtain ⟨p0,p1,p2,p3,rfl,rfl,rfl,rfl⟩:=trod_cube h5
 obtain ⟨q0,q1,q2,q3,rfl,rfl,rfl,rfl⟩:=trod_cube h6
 simp only [List.cons.injEq,and_true] at e3
 obtain ⟨rfl,rfl,rfl,rfl,rfl,rfl,rfl⟩:=e3
 exact ⟨⟨kd,⟨⟨b0,b1,b2⟩,⟨b3,b4,b5⟩⟩,cell,⟨⟨g0,g1,g2⟩,⟨g3,g4,g5⟩⟩,ga,ys,gc,la,chs,lc,⟨p0,p1,p2⟩,p3,⟨q0,q1,q2⟩,q3⟩,rfl,⟨hys,hgc,hcs,hlc⟩⟩
set_option maxRecDepth 100000 in
theorem open_stp1 {r:Reach} {b0:Nat} {v:Value} {d:DataW H} {p:List MemPlace} (hv:Value.okWide Tryz.prog w r b0 41 v) (h:DataW.Trod enc Tryz.prog w base (fun _=>true) held 41 v d p) :
 ∃ s:Stp,v = .agg s.arr∧StpOk w s:=by
 obtain ⟨cs,rfl,hsz⟩:=okWide_struct Tryz.underlying41 hv
 obtain ⟨l⟩:=cs
 have hl:l.length=24:=by rw [cellsStp] at hsz;exact hsz
 obtain ⟨fuel,hf⟩:=h
 obtain ⟨s,e,ho⟩:=trod_stp (cs:=l) hl (by simpa [Value.cells] using hf)
 exact ⟨s,by rw [e],ho⟩
end
end
end Go.Proofs.YtfcbajmjaifjlaaGreat
