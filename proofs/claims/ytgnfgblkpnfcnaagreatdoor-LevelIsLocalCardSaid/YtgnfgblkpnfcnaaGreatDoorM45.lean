/- Lsw, Lofs, Llm, Lms: joined by program, for one claim. -/
import Derived.Test.YtgnfgblkpnfcnaaGreatDoorM44
import Derived.Deep.MidRow
import Derived.Test.YtgnfgblkpnfcnaaGreatDoorM27
import Derived.Test.YtgnfgblkpnfcnaaGreatDoorM30
import Derived.Test.YtgnfgblkpnfcnaaGreatDoorM39
import Derived.Test.YtgnfgblkpnfcnaaGreatDoorM33
import Derived.Test.YtgnfgblkpnfcnaaGreatDoorM18
set_option linter.unusedVariables false
set_option linter.unusedSimpArgs false
namespace Go.Proofs.YtgnfgblkpnfcnaaGreatDoor
section
open Go.RowKit Go.Sort Go.Maps
open Oct
theorem krow_below {w w':World} {g:Nat} {ks:List Int} (h:Krow w g ks) (hb:Below w.heap.size w w'):Krow w' g ks:=fun i v hv=>cell_later hb (h i v hv)
theorem krow_keeps {w w':World} {Far:Nat→Prop} {g:Nat} {ks:List Int} (h:Krow w g ks) (hk:Keeps Far w w') (hf : ∀ x,x<w.heap.size→Far x):Krow w' g ks:=fun i v hv=>cell_keepsL hk (hf _ (World.block_lt_of_cell? w _ (h i v hv))) (h i v hv)
theorem eql_digL (xs:List Int) (hl:xs.length=16) (w:World):(binOp .eql 43 (.agg (xs.map (Value.int .u8)).toArray) (.agg (xs.map (Value.int .u8)).toArray)).run Tryz.prog w = .ok (.bool true) w:=by
 obtain ⟨i,hi⟩ : ∃ i,Tryz.prog.info? 5=some i:=Option.isSome_iff_exists.1 (by kernel_rfl)
 have hc : Tryz.prog.cellsOf 5=1:=by kernel_rfl
 match xs,hl with
 | [x0, x1, x2, x3, x4, x5, x6, x7, x8, x9, x10, x11, x12, x13, x14, x15], _ =>
   simp only [List.map_cons,List.map_nil]
   rw [run_eql_struct,run_equalIn_array (n:=16) w 9999 _ _ Tryz.underlying43 hi,hc]
   rw [show List.range 16=[0,1,2,3,4,5,6,7,8,9,10,11,12,13,14,15] by decide]
   simp only [Op.eqItems]
   go_simp
theorem wpQuiet_load_midG {P:Program} {ops:Array Oper} {C:World→Prop} {Q:Act→Prop} {a:Act} {o:Oper} {rest:List Oper} (hw:Region.wanted o (yielded ops a.tmps)=true) (ty:TypeId) (x:Operand) (ho:o.op = .load ty x)
 (b off:Nat) (hx:a.eval x = .pointer (some ⟨b,off,none⟩)) (cs:List Value) (d:TypeDesc) (hc : ∀ w,C w→w.rangeAt b off cs)
 (hu:P.underlying ty=some d) (hd:d.isRow=true) (hi:(P.info? ty).map (·.size)=some cs.length)
 (h:wpQuiet P ops C Q rest (a.put o.dst (.agg cs.toArray))):wpQuiet P ops C Q (o::rest) a:=by
 refine wpQuiet_step fun K hK=>?_
 rw [if_pos hw]
 refine ⟨.agg cs.toArray,fun w hCw=>?_,hK _ h⟩
 unfold Oper.quietAt execOp
 simp only [ho,hx,Instr.loadAt,Instr.sureAddr,Sem.run_bind,Sem.run_pure,Result.andThen_ok,run_loadVar_mid w b off ty cs d (hc w hCw) hu hd hi]
 exact ⟨rfl,rfl⟩
set_option maxRecDepth 100000 in
set_option maxHeartbeats 8000000 in
theorem sanity12_true (kc:List Int) (hk:kc.length=64) (w:World) (hK:Krow w 1 kc):Calls Tryz.prog 8 #[] w fun e w'=>e = .returned (.bool true)∧Below w.heap.size w w':=by
 have HK:=Bx.mk hK
 clear hK
 have hdef:=Bx.mk fun W=>lv_default W
 have hnew:=Bx.mk fun W=>newStore_any 1000 W
 have hat:=Bx.mk fun x y z W=>lv_at12 x y z W
 have hng:=Bx.mk fun W=>ref_newQ 1 (by decide) 0 0 0 8 8 4 (by decide) (by decide) 256 (by decide) (by decide) W
 have huni:=Bx.mk fun W Far sb lt st=>sn_uni W Far sb lt st
 have hpA:=Bx.mk fun W Far sb g lt st tb hg=>sn_pyrA W Far sb g lt st tb hg
 have hfr:=Bx.mk fun W Far sb g cap hc lt st hs hg=>sn_from W Far sb g cap hc lt st hs hg
 have hpB:=Bx.mk fun W Far sb g lt st tb hg=>sn_pyrB W Far sb g lt st tb hg
 have hlow:=Bx.mk fun sb ta nl tc id W=>lv_Halve_low sb ta nl tc id 2 W (by decide)
 have hdg:=Bx.mk fun W Far sb (st:StoreIs W Far sb 1000 tsC) t (ht:t∈tsC) hw (hk2:Krow W 1 kc)=>digest_any kc hk Far sb 1000 tsC tsC_good (by have:=tsC_len;omega) t hw ht W hk2 st
 have hidB:Bx ((idT tsC (trF 1 g8):Int)=idT tsB (trF 1 g8)):=⟨congrArg Int.ofNat (idT_prefix (show tsB <+: tsC from lvS_pre (s:=solT defL) (N:=1) (f:=g8) (ts:=tsB) (Nat.zero_le 1)) tsB_mem)⟩
 have hx1:Bx (lvX (solT defL) 1 g8 tsB 1=(idT tsC (trF 0 (lvlF (solT defL) g8 1)):Int)):=⟨lvX_all tsB_mem (Nat.le_refl 1)⟩
 have hmB:Bx (trF 1 g8∈tsC):=⟨lvS_mem (j:=0) tsB_mem (Nat.zero_le 1)⟩
 have hmC:Bx (trF 0 (lvlF (solT defL) g8 1)∈tsC):=⟨lvS_mem (j:=1) tsB_mem (Nat.le_refl 1)⟩
 have hwB:Bx (Tr.WF (trF 1 g8)):=⟨wf_can g8_fn.range 1 _ (by decide)⟩
 have hwC:Bx (Tr.WF (trF 0 (lvlF (solT defL) g8 1))):=⟨wf_can (lvl_range g8_fn.range 1) 0 _ (by decide)⟩
 have hcell:=Bx.mk fun W Far sb a cap st hs z v hz hv=>sn_cell W Far sb a cap st hs z v hz hv
 have hxB:=Bx.mk sn_xB
 generalize (idT tsA (.uni 1):Int)=ua at *
 go_enter Tryz.func8,Tryz.ntmps8
 go_wp2_with fail
 refine (hdef.out _).mono ?_
 rintro _ w1 ⟨g,rfl,hT,hb1,hg⟩
 have HT:=Bx.mk hT
 have HB1:=Bx.mk hb1
 clear hdef hT hb1
 go_wp2_with fail
 refine (hnew.out _).mono ?_
 rintro _ w2 ⟨sb,rfl,st2,hb2⟩
 have hgl:g<w1.heap.size:=by
  obtain ⟨b,off,e,hc⟩:=HT.out 0 mAir rfl
  simp only [Option.some.injEq,Addr.mk.injEq] at e
  have:=World.block_lt_of_cell? w1 _ (hc 0 _ rfl)
  rw [←e.1] at this;exact this
 have ST2:=Bx.mk st2
 have HB2:=Bx.mk hb2
 have lt2 : ∀ k,(fun k=>k<w1.heap.size) k→k<w2.heap.size:=fun k hk=>Nat.lt_of_lt_of_le hk hb2.size
 have HU:=Bx.mk (huni.out w2 _ sb lt2 st2)
 clear hnew st2 hb2 huni
 go_wp2_with fail
 refine HU.out.mono ?_
 rintro _ w3 ⟨rfl,st3,hk3⟩
 have K3:=Bx.mk ((Keeps.below (Far:=fun k=>k<w1.heap.size) HB2.out).trans hk3)
 have HP:=Bx.mk (hpA.out w3 _ sb g (fun k hk=>Nat.lt_of_lt_of_le (lt2 k hk) hk3.size) st3 (HT.out.far K3.out fun _ b hb=>by simp at hb;exact hb ▸ hgl) hgl)
 clear hk3 st3 HU hpA ST2 HB2 lt2
 go_wp2_with fail
 refine HP.out.mono ?_
 rintro _ w4 ⟨vl,rfl,own4,st4,hk4⟩
 have K4:=Bx.mk (K3.out.trans hk4)
 have O4:=Bx.mk own4
 have S4:=Bx.mk st4
 obtain ⟨gl,cl,rfl,-,hgl4,hcl,-,-⟩:=own4.at (by simp)
 have hl0:=Bx.mk (hcl 0 _ rfl)
 have hl2:=Bx.mk (hcl 2 _ rfl)
 have h3:[ua,ua,ua].length=3:=rfl
 rw [h3] at O4 S4 ⊢
 clear own4 st4 hk4 HP K3 hcl h3
 go_wp2_with fail
 refine (hat.out _ _ _ _).mono ?_
 rintro _ w5 ⟨rfl,hb5⟩
 have HB5:=Bx.mk hb5
 have h45:=Bx.mk hb5.size
 clear hb5
 go_wp2_with fail
 refine (hng.out _).mono ?_
 rintro _ w6 ⟨gg,cg,rfl,own6,hb6⟩
 have HB6:=Bx.mk (HB5.out.trans (hb6.mono HB5.out.size))
 have O6:=Bx.mk own6
 clear hb6 own6 hng HB5
 go_upto_region 8 with fail
 generalize hW7:World.alloc w6 _=w7
 have hb7:=bl1 hW7
 have KG:Bk w7 w6.heap.size #[(0:Int),(0:Int),(0:Int),(8:Int),(8:Int),(4:Int),.slice (some ⟨gg,0,none⟩) 256 cg] 28:=bk0 hW7 rfl
 clear hW7
 have HB7:=Bx.mk (HB6.out.trans (hb7.mono HB6.out.size))
 have O7:=Bx.mk (O6.out.below hb7)
 clear hb7 HB6 O6
 obtain ⟨kg0,kg1,kg2,kg3,kg4,kg5,kg6⟩:=KG.c7
 obtain ⟨F7,hF7⟩ : ∃ F:Nat→Prop,F=fun x=>(x<w1.heap.size∨gl=x)∨(w4.heap.size≤x∧x<w7.heap.size):=⟨_,rfl⟩
 have HF7:=Bx.mk hF7
 have hgl7:gl<w4.heap.size:=hgl4
 have st7:StoreIs w7 F7 sb 1000 tsA:=(S4.out.widen (Far':=F7) fun k hk=>by
  rw [hF7] at hk
  rcases hk with (hk | hk) | hk
  · exact .inl (.inl hk)
  · exact .inl (.inr (by rw [hk];rfl))
  · exact .inr hk.1).later HB7.out
 have lt7 : ∀ k,F7 k→k<w7.heap.size:=fun k hk=>by
  rw [hF7] at hk
  have h1:=HB7.out.size
  have h2:=K4.out.size
  rcases hk with (hk | hk) | hk
  · have:=HB1.out.size;omega
  · omega
  · exact hk.2
 have hcg:256≤cg:=by
  obtain ⟨a,c,h1,h2,-⟩:=ownsRow_form O7.out
  injection h1 with _ _ h1
  subst h1
  simpa using h2
 have hgg:=O7.out.lt gg rfl
 have HF:=Bx.mk (hfr.out w7 F7 sb gg cg hcg lt7 st7 O7.out.sl (by rw [hF7];exact .inr ⟨by have:=h45.out;omega,hgg.2⟩))
 have hF0 : ∀ k,k<w1.heap.size→F7 k:=fun k hk=>by rw [hF7];exact .inl (.inl hk)
 have hFl:F7 gl:=by rw [hF7];exact .inl (.inr rfl)
 have K7:=Bx.mk (K4.out.trans (Keeps.below (Far:=fun k=>k<w1.heap.size) HB7.out))
 have h70:=Bx.mk (cell_later HB7.out hl0.out)
 have h72:=Bx.mk (cell_later HB7.out hl2.out)
 have LT7:=Bx.mk lt7
 have HF0:=Bx.mk hF0
 have HFl:=Bx.mk hFl
 clear hF7 hgg hcg st7 lt7 hfr hF0 hFl O7 HF7 K4 hl0 hl2 HB7 S4 O4 h45
 go_wp2_with fail
 clear kg0 kg1 kg2 kg3 kg4 kg5 kg6 KG
 refine HF.out.mono ?_
 rintro _ w8 ⟨rfl,st8,hk8⟩
 have K8:=Bx.mk (K7.out.trans (hk8.less HF0.out))
 have h80:=Bx.mk (cell_keepsL hk8 HFl.out h70.out)
 have h82:=Bx.mk (cell_keepsL hk8 HFl.out h72.out)
 have LT8:Bx (∀ k,F7 k→k<w8.heap.size):=⟨fun k hk=>Nat.lt_of_lt_of_le (LT7.out k hk) hk8.size⟩
 have HP:=Bx.mk (hpB.out w8 F7 sb g LT8.out st8 (HT.out.far K8.out fun _ b hb=>by simp at hb;exact hb ▸ hgl) (HF0.out g hgl))
 clear st8 hk8 HF K7 h70 h72 LT7 hpB
 go_wp2_with fail
 refine HP.out.mono ?_
 rintro _ w9 ⟨vm,rfl,own9,st9,hk9⟩
 have K9:=Bx.mk (K8.out.trans (hk9.less HF0.out))
 have h90:=Bx.mk (cell_keepsL hk9 HFl.out h80.out)
 have h92:=Bx.mk (cell_keepsL hk9 HFl.out h82.out)
 have ST9:=Bx.mk st9
 obtain ⟨gm,cm,rfl,-,-,hcm,-,-⟩:=own9.at (by simp)
 have hm0:Bx (w9.cell? ⟨gm,0,none⟩=some (.int .i64 (idT tsB (trF 1 g8):Int))):=⟨hcm 0 _ rfl⟩
 have hlen2:((List.range 2).map (lvX (solT defL) 1 g8 tsB)).length=2:=rfl
 rw [hlen2] at own9 ST9 ⊢
 have O9:=Bx.mk own9
 clear own9 st9 hk9 HP K8 h80 h82 LT8 hcm hlen2 HF0 HFl
 have HLo:=Bx.mk (hlow.out sb (some ⟨g,0,none⟩) 9 9 ua w9)
 clear hlow
 go_wp2_with fail
 refine HLo.out.mono ?_
 rintro _ w10 ⟨rfl,hb10⟩
 have HB10:=Bx.mk hb10
 clear HLo hb10
 have hkr:Bx (Krow w10 1 kc):=⟨krow_below (krow_keeps (krow_below HK.out HB1.out) K9.out fun x hx=>hx) HB10.out⟩
 have hro:=Bx.mk (lv_roots sb (some ⟨gm,0,none⟩) cm ((List.range 2).map (lvX (solT defL) 1 g8 tsB)) [digT kc (trF 1 g8),digT kc (trF 0 (lvlF (solT defL) g8 1))] w10 (O9.out.below HB10.out).sl rfl (by simp) (fun d hd=>by simp at hd;rcases hd with rfl | rfl <;> exact digT_len kc _) ⟨fun W hb k id d hi hd=>by
  have stW:=(ST9.out.later HB10.out).later hb
  have krW:=krow_below hkr.out hb
  rw [sn_xB] at hi
  match k,hi,hd with
  | 0, hi, hd =>
    obtain rfl:=Option.some.inj hi
    obtain rfl:=Option.some.inj hd
    rw [←hidB.out]
    exact hdg.out W _ sb stW _ hmB.out hwB.out krW
  | 1, hi, hd =>
    obtain rfl:=Option.some.inj hi
    obtain rfl:=Option.some.inj hd
    rw [hx1.out]
    exact hdg.out W _ sb stW _ hmC.out hwC.out krW
  | k+2,hi,_=>simp at hi⟩)
 have hl22:((List.range 2).map (lvX (solT defL) 1 g8 tsB)).length=2:=rfl
 rw [hl22] at hro
 clear hl22
 go_wp2_with fail
 refine hro.out.mono ?_
 rintro _ w11 ⟨vr,rfl,ownr,hb11⟩
 have HB11:=Bx.mk (HB10.out.trans (hb11.mono HB10.out.size))
 have OR:=Bx.mk ownr
 obtain ⟨ar,cr,rfl,-,hsr⟩:=ownr.form
 obtain ⟨gr,rfl,hr0,h16⟩:=hsr 0 _ rfl
 have HR0:=Bx.mk hr0
 have H16:=Bx.mk h16
 have TB9:Bx (SlM w9 (some ⟨g,0,none⟩) defL):=⟨HT.out.far K9.out fun _ b hb=>by simp at hb;exact hb ▸ hgl⟩
 have hpk:=Bx.mk fun p W (hb:Below w9.heap.size w9 W)=>lv_pick (some ⟨g,0,none⟩) 9 defL p (by decide) W (TB9.out.below hb)
 have hp1:Bx (∀ W,Below w9.heap.size w9 W→Calls Tryz.prog 23 #[.slice (some ⟨g,0,none⟩) 9 9,.agg #[(1:Int),(1:Int),(2:Int),(2:Int),(0:Int),(0:Int),(0:Int),(0:Int)]] W fun e w'=>e = .returned (.int .i64 1)∧Below W.heap.size W w'):=⟨fun W hb=>by have:=hpk.out (p8 1 1 2 2 0 0 0 0) W hb;rw [pick1] at this;exact this⟩
 have hp2:Bx (∀ W,Below w9.heap.size w9 W→Calls Tryz.prog 23 #[.slice (some ⟨g,0,none⟩) 9 9,.agg #[(1:Int),(1:Int),(2:Int),(2:Int),(2:Int),(5:Int),(5:Int),(5:Int)]] W fun e w'=>e = .returned (.int .i64 2)∧Below W.heap.size W w'):=⟨fun W hb=>by have:=hpk.out (p8 1 1 2 2 2 5 5 5) W hb;rw [pick2] at this;exact this⟩
 have hp3:Bx (∀ W,Below w9.heap.size w9 W→Calls Tryz.prog 23 #[.slice (some ⟨g,0,none⟩) 9 9,.agg #[(1:Int),(1:Int),(1:Int),(5:Int),(5:Int),(0:Int),(0:Int),(5:Int)]] W fun e w'=>e = .returned (.int .i64 5)∧Below W.heap.size W w'):=⟨fun W hb=>by have:=hpk.out (p8 1 1 1 5 5 0 0 5) W hb;rw [pick3] at this;exact this⟩
 clear ownr hb11 hsr hr0 h16 hro hpk HB10
 go_wp2_with fail
 refine (hp1.out _ HB11.out).mono ?_
 rintro _ w12 ⟨rfl,hb12⟩
 have HB12:=Bx.mk (HB11.out.trans (hb12.mono HB11.out.size))
 have HC12:=Bx.mk hb12
 clear hb12 hp1
 go_wp2_with fail
 refine (hp2.out _ HB12.out).mono ?_
 rintro _ w13 ⟨rfl,hb13⟩
 have HB13:=Bx.mk (HB12.out.trans (hb13.mono HB12.out.size))
 have HC13:=Bx.mk (HC12.out.trans (hb13.mono HC12.out.size))
 clear hb13 hp2
 go_wp2_with fail
 refine (hp3.out _ HB13.out).mono ?_
 rintro _ w14 ⟨rfl,hb14⟩
 have HB14:=Bx.mk (HB13.out.trans (hb14.mono HB13.out.size))
 have HC14:=Bx.mk (HC13.out.trans (hb14.mono HC13.out.size))
 clear hb14 hp3
 have stB:=fun W (hb:Below w14.heap.size w14 W)=>(ST9.out.later HB14.out).later hb
 have hsl:=fun W (hb:Below w14.heap.size w14 W)=>((O9.out.below HB14.out).below hb).sl
 have krB:=fun W (hb:Below w14.heap.size w14 W)=>krow_below (krow_below (krow_keeps (krow_below HK.out HB1.out) K9.out fun x hx=>hx) HB14.out) hb
 have q0:=Bx.mk fun dk osk=>Calls.regrown_of ((lv_levels 5 (grow (redrawn w14 dk) osk)).mono fun e w' h=>(⟨h.1,h.2 ▸ Below.refl _ _⟩:e = .returned (.int .i64 (lvV 5))∧Below _ _ w'))
 rw [show lvV 5=4 by decide] at q0
 have q1:=Bx.mk fun dk osk=>Calls.regrown_of ((lv_size 3 (grow (redrawn w14 dk) osk)).mono fun e w' h=>(⟨h.1,h.2 ▸ Below.refl _ _⟩:e = .returned (.int .i64 (sizeV 3))∧Below _ _ w'))
 rw [show sizeV 3=8 by decide] at q1
 have q2:=Bx.mk fun dk osk=>Calls.regrown_of (hat.out 5 2 3 (grow (redrawn w14 dk) osk))
 have q3:=Bx.mk fun dk osk=>Calls.regrown_of (hat.out 5 2 4 (grow (redrawn w14 dk) osk))
 have q4:=Bx.mk fun dk osk=>Calls.regrown_of (hcell.out (grow (redrawn w14 dk) osk) _ sb (some ⟨gm,0,none⟩) cm (stB _ (below_regrown w14 dk osk)) (hsl _ (below_regrown w14 dk osk)) 3 1 (by decide) sn_cell1)
 have q5:=Bx.mk fun dk osk=>Calls.regrown_of (hcell.out (grow (redrawn w14 dk) osk) _ sb (some ⟨gm,0,none⟩) cm (stB _ (below_regrown w14 dk osk)) (hsl _ (below_regrown w14 dk osk)) 4 0 (by decide) sn_cell0)
 have q6:=Bx.mk fun dk osk=>Calls.regrown_of (hdg.out (grow (redrawn w14 dk) osk) _ sb (stB _ (below_regrown w14 dk osk)) (trF 1 g8) hmB.out hwB.out (krB _ (below_regrown w14 dk osk)))
 rw [hidB.out] at q6
 unfold arrV at q6
 have heqd:=fun W=>eql_digL (digT kc (trF 1 g8)) (digT_len kc _) W
 have hi16:Bx ((Tryz.prog.info? 43).map (·.size)=some ((digT kc (trF 1 g8)).map (Value.int .u8)).length):=⟨by rw [List.length_map,digT_len];exact sizeDig⟩
 have hrg:Bx (∀ W,(∃ P:Regrown,W=grow (redrawn w14 P.d) P.os)→W.rangeAt gr 0 ((digT kc (trF 1 g8)).map (Value.int .u8))):=⟨by
  rintro _ ⟨P,rfl⟩ j v hv
  exact cell_regrown (cell_later HC14.out (HR0.out j v hv)) _ _⟩
 have cl0 : ∀ dk osk,(grow (redrawn w14 dk) osk).cell? ⟨gl,0,none⟩=some (.int .i64 ua):=cell_regrown (cell_later HB14.out h90.out)
 have cl2 : ∀ dk osk,(grow (redrawn w14 dk) osk).cell? ⟨gl,2,none⟩=some (.int .i64 ua):=cell_regrown (cell_later HB14.out h92.out)
 have cm0 : ∀ dk osk,(grow (redrawn w14 dk) osk).cell? ⟨gm,0,none⟩=some (.int .i64 (idT tsB (trF 1 g8):Int)):=cell_regrown (cell_later HB14.out hm0.out)
 have HBw:=Bx.mk (below_of_keeps (below_of_keeps HB1.out K9.out fun k hk=>Nat.lt_of_lt_of_le hk HB1.out.size) (Keeps.below (Far:=fun k=>k<w9.heap.size) HB14.out) fun k hk=>Nat.lt_of_lt_of_le (Nat.lt_of_lt_of_le hk HB1.out.size) K9.out.size)
 generalize digT kc (trF 1 g8)=D at *
 generalize (idT tsB (trF 1 g8):Int)=ib at *
 clear stB hsl krB hat hcell hdg hidB hx1 hmB hmC hwB hwC hxB TB9 HR0 h90 h92 hm0 O9 ST9 OR H16 HC12 HC13 HC14 HB11 HB12 HB13 K9 HT HK hgl
 go_upto_region 15 with fail
 refine wp_region_quiet_below (by kernel_rfl) (by kernel_rfl) ?_
 repeat (first
  | refine wpQuiet_load_midG (by rfl) _ _ rfl gr 0 rfl _ _ hrg.out Tryz.underlying43 rfl hi16.out ?_
  | go_big_quiet_step (first | with_reducible exact q0.out _ _ | with_reducible exact q1.out _ _ | with_reducible exact q2.out _ _ | with_reducible exact q3.out _ _ | with_reducible exact q4.out _ _ | with_reducible exact q5.out _ _ | with_reducible exact q6.out _ _)
  | quiet_step (first | with_reducible exact q0.out _ _ | with_reducible exact q1.out _ _ | with_reducible exact q2.out _ _ | with_reducible exact q3.out _ _ | with_reducible exact q4.out _ _ | with_reducible exact q5.out _ _ | with_reducible exact q6.out _ _))
 refine wpQuiet_nil ?_
 rintro _ ⟨⟨dq,osq⟩,rfl⟩
 have hbq:=Bx.mk (HBw.out.trans ((below_regrown w14 dq osq).mono HBw.out.size))
 clear cl0 cl2 cm0 q0 q1 q2 q3 q4 q5 q6 hrg hi16 heqd
 generalize grow (redrawn w14 dq) osq=w15 at *
 go_wp2_with fail
 go_ret
 exact ⟨rfl,hbq.out⟩
end
section
open Go.RowKit Go.Sort Go.Maps
open Oct
set_option maxRecDepth 100000 in
set_option maxHeartbeats 2000000 in
theorem lc_off (kc:List Int) (hk:kc.length=64) (a b c d e f dd:Int) (ha:Option Addr) (hcp nl:Nat) (ta:Option Addr) (tl tc:Nat) (k px py pz:Int) (w:World) (hK:Krow w 1 kc) (bi:Bool)
 (HBu : ∀ W,Below w.heap.size w W→Calls Tryz.prog 9 #[.agg #[a,b,c,d,e,f,.slice ha nl hcp],dd,(100000:Int)] W fun e w' => ∃ s i,e = .returned (.tuple #[.pointer s,i,.bool bi])∧Below W.heap.size W w') (hor:bi=false∨(bi=true∧300<tl)∨(bi=true∧tl≤300∧k<0)∨(bi=true∧tl≤300∧0≤k∧3<k)∨(bi=true∧tl≤300∧0≤k∧k≤3∧(2≤dd∧dd≤14)∧dd - 2<k)) :
 Calls Tryz.prog 5 #[.agg #[a,b,c,d,e,f,.slice ha nl hcp],dd,.slice ta tl tc,k,.agg #[px,py,pz]] w fun e w'=>e = .returned (.bool true)∧Below w.heap.size w w':=by
 have HS:=Bx.mk fun W (hb:Below w.heap.size w W)=>sanity12_true kc hk W (krow_below hK hb)
 have HB:=Bx.mk HBu
 clear hK HBu
 go_enter Tryz.func5,Tryz.ntmps5
 go_upto_region 1 with fail
 generalize hW:World.alloc (World.alloc w _) _=W
 have hB:Below w.heap.size w W:=by rw [←hW];exact (((Below.refl _ _).alloc (Nat.le_refl _) _).alloc (by simp) _)
 have kg:Bk W w.heap.size #[a,b,c,d,e,f,.slice ha nl hcp] 28:=bk1 hW
 clear hW
 go_wp2_with fail
 refine (HS.out _ hB).mono ?_
 rintro _ w1 ⟨rfl,hb⟩
 replace hB:=hB.trans (hb.mono hB.size)
 replace kg:=kg.later hb
 obtain ⟨c0,c1,c2,c3,c4,c5,c6⟩:=kg.c7
 clear hb HS
 go_wp2_with fail
 refine (HB.out _ hB).mono ?_
 rintro _ w2 ⟨s,i,rfl,hb⟩
 have HB2:=Bx.mk (hB.trans (hb.mono hB.size))
 clear hb hB HB c0 c1 c2 c3 c4 c5 c6 kg
 rcases hor with h | h | h | h | h
 · subst h
   go_wp2_with fail
   go_ret
   exact ⟨rfl,HB2.out⟩
 · obtain ⟨rfl,h⟩:=h
   have t0:decide ((tl:Int) > 300)=true:=by simp;omega
   clear h
   go_wp2_with fail
   go_ret
   exact ⟨rfl,HB2.out⟩
 · obtain ⟨rfl,h1,h2⟩:=h
   have t0:decide ((tl:Int) > 300)=false:=by simp;omega
   have t1:decide (k<0)=true:=by simpa using h2
   clear h1 h2
   go_wp2_with fail
   go_ret
   exact ⟨rfl,HB2.out⟩
 · obtain ⟨rfl,h1,h2,h3⟩:=h
   have t0:decide ((tl:Int) > 300)=false:=by simp;omega
   have t1:decide (k<0)=false:=by simpa using h2
   have t2:decide (k > 3)=true:=by simpa using h3
   clear h1 h2 h3
   go_wp2_with fail
   go_ret
   exact ⟨rfl,HB2.out⟩
 · obtain ⟨rfl,h1,h2,h3,h4,h5⟩:=h
   have t0:decide ((tl:Int) > 300)=false:=by simp;omega
   have t1:decide (k<0)=false:=by simpa using h2
   have t2:decide (k > 3)=false:=by simpa using h3
   have hw:IntKind.i64.wrap (dd - 2)=dd - 2:=IntWalk.i64_in _ (by omega)
   have t3:decide (k > dd - 2)=true:=by simpa using h5
   clear h1 h2 h3 h4 h5
   go_wp2_with fail
   go_ret
   exact ⟨rfl,HB2.out⟩
set_option maxRecDepth 100000 in
set_option maxHeartbeats 2000000 in
theorem li_off (kc:List Int) (hk:kc.length=64) (a b c d e f dd:Int) (ha:Option Addr) (hcp nl:Nat) (ta:Option Addr) (tl tc:Nat) (k px py pz qx qy qz r:Int) (w:World) (hK:Krow w 1 kc) (bi:Bool)
 (HBu : ∀ W,Below w.heap.size w W→Calls Tryz.prog 9 #[.agg #[a,b,c,d,e,f,.slice ha nl hcp],dd,(100000:Int)] W fun e w' => ∃ s i,e = .returned (.tuple #[.pointer s,i,.bool bi])∧Below W.heap.size W w') (hor:bi=false∨(bi=true∧300<tl)∨(bi=true∧tl≤300∧k<0)∨(bi=true∧tl≤300∧0≤k∧(2≤dd∧dd≤14)∧dd - 2<k)) :
 Calls Tryz.prog 7 #[.agg #[a,b,c,d,e,f,.slice ha nl hcp],dd,.slice ta tl tc,k,.agg #[px,py,pz],.agg #[qx,qy,qz],.int .u8 r] w fun e w'=>e = .returned (.bool true)∧Below w.heap.size w w':=by
 have HS:=Bx.mk fun W (hb:Below w.heap.size w W)=>sanity12_true kc hk W (krow_below hK hb)
 have HB:=Bx.mk HBu
 clear hK HBu
 go_enter Tryz.func7,Tryz.ntmps7
 go_upto_region 1 with fail
 generalize hW:World.alloc (World.alloc (World.alloc w _) _) _=W
 have hB:Below w.heap.size w W:=by rw [←hW];exact ((((Below.refl _ _).alloc (Nat.le_refl _) _).alloc (by simp) _).alloc (by simp;omega) _)
 have kg:Bk W w.heap.size #[a,b,c,d,e,f,.slice ha nl hcp] 28:=bk2 hW
 clear hW
 go_wp2_with fail
 refine (HS.out _ hB).mono ?_
 rintro _ w1 ⟨rfl,hb⟩
 replace hB:=hB.trans (hb.mono hB.size)
 replace kg:=kg.later hb
 obtain ⟨c0,c1,c2,c3,c4,c5,c6⟩:=kg.c7
 clear hb HS
 go_wp2_with fail
 refine (HB.out _ hB).mono ?_
 rintro _ w2 ⟨s,i,rfl,hb⟩
 have HB2:=Bx.mk (hB.trans (hb.mono hB.size))
 clear hb hB HB c0 c1 c2 c3 c4 c5 c6 kg
 rcases hor with h | h | h | h
 · subst h
   go_wp2_with fail
   go_ret
   exact ⟨rfl,HB2.out⟩
 · obtain ⟨rfl,h⟩:=h
   have t0:decide ((tl:Int) > 300)=true:=by simp;omega
   clear h
   go_wp2_with fail
   go_ret
   exact ⟨rfl,HB2.out⟩
 · obtain ⟨rfl,h1,h2⟩:=h
   have t0:decide ((tl:Int) > 300)=false:=by simp;omega
   have t1:decide (k<0)=true:=by simpa using h2
   clear h1 h2
   go_wp2_with fail
   go_ret
   exact ⟨rfl,HB2.out⟩
 · obtain ⟨rfl,h1,h2,h4,h5⟩:=h
   have t0:decide ((tl:Int) > 300)=false:=by simp;omega
   have t1:decide (k<0)=false:=by simpa using h2
   have hw:IntKind.i64.wrap (dd - 2)=dd - 2:=IntWalk.i64_in _ (by omega)
   have t3:decide (k > dd - 2)=true:=by simpa using h5
   clear h1 h2 h4 h5
   go_wp2_with fail
   go_ret
   exact ⟨rfl,HB2.out⟩
end
section
open Go.RowKit Go.Sort Go.Maps
open Oct
theorem lvS_bound {s:Int→Bool} {N:Nat} {f:Pt→Int} (hN:N≤12) (hf:FnC N f) (hfew:(addn N f []).length≤3901):(lvS s N f (addn N f []) N).length≤60000:=by
 have h:=lvS_len (s:=s) hN hf (addn_good hN hf good_nil) N (Nat.le_refl N)
 have h2:N * (addn N f []).length≤12 * 3901:=Nat.mul_le_mul hN hfew
 omega
theorem built12_any (a b c d e f dd room:Int) (ha:Option Addr) (hcp:Nat) (xs:List Int) (hcap:xs.length≤hcp) (hr:0≤room∧room≤100000) (w:World) (hsl:Sl w .i64 ha xs) (bi:Bool) (hbi:bi=decide (xs.length≤300∧fromE ⟨⟨a,b,c⟩,⟨d,e,f⟩⟩ xs dd=0)) :
 ∀ W,Below w.heap.size w W→Calls Tryz.prog 9 #[.agg #[a,b,c,d,e,f,.slice ha xs.length hcp],dd,room] W fun E w' => ∃ s i,E = .returned (.tuple #[.pointer s,i,.bool bi])∧Below W.heap.size W w':=by
 intro W hb
 by_cases h1:xs.length≤300
 · by_cases h2:fromE ⟨⟨a,b,c⟩,⟨d,e,f⟩⟩ xs dd=0
   · rw [decide_eq_true ⟨h1,h2⟩] at hbi
     subst hbi
     obtain ⟨n,hn,rfl,hV,hC⟩:=fromE_zero h2
     obtain ⟨r,rfl⟩ : ∃ r:Nat,room=(r:Int):=⟨room.toNat,by omega⟩
     refine (built12_yes r (by omega) a b c d e f ha hcp xs h1 n hn (goodG_of hV h1 hcap) h2 hV hC W (hsl.below hb)).mono ?_
     rintro E w' ⟨sb,h,-,hb'⟩
     exact ⟨_,_,h,hb'⟩
   · rw [decide_eq_false (fun h=>h2 h.2)] at hbi
     subst hbi
     exact (built12_err a b c d e f dd room ha hcp xs h1 hr h2 W (hsl.below hb)).mono fun E w' ⟨h,hb'⟩=>⟨_,_,h,hb'⟩
 · rw [decide_eq_false (fun h=>h1 h.1)] at hbi
   subst hbi
   exact (built12_big a b c d e f dd room ha hcp xs.length (by omega) W).mono fun E w' ⟨h,hb'⟩=>⟨_,_,h,hb'⟩
end
section
open Go.RowKit Go.Sort Go.Maps
open Oct
structure MI (w w7:World) (Fb:Nat→Prop) (sb:Nat) (most:Int) (us:List Tr) (Ds:List (List Int)) (k:Nat) (v:Value) (wr:World):Prop where
 bel:Below w.heap.size w wr
 own:OwnD wr w7.heap.size v (Ds.take k)
 st:StoreIs wr (fun x=>Fb x∨v.ownBlock=some x) sb most us
 keeps:Keeps Fb w7 wr
theorem MI.later {w w7 wr w':World} {Fb:Nat→Prop} {sb:Nat} {most:Int} {us:List Tr} {Ds:List (List Int)} {k:Nat} {v:Value} (h:MI w w7 Fb sb most us Ds k v wr) (hb:Below wr.heap.size wr w'):MI w w7 Fb sb most us Ds k v w' :=
 ⟨h.bel.trans (hb.mono h.bel.size),h.own.below hb,h.st.later hb,h.keeps.trans (Keeps.below hb)⟩
theorem MI.half {w w7 wr w':World} {Fb:Nat→Prop} {sb:Nat} {most:Int} {us:List Tr} {Ds:List (List Int)} {k:Nat} {v:Value} (h:MI w w7 Fb sb most us Ds k v wr) (hF : ∀ x,x<w.heap.size→Fb x) (st:StoreIs w' (fun x=>Fb x∨v.ownBlock=some x) sb most us) (hk:Keeps (fun x=>Fb x∨v.ownBlock=some x) wr w'):MI w w7 Fb sb most us Ds k v w' :=
 ⟨below_of_keeps h.bel hk fun x hx=>.inl (hF x hx),h.own.far hk fun g e=>.inr e,st,h.keeps.trans (hk.less fun x hx=>.inl hx)⟩
end
end Go.Proofs.YtgnfgblkpnfcnaaGreatDoor
