/- Lsw, Lop, Lpm, Lou: joined by program, for one claim. -/
import Derived.Test.YtgnfgblkpnfcnaaGreatDoorM36
import Derived.Deep.MidRow
import Derived.Test.YtgnfgblkpnfcnaaGreatDoorM18
import Derived.Laws.IdiomArrays
import Derived.Test.YtgnfgblkpnfcnaaGreatDoorM19
set_option linter.unusedVariables false
set_option linter.unusedSimpArgs false
namespace Go.Proofs.YtgnfgblkpnfcnaaGreatDoor
section
open Go.RowKit Go.Sort Go.Maps
open Oct
theorem krow_below {w w':World} {g:Nat} {ks:List Int} (h:Krow w g ks) (hb:Below w.heap.size w w'):Krow w' g ks:=fun i v hv=>cell_later hb (h i v hv)
theorem krow_keeps {w w':World} {Far:Nat→Prop} {g:Nat} {ks:List Int} (h:Krow w g ks) (hk:Keeps Far w w') (hf : ∀ x,x<w.heap.size→Far x):Krow w' g ks:=fun i v hv=>cell_keepsL hk (hf _ (World.block_lt_of_cell? w _ (h i v hv))) (h i v hv)
theorem eql_digL (xs:List Int) (hl:xs.length=16) (w:World):(binOp .eql 43 (.agg (xs.map (Value.int .u8)).toArray) (.agg (xs.map (Value.int .u8)).toArray)).run Tryz.prog w = .ok (.bool true) w:=by
 obtain ⟨i,hi⟩ : ∃ i,Tryz.prog.info? 5=some i:=Option.isSome_iff_exists.1 (by kernel_rfl)
 have hc : Tryz.prog.cellsOf 5=1:=by kernel_rfl
 match xs,hl with
 | [x0, x1, x2, x3, x4, x5, x6, x7, x8, x9, x10, x11, x12, x13, x14, x15], _ =>
   simp only [List.map_cons,List.map_nil]
   rw [run_eql_struct,run_equalIn_array (n:=16) w 9999 _ _ Tryz.underlying43 hi,hc]
   rw [show List.range 16=[0,1,2,3,4,5,6,7,8,9,10,11,12,13,14,15] by decide]
   simp only [Op.eqItems]
   go_simp
theorem wpQuiet_load_midG {P:Program} {ops:Array Oper} {C:World→Prop} {Q:Act→Prop} {a:Act} {o:Oper} {rest:List Oper} (hw:Region.wanted o (yielded ops a.tmps)=true) (ty:TypeId) (x:Operand) (ho:o.op = .load ty x)
 (b off:Nat) (hx:a.eval x = .pointer (some ⟨b,off,none⟩)) (cs:List Value) (d:TypeDesc) (hc : ∀ w,C w→w.rangeAt b off cs)
 (hu:P.underlying ty=some d) (hd:d.isRow=true) (hi:(P.info? ty).map (·.size)=some cs.length)
 (h:wpQuiet P ops C Q rest (a.put o.dst (.agg cs.toArray))):wpQuiet P ops C Q (o::rest) a:=by
 refine wpQuiet_step fun K hK=>?_
 rw [if_pos hw]
 refine ⟨.agg cs.toArray,fun w hCw=>?_,hK _ h⟩
 unfold Oper.quietAt execOp
 simp only [ho,hx,Instr.loadAt,Instr.sureAddr,Sem.run_bind,Sem.run_pure,Result.andThen_ok,run_loadVar_mid w b off ty cs d (hc w hCw) hu hd hi]
 exact ⟨rfl,rfl⟩
set_option maxRecDepth 100000 in
set_option maxHeartbeats 8000000 in
theorem sanity12_true (kc:List Int) (hk:kc.length=64) (w:World) (hK:Krow w 1 kc):Calls Tryz.prog 8 #[] w fun e w'=>e = .returned (.bool true)∧Below w.heap.size w w':=by
 have HK:=Bx.mk hK
 clear hK
 have hdef:=Bx.mk fun W=>lv_default W
 have hnew:=Bx.mk fun W=>newStore_any 1000 W
 have hat:=Bx.mk fun x y z W=>lv_at12 x y z W
 have hng:=Bx.mk fun W=>ref_newQ 1 (by decide) 0 0 0 8 8 4 (by decide) (by decide) 256 (by decide) (by decide) W
 have huni:=Bx.mk fun W Far sb lt st=>sn_uni W Far sb lt st
 have hpA:=Bx.mk fun W Far sb g lt st tb hg=>sn_pyrA W Far sb g lt st tb hg
 have hfr:=Bx.mk fun W Far sb g cap hc lt st hs hg=>sn_from W Far sb g cap hc lt st hs hg
 have hpB:=Bx.mk fun W Far sb g lt st tb hg=>sn_pyrB W Far sb g lt st tb hg
 have hlow:=Bx.mk fun sb ta nl tc id W=>lv_Halve_low sb ta nl tc id 2 W (by decide)
 have hdg:=Bx.mk fun W Far sb (st:StoreIs W Far sb 1000 tsC) t (ht:t∈tsC) hw (hk2:Krow W 1 kc)=>digest_any kc hk Far sb 1000 tsC tsC_good (by have:=tsC_len;omega) t hw ht W hk2 st
 have hidB:Bx ((idT tsC (trF 1 g8):Int)=idT tsB (trF 1 g8)):=⟨congrArg Int.ofNat (idT_prefix (show tsB <+: tsC from lvS_pre (s:=solT defL) (N:=1) (f:=g8) (ts:=tsB) (Nat.zero_le 1)) tsB_mem)⟩
 have hx1:Bx (lvX (solT defL) 1 g8 tsB 1=(idT tsC (trF 0 (lvlF (solT defL) g8 1)):Int)):=⟨lvX_all tsB_mem (Nat.le_refl 1)⟩
 have hmB:Bx (trF 1 g8∈tsC):=⟨lvS_mem (j:=0) tsB_mem (Nat.zero_le 1)⟩
 have hmC:Bx (trF 0 (lvlF (solT defL) g8 1)∈tsC):=⟨lvS_mem (j:=1) tsB_mem (Nat.le_refl 1)⟩
 have hwB:Bx (Tr.WF (trF 1 g8)):=⟨wf_can g8_fn.range 1 _ (by decide)⟩
 have hwC:Bx (Tr.WF (trF 0 (lvlF (solT defL) g8 1))):=⟨wf_can (lvl_range g8_fn.range 1) 0 _ (by decide)⟩
 have hcell:=Bx.mk fun W Far sb a cap st hs z v hz hv=>sn_cell W Far sb a cap st hs z v hz hv
 have hxB:=Bx.mk sn_xB
 generalize (idT tsA (.uni 1):Int)=ua at *
 go_enter Tryz.func8,Tryz.ntmps8
 go_wp2_with fail
 refine (hdef.out _).mono ?_
 rintro _ w1 ⟨g,rfl,hT,hb1,hg⟩
 have HT:=Bx.mk hT
 have HB1:=Bx.mk hb1
 clear hdef hT hb1
 go_wp2_with fail
 refine (hnew.out _).mono ?_
 rintro _ w2 ⟨sb,rfl,st2,hb2⟩
 have hgl:g<w1.heap.size:=by
  obtain ⟨b,off,e,hc⟩:=HT.out 0 mAir rfl
  simp only [Option.some.injEq,Addr.mk.injEq] at e
  have:=World.block_lt_of_cell? w1 _ (hc 0 _ rfl)
  rw [←e.1] at this;exact this
 have ST2:=Bx.mk st2
 have HB2:=Bx.mk hb2
 have lt2 : ∀ k,(fun k=>k<w1.heap.size) k→k<w2.heap.size:=fun k hk=>Nat.lt_of_lt_of_le hk hb2.size
 have HU:=Bx.mk (huni.out w2 _ sb lt2 st2)
 clear hnew st2 hb2 huni
 go_wp2_with fail
 refine HU.out.mono ?_
 rintro _ w3 ⟨rfl,st3,hk3⟩
 have K3:=Bx.mk ((Keeps.below (Far:=fun k=>k<w1.heap.size) HB2.out).trans hk3)
 have HP:=Bx.mk (hpA.out w3 _ sb g (fun k hk=>Nat.lt_of_lt_of_le (lt2 k hk) hk3.size) st3 (HT.out.far K3.out fun _ b hb=>by simp at hb;exact hb ▸ hgl) hgl)
 clear hk3 st3 HU hpA ST2 HB2 lt2
 go_wp2_with fail
 refine HP.out.mono ?_
 rintro _ w4 ⟨vl,rfl,own4,st4,hk4⟩
 have K4:=Bx.mk (K3.out.trans hk4)
 have O4:=Bx.mk own4
 have S4:=Bx.mk st4
 obtain ⟨gl,cl,rfl,-,hgl4,hcl,-,-⟩:=own4.at (by simp)
 have hl0:=Bx.mk (hcl 0 _ rfl)
 have hl2:=Bx.mk (hcl 2 _ rfl)
 have h3:[ua,ua,ua].length=3:=rfl
 rw [h3] at O4 S4 ⊢
 clear own4 st4 hk4 HP K3 hcl h3
 go_wp2_with fail
 refine (hat.out _ _ _ _).mono ?_
 rintro _ w5 ⟨rfl,hb5⟩
 have HB5:=Bx.mk hb5
 have h45:=Bx.mk hb5.size
 clear hb5
 go_wp2_with fail
 refine (hng.out _).mono ?_
 rintro _ w6 ⟨gg,cg,rfl,own6,hb6⟩
 have HB6:=Bx.mk (HB5.out.trans (hb6.mono HB5.out.size))
 have O6:=Bx.mk own6
 clear hb6 own6 hng HB5
 go_upto_region 8 with fail
 generalize hW7:World.alloc w6 _=w7
 have hb7:=bl1 hW7
 have KG:Bk w7 w6.heap.size #[(0:Int),(0:Int),(0:Int),(8:Int),(8:Int),(4:Int),.slice (some ⟨gg,0,none⟩) 256 cg] 28:=bk0 hW7 rfl
 clear hW7
 have HB7:=Bx.mk (HB6.out.trans (hb7.mono HB6.out.size))
 have O7:=Bx.mk (O6.out.below hb7)
 clear hb7 HB6 O6
 obtain ⟨kg0,kg1,kg2,kg3,kg4,kg5,kg6⟩:=KG.c7
 obtain ⟨F7,hF7⟩ : ∃ F:Nat→Prop,F=fun x=>(x<w1.heap.size∨gl=x)∨(w4.heap.size≤x∧x<w7.heap.size):=⟨_,rfl⟩
 have HF7:=Bx.mk hF7
 have hgl7:gl<w4.heap.size:=hgl4
 have st7:StoreIs w7 F7 sb 1000 tsA:=(S4.out.widen (Far':=F7) fun k hk=>by
  rw [hF7] at hk
  rcases hk with (hk | hk) | hk
  · exact .inl (.inl hk)
  · exact .inl (.inr (by rw [hk];rfl))
  · exact .inr hk.1).later HB7.out
 have lt7 : ∀ k,F7 k→k<w7.heap.size:=fun k hk=>by
  rw [hF7] at hk
  have h1:=HB7.out.size
  have h2:=K4.out.size
  rcases hk with (hk | hk) | hk
  · have:=HB1.out.size;omega
  · omega
  · exact hk.2
 have hcg:256≤cg:=by
  obtain ⟨a,c,h1,h2,-⟩:=ownsRow_form O7.out
  injection h1 with _ _ h1
  subst h1
  simpa using h2
 have hgg:=O7.out.lt gg rfl
 have HF:=Bx.mk (hfr.out w7 F7 sb gg cg hcg lt7 st7 O7.out.sl (by rw [hF7];exact .inr ⟨by have:=h45.out;omega,hgg.2⟩))
 have hF0 : ∀ k,k<w1.heap.size→F7 k:=fun k hk=>by rw [hF7];exact .inl (.inl hk)
 have hFl:F7 gl:=by rw [hF7];exact .inl (.inr rfl)
 have K7:=Bx.mk (K4.out.trans (Keeps.below (Far:=fun k=>k<w1.heap.size) HB7.out))
 have h70:=Bx.mk (cell_later HB7.out hl0.out)
 have h72:=Bx.mk (cell_later HB7.out hl2.out)
 have LT7:=Bx.mk lt7
 have HF0:=Bx.mk hF0
 have HFl:=Bx.mk hFl
 clear hF7 hgg hcg st7 lt7 hfr hF0 hFl O7 HF7 K4 hl0 hl2 HB7 S4 O4 h45
 go_wp2_with fail
 clear kg0 kg1 kg2 kg3 kg4 kg5 kg6 KG
 refine HF.out.mono ?_
 rintro _ w8 ⟨rfl,st8,hk8⟩
 have K8:=Bx.mk (K7.out.trans (hk8.less HF0.out))
 have h80:=Bx.mk (cell_keepsL hk8 HFl.out h70.out)
 have h82:=Bx.mk (cell_keepsL hk8 HFl.out h72.out)
 have LT8:Bx (∀ k,F7 k→k<w8.heap.size):=⟨fun k hk=>Nat.lt_of_lt_of_le (LT7.out k hk) hk8.size⟩
 have HP:=Bx.mk (hpB.out w8 F7 sb g LT8.out st8 (HT.out.far K8.out fun _ b hb=>by simp at hb;exact hb ▸ hgl) (HF0.out g hgl))
 clear st8 hk8 HF K7 h70 h72 LT7 hpB
 go_wp2_with fail
 refine HP.out.mono ?_
 rintro _ w9 ⟨vm,rfl,own9,st9,hk9⟩
 have K9:=Bx.mk (K8.out.trans (hk9.less HF0.out))
 have h90:=Bx.mk (cell_keepsL hk9 HFl.out h80.out)
 have h92:=Bx.mk (cell_keepsL hk9 HFl.out h82.out)
 have ST9:=Bx.mk st9
 obtain ⟨gm,cm,rfl,-,-,hcm,-,-⟩:=own9.at (by simp)
 have hm0:Bx (w9.cell? ⟨gm,0,none⟩=some (.int .i64 (idT tsB (trF 1 g8):Int))):=⟨hcm 0 _ rfl⟩
 have hlen2:((List.range 2).map (lvX (solT defL) 1 g8 tsB)).length=2:=rfl
 rw [hlen2] at own9 ST9 ⊢
 have O9:=Bx.mk own9
 clear own9 st9 hk9 HP K8 h80 h82 LT8 hcm hlen2 HF0 HFl
 have HLo:=Bx.mk (hlow.out sb (some ⟨g,0,none⟩) 9 9 ua w9)
 clear hlow
 go_wp2_with fail
 refine HLo.out.mono ?_
 rintro _ w10 ⟨rfl,hb10⟩
 have HB10:=Bx.mk hb10
 clear HLo hb10
 have hkr:Bx (Krow w10 1 kc):=⟨krow_below (krow_keeps (krow_below HK.out HB1.out) K9.out fun x hx=>hx) HB10.out⟩
 have hro:=Bx.mk (lv_roots sb (some ⟨gm,0,none⟩) cm ((List.range 2).map (lvX (solT defL) 1 g8 tsB)) [digT kc (trF 1 g8),digT kc (trF 0 (lvlF (solT defL) g8 1))] w10 (O9.out.below HB10.out).sl rfl (by simp) (fun d hd=>by simp at hd;rcases hd with rfl | rfl <;> exact digT_len kc _) ⟨fun W hb k id d hi hd=>by
  have stW:=(ST9.out.later HB10.out).later hb
  have krW:=krow_below hkr.out hb
  rw [sn_xB] at hi
  match k,hi,hd with
  | 0, hi, hd =>
    obtain rfl:=Option.some.inj hi
    obtain rfl:=Option.some.inj hd
    rw [←hidB.out]
    exact hdg.out W _ sb stW _ hmB.out hwB.out krW
  | 1, hi, hd =>
    obtain rfl:=Option.some.inj hi
    obtain rfl:=Option.some.inj hd
    rw [hx1.out]
    exact hdg.out W _ sb stW _ hmC.out hwC.out krW
  | k+2,hi,_=>simp at hi⟩)
 have hl22:((List.range 2).map (lvX (solT defL) 1 g8 tsB)).length=2:=rfl
 rw [hl22] at hro
 clear hl22
 go_wp2_with fail
 refine hro.out.mono ?_
 rintro _ w11 ⟨vr,rfl,ownr,hb11⟩
 have HB11:=Bx.mk (HB10.out.trans (hb11.mono HB10.out.size))
 have OR:=Bx.mk ownr
 obtain ⟨ar,cr,rfl,-,hsr⟩:=ownr.form
 obtain ⟨gr,rfl,hr0,h16⟩:=hsr 0 _ rfl
 have HR0:=Bx.mk hr0
 have H16:=Bx.mk h16
 have TB9:Bx (SlM w9 (some ⟨g,0,none⟩) defL):=⟨HT.out.far K9.out fun _ b hb=>by simp at hb;exact hb ▸ hgl⟩
 have hpk:=Bx.mk fun p W (hb:Below w9.heap.size w9 W)=>lv_pick (some ⟨g,0,none⟩) 9 defL p (by decide) W (TB9.out.below hb)
 have hp1:Bx (∀ W,Below w9.heap.size w9 W→Calls Tryz.prog 23 #[.slice (some ⟨g,0,none⟩) 9 9,.agg #[(1:Int),(1:Int),(2:Int),(2:Int),(0:Int),(0:Int),(0:Int),(0:Int)]] W fun e w'=>e = .returned (.int .i64 1)∧Below W.heap.size W w'):=⟨fun W hb=>by have:=hpk.out (p8 1 1 2 2 0 0 0 0) W hb;rw [pick1] at this;exact this⟩
 have hp2:Bx (∀ W,Below w9.heap.size w9 W→Calls Tryz.prog 23 #[.slice (some ⟨g,0,none⟩) 9 9,.agg #[(1:Int),(1:Int),(2:Int),(2:Int),(2:Int),(5:Int),(5:Int),(5:Int)]] W fun e w'=>e = .returned (.int .i64 2)∧Below W.heap.size W w'):=⟨fun W hb=>by have:=hpk.out (p8 1 1 2 2 2 5 5 5) W hb;rw [pick2] at this;exact this⟩
 have hp3:Bx (∀ W,Below w9.heap.size w9 W→Calls Tryz.prog 23 #[.slice (some ⟨g,0,none⟩) 9 9,.agg #[(1:Int),(1:Int),(1:Int),(5:Int),(5:Int),(0:Int),(0:Int),(5:Int)]] W fun e w'=>e = .returned (.int .i64 5)∧Below W.heap.size W w'):=⟨fun W hb=>by have:=hpk.out (p8 1 1 1 5 5 0 0 5) W hb;rw [pick3] at this;exact this⟩
 clear ownr hb11 hsr hr0 h16 hro hpk HB10
 go_wp2_with fail
 refine (hp1.out _ HB11.out).mono ?_
 rintro _ w12 ⟨rfl,hb12⟩
 have HB12:=Bx.mk (HB11.out.trans (hb12.mono HB11.out.size))
 have HC12:=Bx.mk hb12
 clear hb12 hp1
 go_wp2_with fail
 refine (hp2.out _ HB12.out).mono ?_
 rintro _ w13 ⟨rfl,hb13⟩
 have HB13:=Bx.mk (HB12.out.trans (hb13.mono HB12.out.size))
 have HC13:=Bx.mk (HC12.out.trans (hb13.mono HC12.out.size))
 clear hb13 hp2
 go_wp2_with fail
 refine (hp3.out _ HB13.out).mono ?_
 rintro _ w14 ⟨rfl,hb14⟩
 have HB14:=Bx.mk (HB13.out.trans (hb14.mono HB13.out.size))
 have HC14:=Bx.mk (HC13.out.trans (hb14.mono HC13.out.size))
 clear hb14 hp3
 have stB:=fun W (hb:Below w14.heap.size w14 W)=>(ST9.out.later HB14.out).later hb
 have hsl:=fun W (hb:Below w14.heap.size w14 W)=>((O9.out.below HB14.out).below hb).sl
 have krB:=fun W (hb:Below w14.heap.size w14 W)=>krow_below (krow_below (krow_keeps (krow_below HK.out HB1.out) K9.out fun x hx=>hx) HB14.out) hb
 have q0:=Bx.mk fun dk osk=>Calls.regrown_of ((lv_levels 5 (grow (redrawn w14 dk) osk)).mono fun e w' h=>(⟨h.1,h.2 ▸ Below.refl _ _⟩:e = .returned (.int .i64 (lvV 5))∧Below _ _ w'))
 rw [show lvV 5=4 by decide] at q0
 have q1:=Bx.mk fun dk osk=>Calls.regrown_of ((lv_size 3 (grow (redrawn w14 dk) osk)).mono fun e w' h=>(⟨h.1,h.2 ▸ Below.refl _ _⟩:e = .returned (.int .i64 (sizeV 3))∧Below _ _ w'))
 rw [show sizeV 3=8 by decide] at q1
 have q2:=Bx.mk fun dk osk=>Calls.regrown_of (hat.out 5 2 3 (grow (redrawn w14 dk) osk))
 have q3:=Bx.mk fun dk osk=>Calls.regrown_of (hat.out 5 2 4 (grow (redrawn w14 dk) osk))
 have q4:=Bx.mk fun dk osk=>Calls.regrown_of (hcell.out (grow (redrawn w14 dk) osk) _ sb (some ⟨gm,0,none⟩) cm (stB _ (below_regrown w14 dk osk)) (hsl _ (below_regrown w14 dk osk)) 3 1 (by decide) sn_cell1)
 have q5:=Bx.mk fun dk osk=>Calls.regrown_of (hcell.out (grow (redrawn w14 dk) osk) _ sb (some ⟨gm,0,none⟩) cm (stB _ (below_regrown w14 dk osk)) (hsl _ (below_regrown w14 dk osk)) 4 0 (by decide) sn_cell0)
 have q6:=Bx.mk fun dk osk=>Calls.regrown_of (hdg.out (grow (redrawn w14 dk) osk) _ sb (stB _ (below_regrown w14 dk osk)) (trF 1 g8) hmB.out hwB.out (krB _ (below_regrown w14 dk osk)))
 rw [hidB.out] at q6
 unfold arrV at q6
 have heqd:=fun W=>eql_digL (digT kc (trF 1 g8)) (digT_len kc _) W
 have hi16:Bx ((Tryz.prog.info? 43).map (·.size)=some ((digT kc (trF 1 g8)).map (Value.int .u8)).length):=⟨by rw [List.length_map,digT_len];exact sizeDig⟩
 have hrg:Bx (∀ W,(∃ P:Regrown,W=grow (redrawn w14 P.d) P.os)→W.rangeAt gr 0 ((digT kc (trF 1 g8)).map (Value.int .u8))):=⟨by
  rintro _ ⟨P,rfl⟩ j v hv
  exact cell_regrown (cell_later HC14.out (HR0.out j v hv)) _ _⟩
 have cl0 : ∀ dk osk,(grow (redrawn w14 dk) osk).cell? ⟨gl,0,none⟩=some (.int .i64 ua):=cell_regrown (cell_later HB14.out h90.out)
 have cl2 : ∀ dk osk,(grow (redrawn w14 dk) osk).cell? ⟨gl,2,none⟩=some (.int .i64 ua):=cell_regrown (cell_later HB14.out h92.out)
 have cm0 : ∀ dk osk,(grow (redrawn w14 dk) osk).cell? ⟨gm,0,none⟩=some (.int .i64 (idT tsB (trF 1 g8):Int)):=cell_regrown (cell_later HB14.out hm0.out)
 have HBw:=Bx.mk (below_of_keeps (below_of_keeps HB1.out K9.out fun k hk=>Nat.lt_of_lt_of_le hk HB1.out.size) (Keeps.below (Far:=fun k=>k<w9.heap.size) HB14.out) fun k hk=>Nat.lt_of_lt_of_le (Nat.lt_of_lt_of_le hk HB1.out.size) K9.out.size)
 generalize digT kc (trF 1 g8)=D at *
 generalize (idT tsB (trF 1 g8):Int)=ib at *
 clear stB hsl krB hat hcell hdg hidB hx1 hmB hmC hwB hwC hxB TB9 HR0 h90 h92 hm0 O9 ST9 OR H16 HC12 HC13 HC14 HB11 HB12 HB13 K9 HT HK hgl
 go_upto_region 15 with fail
 refine wp_region_quiet_below (by kernel_rfl) (by kernel_rfl) ?_
 repeat (first
  | refine wpQuiet_load_midG (by rfl) _ _ rfl gr 0 rfl _ _ hrg.out Tryz.underlying43 rfl hi16.out ?_
  | go_big_quiet_step (first | with_reducible exact q0.out _ _ | with_reducible exact q1.out _ _ | with_reducible exact q2.out _ _ | with_reducible exact q3.out _ _ | with_reducible exact q4.out _ _ | with_reducible exact q5.out _ _ | with_reducible exact q6.out _ _)
  | quiet_step (first | with_reducible exact q0.out _ _ | with_reducible exact q1.out _ _ | with_reducible exact q2.out _ _ | with_reducible exact q3.out _ _ | with_reducible exact q4.out _ _ | with_reducible exact q5.out _ _ | with_reducible exact q6.out _ _))
 refine wpQuiet_nil ?_
 rintro _ ⟨⟨dq,osq⟩,rfl⟩
 have hbq:=Bx.mk (HBw.out.trans ((below_regrown w14 dq osq).mono HBw.out.size))
 clear cl0 cl2 cm0 q0 q1 q2 q3 q4 q5 q6 hrg hi16 heqd
 generalize grow (redrawn w14 dq) osq=w15 at *
 go_wp2_with fail
 go_ret
 exact ⟨rfl,hbq.out⟩
end
section
open Go.RowKit Go.ChangeShapes Go.WideShapes
open Oct
theorem list8 {α:Type} {l:List α} (h:l.length=8) : ∃ a b c d e f g i,l=[a,b,c,d,e,f,g,i]:=by
 match l,h with
 | [a,b,c,d,e,f,g,i],_=>exact ⟨a,b,c,d,e,f,g,i,rfl⟩
section
variable {H:Type} {enc:TypeId × Value→H} {w:World} {base:Nat} {held:Bool}
theorem open_rowsL {S:Type} {t e:TypeId} {k:Nat} (f:S→List Value) (Pk:S→Prop) (ht : Tryz.prog.underlying t=some (.slice e)) (hk : Tryz.prog.cellsOf e=k) (hpos:0<k) (s0:S)
 (R : ∀ {n:Nat} {cs:List Value} {y:DataW H × List MemPlace},cs.length=k→DataW.trod enc Tryz.prog w base (fun _=>true) held n e cs=some y → ∃ s:S,cs=f s∧Pk s)
 {fuel:Nat} {x:DataW H × List MemPlace} {v:Value} (h:DataW.trod enc Tryz.prog w base (fun _=>true) held fuel t [v]=some x) :
 ∃ ha hcp,∃ L:List S,v = .slice ha L.length hcp∧(L.length≤hcp∧hcp≤maxLen) ∧ ∀ (i:Nat) (s:S),L[i]? = some s → ∃ b off,ha=some ⟨b,off,none⟩∧(∀ j u,(f s)[j]? = some u→w.cell? ⟨b,off+i * k+j,none⟩=some u)∧Pk s:=by
 rcases Go.Deep.open_slice ht h with ⟨h1,_⟩ | ⟨a,len,cap,m,n,D,Pl,h1,_,hl,hcm,hm,_,hi⟩
 · simp only [List.cons.injEq,and_true] at h1
   exact ⟨none,0,[],h1,⟨Nat.le_refl _,Nat.zero_le _⟩,fun i s h=>by simp at h⟩
 · simp only [List.cons.injEq,and_true] at h1
   simp only [if_true] at hm
   subst hm
   have key : ∀ i,i<len → ∃ s:S,(f s).length=k∧(∀ j u,(f s)[j]? = some u→w.cell? (a.add (i * k+j))=some u)∧Pk s:=by
    intro i hil
    obtain ⟨cs,hcs,ht'⟩:=hi i (by omega)
    rw [hk] at hcs
    obtain ⟨_,hlen,hat⟩:=World.cells?_some hcs
    obtain ⟨s,rfl,hP⟩:=R hlen ht'
    refine ⟨s,hlen,fun j u hu=>?_,hP⟩
    have hj:=(List.getElem?_eq_some_iff.1 hu).1
    have:=hat j (by omega)
    rw [Go.Deep.add_add] at this
    rw [this]
    simpa [List.getD] using hu
   have hf : ∃ g:Nat→S,∀ i,i<len→(f (g i)).length=k∧(∀ j u,(f (g i))[j]? = some u→w.cell? (a.add (i * k+j))=some u)∧Pk (g i) :=
    ⟨fun i=>if h:i<len then (key i h).choose else s0,fun i h=>by simp only [dif_pos h];exact (key i h).choose_spec⟩
   obtain ⟨g,hf⟩:=hf
   refine ⟨some a,m,(List.range len).map g,by simpa using h1,⟨by simpa using hl,hcm⟩,fun i s he=>?_⟩
   rw [List.getElem?_map] at he
   have hil:i<len:=by
    rcases Nat.lt_or_ge i len with h | h
    · exact h
    · rw [List.getElem?_eq_none (by simpa using h)] at he;cases he
   rw [List.getElem?_range hil] at he
   simp only [Option.map_some,Option.some.injEq] at he
   subst he
   obtain ⟨hlen,hc,hP⟩:=hf i hil
   obtain ⟨b,off,spot⟩:=a
   have hspot:spot=none:=by
    obtain ⟨hlen0,hc0,-⟩:=hf 0 (by omega)
    have h0:=hc0 0 _ (List.getElem?_eq_getElem (by omega))
    have h1:=World.cell?_spot h0
    rw [Nat.zero_mul] at h1
    exact h1
   subst hspot
   have ha : ∀ j,(⟨b,off,none⟩:Addr).add j=⟨b,off+j,none⟩:=fun j=>by unfold Addr.add;split <;> simp_all
   refine ⟨b,off,rfl,fun j u hu=>?_,hP⟩
   have:=hc j u hu
   rw [ha] at this
   rw [Nat.add_assoc]
   exact this
theorem trod_struct6 {P:Program} {spare:Nat→Bool} {t:TypeId} {f0 f1 f2 f3 f4 f5:Field} {fuel:Nat} {cs:List Value} {x:DataW H × List MemPlace} (ht:P.underlying t=some (.struct #[f0,f1,f2,f3,f4,f5])) (h:DataW.trod enc P w base spare held fuel t cs=some x) :
 ∃ y0 y1 y2 y3 y4 y5 n, DataW.trod enc P w base spare held n f0.type ((cs.drop f0.offset).take (P.cellsOf f0.type)) = some y0 ∧ DataW.trod enc P w base spare held n f1.type ((cs.drop f1.offset).take (P.cellsOf f1.type)) = some y1 ∧
   DataW.trod enc P w base spare held n f2.type ((cs.drop f2.offset).take (P.cellsOf f2.type))=some y2∧DataW.trod enc P w base spare held n f3.type ((cs.drop f3.offset).take (P.cellsOf f3.type))=some y3 ∧
   DataW.trod enc P w base spare held n f4.type ((cs.drop f4.offset).take (P.cellsOf f4.type))=some y4∧DataW.trod enc P w base spare held n f5.type ((cs.drop f5.offset).take (P.cellsOf f5.type))=some y5:=by
 obtain ⟨xs,n,_,rfl,hl,hlen,hf⟩:=DataW.trod_struct ht h
 match xs,hlen with
 | [y0,y1,y2,y3,y4,y5],_=>exact ⟨y0,y1,y2,y3,y4,y5,n,by simpa using hf 0 f0 rfl,by simpa using hf 1 f1 rfl,by simpa using hf 2 f2 rfl,by simpa using hf 3 f3 rfl,by simpa using hf 4 f4 rfl,by simpa using hf 5 f5 rfl⟩
theorem trod_boolL {spare:Nat→Bool} {fuel:Nat} {x:DataW H × List MemPlace} {v:Value} (h:DataW.trod enc Tryz.prog w base spare held fuel 4 [v]=some x) : ∃ b,v = .bool b:=by
 obtain ⟨b,h1,_⟩:=DataW.trod_bool Tryz.underlying4 h
 simp only [List.cons.injEq,and_true] at h1
 exact ⟨b,h1⟩
theorem trod_strL {spare:Nat→Bool} {fuel:Nat} {x:DataW H × List MemPlace} {v:Value} (h:DataW.trod enc Tryz.prog w base spare held fuel 9 [v]=some x) : ∃ s,v = .string s:=by
 obtain ⟨s,h1,_⟩:=DataW.trod_string Tryz.underlying9 h
 simp only [List.cons.injEq,and_true] at h1
 exact ⟨s,h1⟩
theorem trod_intL {spare:Nat→Bool} {fuel:Nat} {x:DataW H × List MemPlace} {v:Value} (h:DataW.trod enc Tryz.prog w base spare held fuel 3 [v]=some x) : ∃ n:Int,v = .int .i64 n:=by
 obtain ⟨n,h1,_⟩:=DataW.trod_int Tryz.underlying3 h
 simp only [List.cons.injEq,and_true] at h1
 exact ⟨n,h1⟩
theorem cellsIntL : Tryz.prog.cellsOf 3=1:=by kernel_rfl
set_option maxRecDepth 100000 in
theorem trod_mat {fuel:Nat} {x:DataW H × List MemPlace} {cs:List Value} (hl:cs.length=8) (h:DataW.trod enc Tryz.prog w base (fun _=>true) held fuel 95 cs=some x) : ∃ m:Mat,cs=m.cells∧True:=by
 obtain ⟨a0,a1,a2,a3,a4,a5,a6,a7,rfl⟩:=list8 hl
 obtain ⟨y0,y1,y2,y3,y4,y5,n,h0,h1,h2,h3,h4,h5⟩:=trod_struct6 Tryz.underlying95 h
 have h0:DataW.trod enc Tryz.prog w base (fun _=>true) held n 9 [a0]=some y0:=by simpa [cellsStr] using h0
 have h1:DataW.trod enc Tryz.prog w base (fun _=>true) held n 4 [a1]=some y1:=by simpa [cellsBool] using h1
 have h2:DataW.trod enc Tryz.prog w base (fun _=>true) held n 4 [a2]=some y2:=by simpa [cellsBool] using h2
 have h3:DataW.trod enc Tryz.prog w base (fun _=>true) held n 4 [a3]=some y3:=by simpa [cellsBool] using h3
 have h4:DataW.trod enc Tryz.prog w base (fun _=>true) held n 3 [a4]=some y4:=by simpa [cellsIntL] using h4
 have h5:DataW.trod enc Tryz.prog w base (fun _=>true) held n 93 [a5,a6,a7]=some y5:=by simpa [cellsEmit] using h5
 obtain ⟨s,rfl⟩:=trod_strL h0
 obtain ⟨b1,rfl⟩:=trod_boolL h1
 obtain ⟨b2,rfl⟩:=trod_boolL h2
 obtain ⟨b3,rfl⟩:=trod_boolL h3
 obtain ⟨fd,rfl⟩:=trod_intL h4
 obtain ⟨z0,z1,z2,m,-,g0,g1,g2⟩:=trod_array3 Tryz.underlying93 cellsIntL h5
 obtain ⟨e0,rfl⟩:=trod_intL g0
 obtain ⟨e1,rfl⟩:=trod_intL g1
 obtain ⟨e2,rfl⟩:=trod_intL g2
 exact ⟨⟨s,b1,b2,b3,fd,e0,e1,e2⟩,rfl,trivial⟩
set_option maxRecDepth 100000 in
theorem open_mats {r:Reach} {b0:Nat} {v:Value} {d:DataW H} {p:List MemPlace} (hv:Value.okWide Tryz.prog w r b0 29 v) (h:DataW.Trod enc Tryz.prog w base (fun _=>true) held 29 v d p) :
 ∃ ha hcp,∃ L:List Mat,v = .slice ha L.length hcp∧SlM w ha L∧L.length≤hcp∧hcp≤maxLen:=by
 obtain ⟨a,n,cap,rfl⟩:=okWide_slice Tryz.underlying29 hv
 obtain ⟨fuel,hf⟩:=h
 obtain ⟨ha,hcp,L,e1,e2,e3⟩:=open_rowsL (S:=Mat) Mat.cells (fun _=>True) Tryz.underlying29 cellsMat (by omega) ⟨ByteArray.empty,false,false,false,0,0,0,0⟩ (fun hl hy=>trod_mat hl hy) (by simpa [Value.cells] using hf)
 refine ⟨ha,hcp,L,e1,fun i m hm=>?_,e2⟩
 obtain ⟨b,off,rfl,hj,-⟩:=e3 i m hm
 exact ⟨b,off,rfl,hj⟩
end
end
section
open Go.RowKit Go.Sort Go.Maps Go.ChangeShapes Go.WideShapes
open Oct
theorem lv_at8b (b k:Nat) (hk:k<8) (W:World):(Instr.indexAt 53 (.pointer (some ⟨b,0,none⟩)) (.int .i64 (k:Int))).run Tryz.prog W = .ok (.pointer (some ⟨b,k,none⟩)) W:=by
 have hu : Tryz.prog.underlying 53=some (.array (Tryz.prog.arrayLen 53) (Tryz.prog.elem 53)):=by kernel_rfl
 have h1 : Tryz.prog.cellsOf (Tryz.prog.elem 53)=1:=by kernel_rfl
 have h2 : Tryz.prog.arrayLen 53=8:=by kernel_rfl
 have h0:(0:Int)≤(k:Int)∧(k:Int)<8:=by omega
 rw [run_indexAt_array _ _ _ _ _ hu,h2]
 simp [h0,Addr.add,go_sem]
 exact fun h=>h.symm
theorem l8b_at (p:Nat→Int) {k:Nat} (hk:k<8):(#[.int .u8 (p 0),.int .u8 (p 1),.int .u8 (p 2),.int .u8 (p 3),.int .u8 (p 4),.int .u8 (p 5),.int .u8 (p 6),.int .u8 (p 7)]:Array Value)[k]? = some (.int .u8 (p k)):=by
 have h0:k=0∨k=1∨k=2∨k=3∨k=4∨k=5∨k=6∨k=7:=by omega
 rcases h0 with rfl | rfl | rfl | rfl | rfl | rfl | rfl | rfl <;> rfl
theorem l8_any (p:Nat→Int) (c:Int) {k:Nat} (hk:k<8):((l8 p).take (k+1)).any (fun x=>x == c)=(((l8 p).take k).any (fun x=>x == c) || (p k == c)):=by
 rw [l8_take p hk,List.any_append];simp
theorem pick_facts (s:Int→Bool) (p:Nat→Int):((l8 p).any fun x=>x == pickV s (l8 p))=true∧s (pickV s (l8 p))=decide (4≤(l8 p).countP s):=by
 have h:=pickV_spec s (l8_len p)
 exact ⟨List.any_eq_true.2 ⟨_,h.mem,by simp⟩,h.sol⟩
set_option maxRecDepth 100000 in
set_option maxHeartbeats 4000000 in
theorem picks_true (kc:List Int) (hk:kc.length=64) (ta:Option Addr) (tc:Nat) (L:List Mat) (hcap:L.length≤9223372036854775807) (p:Nat→Int) (hp : ∀ k,k<8→0≤p k∧p k≤255) (w:World) (hT:SlM w ta L) (hK:Krow w 1 kc) :
 Calls Tryz.prog 4 #[.slice ta L.length tc,.agg #[.int .u8 (p 0),.int .u8 (p 1),.int .u8 (p 2),.int .u8 (p 3),.int .u8 (p 4),.int .u8 (p 5),.int .u8 (p 6),.int .u8 (p 7)]] w fun e w'=>e = .returned (.bool true)∧Below w.heap.size w w':=by
 have HS:=Bx.mk fun W (hb:Below w.heap.size w W)=>sanity12_true kc hk W (krow_below hK hb)
 by_cases hl:L.length≤300
 · have t0:decide (((L.length:Nat):Int) > 300)=false:=by simp;omega
   have HPk:=Bx.mk fun W (hb:Below w.heap.size w W)=>lv_pick ta tc L p (by omega) W (hT.below hb)
   have HPr:=Bx.mk fun W (hb:Below w.heap.size w W)=>lv_rpick ta tc L p hp (by omega) W (hT.below hb)
   have HSo:=Bx.mk fun W (hb:Below w.heap.size w W) c=>ref_solid ta tc L c (by omega) W (hT.below hb)
   have Hf:=Bx.mk (pick_facts (solT L) p)
   have HP:=Bx.mk hp
   clear hT hK hcap hp
   generalize solT L=s at *
   generalize L.length=nl at *
   obtain ⟨c,hc⟩ : ∃ c,c=pickV s (l8 p):=⟨_,rfl⟩
   rw [←hc] at HPk HPr Hf
   clear hc
   go_enter Tryz.func4,Tryz.ntmps4
   go_upto_region 1 with fail
   generalize hW:World.alloc w _=W
   have hB:=bl1 hW
   have kc8:Bk W w.heap.size #[.int .u8 (p 0),.int .u8 (p 1),.int .u8 (p 2),.int .u8 (p 3),.int .u8 (p 4),.int .u8 (p 5),.int .u8 (p 6),.int .u8 (p 7)] 53:=bk0 hW rfl
   clear hW
   go_wp2_with fail
   refine (HS.out _ hB).mono ?_
   rintro _ w1 ⟨rfl,hb⟩
   replace hB:=hB.trans (hb.mono hB.size)
   replace kc8:=kc8.later hb
   clear hb HS
   go_upto_region 5 with fail
   clear t0
   generalize hW2:World.alloc w1 _=W2
   have hb2:=bl1 hW2
   have KL:Bx (Bl W2 w1.heap.size .i64 (e8 p 0) 54):=⟨by rw [←hW2,e8_zero];exact blk_new _ _ _ rfl⟩
   clear hW2
   have HB:=Bx.mk (hB.trans (hb2.mono hB.size))
   have KC:=Bx.mk (kc8.later hb2)
   have Hpl:Bx (w.heap.size<w1.heap.size):=⟨kc8.lt⟩
   obtain ⟨pl,hpl⟩ : ∃ n,n=w1.heap.size:=⟨_,rfl⟩
   rw [←hpl] at KL Hpl ⊢
   clear hpl hb2 hB kc8
   obtain ⟨pc,hpc⟩ : ∃ n,n=w.heap.size:=⟨_,rfl⟩
   rw [←hpc] at KC Hpl ⊢
   have Hpc:=Bx.mk hpc
   clear hpc
   go_upto_region 8 with fail
   go_loopw [9] (fun v9 wr => ∃ k:Nat,k≤8∧v9 = .int .i64 k∧Bx (Below w.heap.size w wr)∧Bx (Bk wr pc #[.int .u8 (p 0),.int .u8 (p 1),.int .u8 (p 2),.int .u8 (p 3),.int .u8 (p 4),.int .u8 (p 5),.int .u8 (p 6),.int .u8 (p 7)] 53)∧Bx (Bl wr pl .i64 (e8 p k) 54)) (fun k _=>8 - (intOf k).toNat)
   case atStart=>exact ⟨0,Nat.zero_le _,rfl,HB,KC,KL⟩
   case round =>
    clear HB KC KL
    obtain ⟨k,hk8,rfl,HB,KC,KL⟩:=hrel
    by_cases hlt:k<8
    · have t1:decide ((k:Int)<8)=true:=by simp;omega
      have hi1:=fun W=>lv_at8b pc k hlt W
      have hi2:=fun W=>lv_at8 pl k hlt W
      have c0:=KC.out.cell k (l8b_at p hlt)
      have c1:=KL.out.cell (e8_at p (k:=k) (j:=k) hlt)
      have f1:=KL.out.frozen k
      have hw:IntKind.i64.wrap (p k)=p k:=IntWalk.i64_in _ (by have:=HP.out k hlt;omega)
      have Hlt:=Bx.mk hlt
      clear hlt
      go_wp2_with fail
      have hlt:=Hlt.out
      have K2:=KL.out.put k (p k)
      rw [e8_set p hlt] at K2
      have KL2:=Bx.mk K2
      have KC2:=Bx.mk (KC.out.other ⟨pl,k,none⟩ (.int .i64 (p k)) (by have:=Hpl.out;show pc ≠ pl;omega))
      have HB2:Bx (Below w.heap.size w (wr.setCell ⟨pl,k,none⟩ (.int .i64 (p k)))):=⟨HB.out.setCell (by have:=Hpl.out;have:=Hpc.out;show w.heap.size≤pl;omega) _⟩
      clear K2 c0 c1 f1
      go_roundw
      case rel=>exact ⟨k+1,by omega,by go_num,HB2,KC2,KL2⟩
      case measure=>simp [intOf];omega
    · obtain rfl:k=8:=by omega
      have t1:decide (((8:Nat):Int)<8)=false:=by decide
      have KE:Bk wr pl #[.int .i64 (p 0),.int .i64 (p 1),.int .i64 (p 2),.int .i64 (p 3),.int .i64 (p 4),.int .i64 (p 5),.int .i64 (p 6),.int .i64 (p 7)] 54:=by have:=KL.out;rw [e8_all] at this;exact this
      have KEb:=Bx.mk KE
      obtain ⟨c0,c1,c2,c3,c4,c5,c6,c7⟩:=KE.c8
      clear KE KL KC Hpl Hpc HP hlt hk8
      go_wp2_with fail
      refine (HPk.out _ HB.out).mono ?_
      rintro _ w3 ⟨rfl,hb3⟩
      have HB3:=Bx.mk (HB.out.trans (hb3.mono HB.out.size))
      have KE3:=Bx.mk (KEb.out.later hb3)
      clear c0 c1 c2 c3 c4 c5 c6 c7 hb3 KEb HB HPk t1
      go_upto_region 13 with fail
      go_loopw [7,8,11] (fun v7 v8 v11 wr => ∃ k:Nat,k≤8∧v11 = .int .i64 k∧v7 = .int .i64 (((l8 p).take k).countP s:Int)∧v8 = .bool (((l8 p).take k).any fun x=>x == c)∧Bx (Below w.heap.size w wr)∧Bx (Bk wr pl #[.int .i64 (p 0),.int .i64 (p 1),.int .i64 (p 2),.int .i64 (p 3),.int .i64 (p 4),.int .i64 (p 5),.int .i64 (p 6),.int .i64 (p 7)] 54)) (fun _ _ k _=>8 - (intOf k).toNat)
      case atStart=>exact ⟨0,Nat.zero_le _,rfl,rfl,rfl,HB3,KE3⟩
      case round =>
       clear HB3 KE3
       obtain ⟨k,hk8,rfl,rfl,rfl,HB,KE⟩:=hrel
       by_cases hlt:k<8
       · have t1:decide ((k:Int)<8)=true:=by simp;omega
         have hi2:=fun W=>lv_at8 pl k hlt W
         have c0:=KE.out.cell k (l8_at p hlt)
         have ha:=Bx.mk (l8_any p c hlt)
         have hn:=Bx.mk (l8_countP s p hlt)
         have hn8:((l8 p).take k).countP s≤8:=Nat.le_trans List.countP_le_length (by rw [List.length_take];omega)
         have hso:=Bx.mk fun W (hb:Below wr.heap.size wr W)=>HSo.out W (HB.out.trans (hb.mono HB.out.size)) (p k)
         generalize ((l8 p).take k).any (fun x=>x == c)=fd at *
         generalize ((l8 p).take k).countP s=nd at *
         have hw1:IntKind.i64.wrap ((nd:Int)+1)=((nd+1:Nat):Int):=by rw [show (nd:Int)+1=((nd+1:Nat):Int) by omega];exact IntWalk.i64_in _ (by omega)
         obtain ⟨bq,hbq⟩ : ∃ b,(p k == c)=b:=⟨_,rfl⟩
         have Hbq:=Bx.mk hbq
         obtain ⟨bs,hbs⟩ : ∃ b,s (p k)=b:=⟨_,rfl⟩
         rw [hbs] at hn hso
         have Hlt:=Bx.mk hlt
         have Hw1:=Bx.mk hw1
         clear hlt hbs hw1
         cases fd
         all_goals
          go_wp2_with fail
          refine (hso.out _ (Below.refl _ _)).mono ?_
          rintro _ w4 ⟨rfl,hb4⟩
          have HB4:=Bx.mk (HB.out.trans (hb4.mono HB.out.size))
          have KE4:=Bx.mk (KE.out.later hb4)
          have hw1:=Hw1.out
          clear hso hb4 c0 HB KE
          cases bs
          all_goals
           go_wp2_with fail
           have hlt:=Hlt.out
           have hha:=ha.out
           have hhn:=hn.out
           rw [Hbq.out] at hha
           go_roundw
           case rel=>exact ⟨k+1,by omega,by go_num,by rw [hhn];simp,by rw [hha];simp,HB4,KE4⟩
           case measure=>simp [intOf];omega
       · obtain rfl:k=8:=by omega
         have t1:decide (((8:Nat):Int)<8)=false:=by decide
         rw [l8_all]
         have hf1:=Hf.out.1
         have hf2:=Hf.out.2
         rw [hf1]
         obtain ⟨c0,c1,c2,c3,c4,c5,c6,c7⟩:=KE.out.c8
         have hso:=Bx.mk fun W (hb:Below wr.heap.size wr W)=>HSo.out W (HB.out.trans (hb.mono HB.out.size)) c
         have hpr:=Bx.mk (HPr.out wr HB.out)
         generalize (l8 p).countP s=nd at *
         rw [hf2] at hso
         have t4:decide (((nd:Nat):Int) ≥ 4)=decide (4≤nd):=by simp only [ge_iff_le];congr 1;apply propext;omega
         have Hf2:=Bx.mk hf2
         clear hf1 hf2 hlt hk8 HSo HPr Hf
         obtain ⟨b4,hb4⟩ : ∃ b,decide (4≤nd)=b:=⟨_,rfl⟩
         rw [hb4] at hso t4
         have t5:(b4 == b4)=true:=by simp
         clear hb4 Hf2
         go_wp2_with fail
         refine hpr.out.mono ?_
         rintro _ w5 ⟨rfl,hb5⟩
         have HC5:=Bx.mk hb5
         clear hb5 hpr c0 c1 c2 c3 c4 c5 c6 c7
         go_wp2_with fail
         refine (hso.out _ HC5.out).mono ?_
         rintro _ w6 ⟨rfl,hb6⟩
         have HB6:=Bx.mk (HB.out.trans ((HC5.out.trans (hb6.mono HC5.out.size)).mono HB.out.size))
         clear hb6 hso HC5
         go_wp2_with fail
         go_ret
         exact ⟨rfl,HB6.out⟩
 · have t0:decide (((L.length:Nat):Int) > 300)=true:=by simp;omega
   clear hT hK
   generalize L.length=nl at *
   go_enter Tryz.func4,Tryz.ntmps4
   go_wp2_with fail
   refine (HS.out _ ((Below.refl _ _).alloc (Nat.le_refl _) _)).mono ?_
   rintro _ w1 ⟨rfl,hb⟩
   have hB:Below w.heap.size w w1:=((Below.refl w.heap.size w).alloc (Nat.le_refl _) _).trans (hb.mono (by simp))
   have HB:=Bx.mk hB
   clear hb hB HS
   go_wp2_with fail
   go_ret
   exact ⟨rfl,HB.out⟩
end
section
open Go.RowKit Go.ChangeShapes Go.WideShapes
open Oct
theorem okWide_arrayL {P:Program} {w:World} {r:Reach} {base:Nat} {t e:TypeId} {n:Nat} {v:Value} (ht:P.underlying t=some (.array n e)) (h:Value.okWide P w r base t v) : ∃ cs,v = .agg cs∧cs.size=P.cellsOf t:=by
 simp only [Value.okWide,ht] at h
 obtain ⟨cs,h1,h2,_⟩:=h
 exact ⟨cs,h1,h2⟩
section
variable {H:Type} {enc:TypeId × Value→H} {w:World} {base:Nat} {held:Bool}
theorem len_le {n m:Nat} (h:n≤m∧m≤maxLen):n≤9223372036854775807:=by unfold maxLen at h;omega
theorem cells8b : Tryz.prog.cellsOf 53=8:=by kernel_rfl
theorem cells1b : Tryz.prog.cellsOf 5=1:=by kernel_rfl
set_option maxRecDepth 100000 in
theorem open_u8x8 {r:Reach} {b0:Nat} {v:Value} {d:DataW H} {p:List MemPlace} (hv:Value.okWide Tryz.prog w r b0 53 v) (h:DataW.Trod enc Tryz.prog w base (fun _=>true) held 53 v d p) :
 ∃ q:Nat→Int,v = .agg #[.int .u8 (q 0),.int .u8 (q 1),.int .u8 (q 2),.int .u8 (q 3),.int .u8 (q 4),.int .u8 (q 5),.int .u8 (q 6),.int .u8 (q 7)] ∧ ∀ k,k<8→0≤q k∧q k≤255:=by
 obtain ⟨cs,rfl,hsz⟩:=okWide_arrayL Tryz.underlying53 hv
 obtain ⟨l⟩:=cs
 have hl:l.length=8:=by rw [cells8b] at hsz;exact hsz
 obtain ⟨fuel,hf⟩:=h
 have hf:DataW.trod enc Tryz.prog w base (fun _=>true) held fuel 53 l=some (d,p):=by simpa [Value.cells] using hf
 obtain ⟨xs,m,-,-,-,hn,hel⟩:=DataW.trod_array Tryz.underlying53 hf
 have key : ∀ k,k<8 → ∃ n:Int,l[k]? = some (.int .u8 n)∧0≤n∧n≤255:=by
  intro k hk
  have h1:=hel k hk
  obtain ⟨y,hy⟩ : ∃ y,xs[k]? = some y:=⟨_,List.getElem?_eq_getElem (by omega)⟩
  rw [hy,cells1b] at h1
  obtain ⟨n,e1,_,hw⟩:=DataW.trod_int Tryz.underlying5 h1
  refine ⟨n,?_,by have:=wf_u8 hw;omega⟩
  have h5:=congrArg (fun l=>l[0]?) e1
  simpa [List.getElem?_take,List.getElem?_drop] using h5
 obtain ⟨n0,e0,b0⟩:=key 0 (by decide)
 obtain ⟨n1,e1,b1⟩:=key 1 (by decide)
 obtain ⟨n2,e2,b2⟩:=key 2 (by decide)
 obtain ⟨n3,e3,b3⟩:=key 3 (by decide)
 obtain ⟨n4,e4,b4⟩:=key 4 (by decide)
 obtain ⟨n5,e5,b5⟩:=key 5 (by decide)
 obtain ⟨n6,e6,b6⟩:=key 6 (by decide)
 obtain ⟨n7,e7,b7⟩:=key 7 (by decide)
 obtain ⟨a0,a1,a2,a3,a4,a5,a6,a7,rfl⟩:=list8 hl
 simp at e0 e1 e2 e3 e4 e5 e6 e7
 subst e0 e1 e2 e3 e4 e5 e6 e7
 refine ⟨fun k=>match k with | 0=>n0 | 1=>n1 | 2=>n2 | 3=>n3 | 4=>n4 | 5=>n5 | 6=>n6 | _=>n7,rfl,fun k hk=>?_⟩
 have h0:k=0∨k=1∨k=2∨k=3∨k=4∨k=5∨k=6∨k=7:=by omega
 rcases h0 with rfl | rfl | rfl | rfl | rfl | rfl | rfl | rfl <;> assumption
end
end
end Go.Proofs.YtgnfgblkpnfcnaaGreatDoor
