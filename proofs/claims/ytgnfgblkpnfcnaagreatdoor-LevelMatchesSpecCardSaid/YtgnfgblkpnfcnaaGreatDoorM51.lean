/- Lsw, Lofs, Llm: joined by program, for one claim. -/
import Derived.Test.YtgnfgblkpnfcnaaGreatDoorM50
set_option maxHeartbeats 8000000
set_option maxRecDepth 100000
set_option linter.unusedVariables false
set_option linter.unusedSimpArgs false
namespace Go.Proofs.YtgnfgblkpnfcnaaGreatDoor
section
open Go.RowKit Go.Sort Go.Maps
open Oct
theorem zc {w w':World} {g:Nat} {ks:List Int} (h:zAX w g ks) (hb:Below w.heap.size w w'):zAX w' g ks:=fun i v hv=>cell_later hb (h i v hv)
theorem zGC {w w':World} {Far:Nat→Prop} {g:Nat} {ks:List Int} (h:zAX w g ks) (hk:Keeps Far w w') (hf : ∀ x,x<w.heap.size→Far x):zAX w' g ks:=fun i v hv=>zG hk (hf _ (World.block_lt_of_cell? w _ (h i v hv))) (h i v hv)
theorem zD5 (xs:List Int) (hl:xs.length=16) (w:World):(binOp .eql 43 (.agg (xs.map (Value.int .u8)).toArray) (.agg (xs.map (Value.int .u8)).toArray)).run Tryz.prog w = .ok (.bool true) w:=by
 obtain ⟨i,hi⟩ : ∃ i,Tryz.prog.info? 5=some i:=Option.isSome_iff_exists.1 (by kernel_rfl)
 have hc : Tryz.prog.cellsOf 5=1:=by kernel_rfl
 match xs,hl with
 | [x0, x1, x2, x3, x4, x5, x6, x7, x8, x9, x10, x11, x12, x13, x14, x15], _ =>
   simp only [List.map_cons,List.map_nil];rw [run_eql_struct,run_equalIn_array (n:=16) w 9999 _ _ Tryz.underlying43 hi,hc];rw [show List.range 16=[0,1,2,3,4,5,6,7,8,9,10,11,12,13,14,15] by decide]
   simp only [Op.eqItems];go_simp
theorem zOR {P:Program} {ops:Array Oper} {C:World→Prop} {Q:Act→Prop} {a:Act} {o:Oper} {rest:List Oper} (hw:Region.wanted o (yielded ops a.tmps)=true) (ty:TypeId) (x:Operand) (ho:o.op = .load ty x)
 (b off:Nat) (hx:a.eval x = .pointer (some ⟨b,off,none⟩)) (cs:List Value) (d:TypeDesc) (hc : ∀ w,C w→w.rangeAt b off cs)
 (hu:P.underlying ty=some d) (hd:d.isRow=true) (hi:(P.info? ty).map (·.size)=some cs.length)
 (h:wpQuiet P ops C Q rest (a.put o.dst (.agg cs.toArray))):wpQuiet P ops C Q (o::rest) a:=by
 refine wpQuiet_step fun K hK=>?_;rw [if_pos hw];refine ⟨.agg cs.toArray,fun w hCw=>?_,hK _ h⟩;unfold Oper.quietAt execOp;simp only [ho,hx,Instr.loadAt,Instr.sureAddr,Sem.run_bind,Sem.run_pure,Result.andThen_ok,run_loadVar_mid w b off ty cs d (hc w hCw) hu hd hi];exact ⟨rfl,rfl⟩
theorem zLu (kc:List Int) (hk:kc.length=64) (w:World) (hK:zAX w 1 kc):Calls Tryz.prog 8 #[] w fun e w'=>e = .returned (.bool true)∧Below w.heap.size w w':=by
 have HK:=Bx.mk hK;clear hK;have hdef:=Bx.mk fun W=>zGt W;have hnew:=Bx.mk fun W=>zIF 1000 W;have hat:=Bx.mk fun x y z W=>zGl x y z W;have hng:=Bx.mk fun W=>zKs 1 (by decide) 0 0 0 8 8 4 (by decide) (by decide) 256 (by decide) (by decide) W
 have huni:=Bx.mk fun W Far sb lt st=>sn_uni W Far sb lt st;have hpA:=Bx.mk fun W Far sb g lt st tb hg=>zMR W Far sb g lt st tb hg;have hfr:=Bx.mk fun W Far sb g cap hc lt st hs hg=>zMQ W Far sb g cap hc lt st hs hg;have hpB:=Bx.mk fun W Far sb g lt st tb hg=>zMS W Far sb g lt st tb hg;have hlow:=Bx.mk fun sb ta nl tc id W=>zGf sb ta nl tc id 2 W (by decide)
 have hdg:=Bx.mk fun W Far sb (st:StoreIs W Far sb 1000 tsC) t (ht:t∈tsC) hw (hk2:zAX W 1 kc)=>zDb kc hk Far sb 1000 tsC zNf (by have:=zNg;omega) t hw ht W hk2 st
 have hidB:Bx ((idT tsC (trF 1 g8):Int)=idT tsB (trF 1 g8)):=⟨congrArg Int.ofNat (zV (show tsB <+: tsC from zGa (s:=zx zDN) (N:=1) (f:=g8) (ts:=tsB) (Nat.zero_le 1)) zNe)⟩;have hx1:Bx (lvX (zx zDN) 1 g8 tsB 1=(idT tsC (trF 0 (zHT (zx zDN) g8 1)):Int)):=⟨zGc zNe (Nat.le_refl 1)⟩;have hmB:Bx (trF 1 g8∈tsC):=⟨zGZ (j:=0) zNe (Nat.zero_le 1)⟩;have hmC:Bx (trF 0 (zHT (zx zDN) g8 1)∈tsC):=⟨zGZ (j:=1) zNe (Nat.le_refl 1)⟩;have hwB:Bx (Tr.WF (trF 1 g8)):=⟨zAD zEU.range 1 _ (by decide)⟩
 have hwC:Bx (Tr.WF (trF 0 (zHT (zx zDN) g8 1))):=⟨zAD (zHY zEU.range 1) 0 _ (by decide)⟩
 have hcell:=Bx.mk fun W Far sb a cap st hs z v hz hv=>zMN W Far sb a cap st hs z v hz hv;have hxB:=Bx.mk sn_xB;generalize (idT tsA (.uni 1):Int)=ua at *;go_enter Tryz.func8,Tryz.ntmps8;go_wp2_with fail;refine (hdef.out _).mono ?_;rintro _ w1 ⟨g,rfl,hT,hb1,hg⟩;have HT:=Bx.mk hT;have HB1:=Bx.mk hb1;clear hdef hT hb1;go_wp2_with fail;refine (hnew.out _).mono ?_;rintro _ w2 ⟨sb,rfl,st2,hb2⟩
 have hgl:g<w1.heap.size:=by
  obtain ⟨b,off,e,hc⟩:=HT.out 0 zHa rfl;simp only [Option.some.injEq,Addr.mk.injEq] at e;have:=World.block_lt_of_cell? w1 _ (hc 0 _ rfl);rw [←e.1] at this;exact this
 have ST2:=Bx.mk st2;have HB2:=Bx.mk hb2;have lt2 : ∀ k,(fun k=>k<w1.heap.size) k→k<w2.heap.size:=fun k hk=>Nat.lt_of_lt_of_le hk hb2.size;have HU:=Bx.mk (huni.out w2 _ sb lt2 st2);clear hnew st2 hb2 huni;go_wp2_with fail;refine HU.out.mono ?_;rintro _ w3 ⟨rfl,st3,hk3⟩;have K3:=Bx.mk ((Keeps.below (Far:=fun k=>k<w1.heap.size) HB2.out).trans hk3);have HP:=Bx.mk (hpA.out w3 _ sb g (fun k hk=>Nat.lt_of_lt_of_le (lt2 k hk) hk3.size) st3 (HT.out.far K3.out fun _ b hb=>by simp at hb;exact hb ▸ hgl) hgl)
 clear hk3 st3 HU hpA ST2 HB2 lt2;go_wp2_with fail;refine HP.out.mono ?_;rintro _ w4 ⟨vl,rfl,own4,st4,hk4⟩;have K4:=Bx.mk (K3.out.trans hk4);have O4:=Bx.mk own4;have S4:=Bx.mk st4;obtain ⟨gl,cl,rfl,-,hgl4,hcl,-,-⟩:=own4.at (by simp)
 have hl0:=Bx.mk (hcl 0 _ rfl);have hl2:=Bx.mk (hcl 2 _ rfl);have h3:[ua,ua,ua].length=3:=rfl;rw [h3] at O4 S4 ⊢;clear own4 st4 hk4 HP K3 hcl h3;go_wp2_with fail;refine (hat.out _ _ _ _).mono ?_;rintro _ w5 ⟨rfl,hb5⟩;have HB5:=Bx.mk hb5;have h45:=Bx.mk hb5.size;clear hb5;go_wp2_with fail;refine (hng.out _).mono ?_;rintro _ w6 ⟨gg,cg,rfl,own6,hb6⟩;have HB6:=Bx.mk (HB5.out.trans (hb6.mono HB5.out.size));have O6:=Bx.mk own6;clear hb6 own6 hng HB5;go_upto_region 8 with fail;generalize hW7:World.alloc w6 _=w7;have hb7:=bl1 hW7;have KG:Bk w7 w6.heap.size #[(0:Int),(0:Int),(0:Int),(8:Int),(8:Int),(4:Int),.slice (some ⟨gg,0,none⟩) 256 cg] 28:=bk0 hW7 rfl;clear hW7;have HB7:=Bx.mk (HB6.out.trans (hb7.mono HB6.out.size));have O7:=Bx.mk (O6.out.below hb7);clear hb7 HB6 O6;obtain ⟨kg0,kg1,kg2,kg3,kg4,kg5,kg6⟩:=KG.c7;obtain ⟨F7,hF7⟩ : ∃ F:Nat→Prop,F=fun x=>(x<w1.heap.size∨gl=x)∨(w4.heap.size≤x∧x<w7.heap.size):=⟨_,rfl⟩;have HF7:=Bx.mk hF7;have hgl7:gl<w4.heap.size:=hgl4
 have st7:StoreIs w7 F7 sb 1000 tsA:=(S4.out.widen (Far':=F7) fun k hk=>by
  rw [hF7] at hk;rcases hk with (hk | hk) | hk
  · exact .inl (.inl hk)
  · exact .inl (.inr (by rw [hk];rfl))
  · exact .inr hk.1).later HB7.out
 have lt7 : ∀ k,F7 k→k<w7.heap.size:=fun k hk=>by
  rw [hF7] at hk;have h1:=HB7.out.size;have h2:=K4.out.size;rcases hk with (hk | hk) | hk
  · have:=HB1.out.size;omega
  · omega
  · exact hk.2
 have hcg:256≤cg:=by
  obtain ⟨a,c,h1,h2,-⟩:=zJC O7.out;injection h1 with _ _ h1;subst h1;simpa using h2
 have hgg:=O7.out.lt gg rfl;have HF:=Bx.mk (hfr.out w7 F7 sb gg cg hcg lt7 st7 O7.out.sl (by rw [hF7];exact .inr ⟨by have:=h45.out;omega,hgg.2⟩))
 have hF0 : ∀ k,k<w1.heap.size→F7 k:=fun k hk=>by rw [hF7];exact .inl (.inl hk)
 have hFl:F7 gl:=by rw [hF7];exact .inl (.inr rfl)
 have K7:=Bx.mk (K4.out.trans (Keeps.below (Far:=fun k=>k<w1.heap.size) HB7.out));have h70:=Bx.mk (cell_later HB7.out hl0.out);have h72:=Bx.mk (cell_later HB7.out hl2.out);have LT7:=Bx.mk lt7;have HF0:=Bx.mk hF0;have HFl:=Bx.mk hFl;clear hF7 hgg hcg st7 lt7 hfr hF0 hFl O7 HF7 K4 hl0 hl2 HB7 S4 O4 h45;go_wp2_with fail;clear kg0 kg1 kg2 kg3 kg4 kg5 kg6 KG;refine HF.out.mono ?_;rintro _ w8 ⟨rfl,st8,hk8⟩;have K8:=Bx.mk (K7.out.trans (hk8.less HF0.out));have h80:=Bx.mk (zG hk8 HFl.out h70.out);have h82:=Bx.mk (zG hk8 HFl.out h72.out);have LT8:Bx (∀ k,F7 k→k<w8.heap.size):=⟨fun k hk=>Nat.lt_of_lt_of_le (LT7.out k hk) hk8.size⟩;have HP:=Bx.mk (hpB.out w8 F7 sb g LT8.out st8 (HT.out.far K8.out fun _ b hb=>by simp at hb;exact hb ▸ hgl) (HF0.out g hgl))
 clear st8 hk8 HF K7 h70 h72 LT7 hpB;go_wp2_with fail;refine HP.out.mono ?_;rintro _ w9 ⟨vm,rfl,own9,st9,hk9⟩;have K9:=Bx.mk (K8.out.trans (hk9.less HF0.out));have h90:=Bx.mk (zG hk9 HFl.out h80.out);have h92:=Bx.mk (zG hk9 HFl.out h82.out);have ST9:=Bx.mk st9;obtain ⟨gm,cm,rfl,-,-,hcm,-,-⟩:=own9.at (by simp)
 have hm0:Bx (w9.cell? ⟨gm,0,none⟩=some (.int .i64 (idT tsB (trF 1 g8):Int))):=⟨hcm 0 _ rfl⟩;have hlen2:((List.range 2).map (lvX (zx zDN) 1 g8 tsB)).length=2:=rfl;rw [hlen2] at own9 ST9 ⊢;have O9:=Bx.mk own9;clear own9 st9 hk9 HP K8 h80 h82 LT8 hcm hlen2 HF0 HFl;have HLo:=Bx.mk (hlow.out sb (some ⟨g,0,none⟩) 9 9 ua w9);clear hlow;go_wp2_with fail;refine HLo.out.mono ?_;rintro _ w10 ⟨rfl,hb10⟩;have HB10:=Bx.mk hb10;clear HLo hb10;have hkr:Bx (zAX w10 1 kc):=⟨zc (zGC (zc HK.out HB1.out) K9.out fun x hx=>hx) HB10.out⟩
 have hro:=Bx.mk (zHL sb (some ⟨gm,0,none⟩) cm ((List.range 2).map (lvX (zx zDN) 1 g8 tsB)) [zDY kc (trF 1 g8),zDY kc (trF 0 (zHT (zx zDN) g8 1))] w10 (O9.out.below HB10.out).sl rfl (by simp) (fun d hd=>by simp at hd;rcases hd with rfl | rfl <;> exact zDZ kc _) ⟨fun W hb k id d hi hd=>by
  have stW:=(ST9.out.later HB10.out).later hb;have krW:=zc hkr.out hb;rw [sn_xB] at hi
  match k,hi,hd with
  | 0, hi, hd =>
    obtain rfl:=Option.some.inj hi;obtain rfl:=Option.some.inj hd;rw [←hidB.out];exact hdg.out W _ sb stW _ hmB.out hwB.out krW
  | 1, hi, hd =>
    obtain rfl:=Option.some.inj hi;obtain rfl:=Option.some.inj hd;rw [hx1.out];exact hdg.out W _ sb stW _ hmC.out hwC.out krW
  | k+2,hi,_=>simp at hi⟩)
 have hl22:((List.range 2).map (lvX (zx zDN) 1 g8 tsB)).length=2:=rfl;rw [hl22] at hro;clear hl22;go_wp2_with fail;refine hro.out.mono ?_;rintro _ w11 ⟨vr,rfl,ownr,hb11⟩;have HB11:=Bx.mk (HB10.out.trans (hb11.mono HB10.out.size));have OR:=Bx.mk ownr;obtain ⟨ar,cr,rfl,-,hsr⟩:=ownr.form;obtain ⟨gr,rfl,hr0,h16⟩:=hsr 0 _ rfl;have HR0:=Bx.mk hr0;have H16:=Bx.mk h16;have TB9:Bx (SlM w9 (some ⟨g,0,none⟩) zDN):=⟨HT.out.far K9.out fun _ b hb=>by simp at hb;exact hb ▸ hgl⟩
 have hpk:=Bx.mk fun p W (hb:Below w9.heap.size w9 W)=>zG8 (some ⟨g,0,none⟩) 9 zDN p (by decide) W (TB9.out.below hb)
 have hp1:Bx (∀ W,Below w9.heap.size w9 W→Calls Tryz.prog 23 #[.slice (some ⟨g,0,none⟩) 9 9,.agg #[(1:Int),(1:Int),(2:Int),(2:Int),(0:Int),(0:Int),(0:Int),(0:Int)]] W fun e w'=>e = .returned (.int .i64 1)∧Below W.heap.size W w'):=⟨fun W hb=>by have:=hpk.out (p8 1 1 2 2 0 0 0 0) W hb;rw [pick1] at this;exact this⟩
 have hp2:Bx (∀ W,Below w9.heap.size w9 W→Calls Tryz.prog 23 #[.slice (some ⟨g,0,none⟩) 9 9,.agg #[(1:Int),(1:Int),(2:Int),(2:Int),(2:Int),(5:Int),(5:Int),(5:Int)]] W fun e w'=>e = .returned (.int .i64 2)∧Below W.heap.size W w'):=⟨fun W hb=>by have:=hpk.out (p8 1 1 2 2 2 5 5 5) W hb;rw [pick2] at this;exact this⟩
 have hp3:Bx (∀ W,Below w9.heap.size w9 W→Calls Tryz.prog 23 #[.slice (some ⟨g,0,none⟩) 9 9,.agg #[(1:Int),(1:Int),(1:Int),(5:Int),(5:Int),(0:Int),(0:Int),(5:Int)]] W fun e w'=>e = .returned (.int .i64 5)∧Below W.heap.size W w'):=⟨fun W hb=>by have:=hpk.out (p8 1 1 1 5 5 0 0 5) W hb;rw [pick3] at this;exact this⟩
 clear ownr hb11 hsr hr0 h16 hro hpk HB10;go_wp2_with fail;refine (hp1.out _ HB11.out).mono ?_;rintro _ w12 ⟨rfl,hb12⟩;have HB12:=Bx.mk (HB11.out.trans (hb12.mono HB11.out.size));have HC12:=Bx.mk hb12;clear hb12 hp1;go_wp2_with fail;refine (hp2.out _ HB12.out).mono ?_;rintro _ w13 ⟨rfl,hb13⟩;have HB13:=Bx.mk (HB12.out.trans (hb13.mono HB12.out.size));have HC13:=Bx.mk (HC12.out.trans (hb13.mono HC12.out.size));clear hb13 hp2;go_wp2_with fail;refine (hp3.out _ HB13.out).mono ?_;rintro _ w14 ⟨rfl,hb14⟩;have HB14:=Bx.mk (HB13.out.trans (hb14.mono HB13.out.size));have HC14:=Bx.mk (HC13.out.trans (hb14.mono HC13.out.size));clear hb14 hp3;have stB:=fun W (hb:Below w14.heap.size w14 W)=>(ST9.out.later HB14.out).later hb;have hsl:=fun W (hb:Below w14.heap.size w14 W)=>((O9.out.below HB14.out).below hb).sl;have krB:=fun W (hb:Below w14.heap.size w14 W)=>zc (zc (zGC (zc HK.out HB1.out) K9.out fun x hx=>hx) HB14.out) hb;have q0:=Bx.mk fun dk osk=>Calls.regrown_of ((zG5 5 (grow (redrawn w14 dk) osk)).mono fun e w' h=>(⟨h.1,h.2 ▸ Below.refl _ _⟩:e = .returned (.int .i64 (lvV 5))∧Below _ _ w'));rw [show lvV 5=4 by decide] at q0
 have q1:=Bx.mk fun dk osk=>Calls.regrown_of ((zHQ 3 (grow (redrawn w14 dk) osk)).mono fun e w' h=>(⟨h.1,h.2 ▸ Below.refl _ _⟩:e = .returned (.int .i64 (zMB 3))∧Below _ _ w'));rw [show zMB 3=8 by decide] at q1
 have q2:=Bx.mk fun dk osk=>Calls.regrown_of (hat.out 5 2 3 (grow (redrawn w14 dk) osk));have q3:=Bx.mk fun dk osk=>Calls.regrown_of (hat.out 5 2 4 (grow (redrawn w14 dk) osk));have q4:=Bx.mk fun dk osk=>Calls.regrown_of (hcell.out (grow (redrawn w14 dk) osk) _ sb (some ⟨gm,0,none⟩) cm (stB _ (below_regrown w14 dk osk)) (hsl _ (below_regrown w14 dk osk)) 3 1 (by decide) zMP)
 have q5:=Bx.mk fun dk osk=>Calls.regrown_of (hcell.out (grow (redrawn w14 dk) osk) _ sb (some ⟨gm,0,none⟩) cm (stB _ (below_regrown w14 dk osk)) (hsl _ (below_regrown w14 dk osk)) 4 0 (by decide) zMO)
 have q6:=Bx.mk fun dk osk=>Calls.regrown_of (hdg.out (grow (redrawn w14 dk) osk) _ sb (stB _ (below_regrown w14 dk osk)) (trF 1 g8) hmB.out hwB.out (krB _ (below_regrown w14 dk osk)));rw [hidB.out] at q6;unfold zBP at q6;have heqd:=fun W=>zD5 (zDY kc (trF 1 g8)) (zDZ kc _) W;have hi16:Bx ((Tryz.prog.info? 43).map (·.size)=some ((zDY kc (trF 1 g8)).map (Value.int .u8)).length):=⟨by rw [List.length_map,zDZ];exact zMA⟩
 have hrg:Bx (∀ W,(∃ P:Regrown,W=grow (redrawn w14 P.d) P.os)→W.rangeAt gr 0 ((zDY kc (trF 1 g8)).map (Value.int .u8))):=⟨by
  rintro _ ⟨P,rfl⟩ j v hv;exact cell_regrown (cell_later HC14.out (HR0.out j v hv)) _ _⟩
 have cl0 : ∀ dk osk,(grow (redrawn w14 dk) osk).cell? ⟨gl,0,none⟩=some (.int .i64 ua):=cell_regrown (cell_later HB14.out h90.out);have cl2 : ∀ dk osk,(grow (redrawn w14 dk) osk).cell? ⟨gl,2,none⟩=some (.int .i64 ua):=cell_regrown (cell_later HB14.out h92.out);have cm0 : ∀ dk osk,(grow (redrawn w14 dk) osk).cell? ⟨gm,0,none⟩=some (.int .i64 (idT tsB (trF 1 g8):Int)):=cell_regrown (cell_later HB14.out hm0.out);have HBw:=Bx.mk (zC (zC HB1.out K9.out fun k hk=>Nat.lt_of_lt_of_le hk HB1.out.size) (Keeps.below (Far:=fun k=>k<w9.heap.size) HB14.out) fun k hk=>Nat.lt_of_lt_of_le (Nat.lt_of_lt_of_le hk HB1.out.size) K9.out.size);generalize zDY kc (trF 1 g8)=D at *;generalize (idT tsB (trF 1 g8):Int)=ib at *;clear stB hsl krB hat hcell hdg hidB hx1 hmB hmC hwB hwC hxB TB9 HR0 h90 h92 hm0 O9 ST9 OR H16 HC12 HC13 HC14 HB11 HB12 HB13 K9 HT HK hgl;go_upto_region 15 with fail;refine wp_region_quiet_below (by kernel_rfl) (by kernel_rfl) ?_
 repeat (first
  | refine zOR (by rfl) _ _ rfl gr 0 rfl _ _ hrg.out Tryz.underlying43 rfl hi16.out ?_
  | go_big_quiet_step (first | with_reducible exact q0.out _ _ | with_reducible exact q1.out _ _ | with_reducible exact q2.out _ _ | with_reducible exact q3.out _ _ | with_reducible exact q4.out _ _ | with_reducible exact q5.out _ _ | with_reducible exact q6.out _ _)
  | quiet_step (first | with_reducible exact q0.out _ _ | with_reducible exact q1.out _ _ | with_reducible exact q2.out _ _ | with_reducible exact q3.out _ _ | with_reducible exact q4.out _ _ | with_reducible exact q5.out _ _ | with_reducible exact q6.out _ _))
 refine wpQuiet_nil ?_;rintro _ ⟨⟨dq,osq⟩,rfl⟩;have hbq:=Bx.mk (HBw.out.trans ((below_regrown w14 dq osq).mono HBw.out.size));clear cl0 cl2 cm0 q0 q1 q2 q3 q4 q5 q6 hrg hi16 heqd;generalize grow (redrawn w14 dq) osq=w15 at *;go_wp2_with fail;go_ret;exact ⟨rfl,hbq.out⟩
theorem zGS (kc:List Int) (hk:kc.length=64) (a b c d e f dd:Int) (ha:Option Addr) (hcp nl:Nat) (ta:Option Addr) (tl tc:Nat) (k px py pz:Int) (w:World) (hK:zAX w 1 kc) (bi:Bool)
 (HBu : ∀ W,Below w.heap.size w W→Calls Tryz.prog 9 #[.agg #[a,b,c,d,e,f,.slice ha nl hcp],dd,(100000:Int)] W fun e w' => ∃ s i,e = .returned (.tuple #[.pointer s,i,.bool bi])∧Below W.heap.size W w') (hor:bi=false∨(bi=true∧300<tl)) :
 Calls Tryz.prog 3 #[.agg #[a,b,c,d,e,f,.slice ha nl hcp],dd,.slice ta tl tc,k,.agg #[px,py,pz]] w fun e w'=>e = .returned (.bool true)∧Below w.heap.size w w':=by
 have HS:=Bx.mk fun W (hb:Below w.heap.size w W)=>zLu kc hk W (zc hK hb);have HB:=Bx.mk HBu;clear hK HBu;go_enter Tryz.func3,Tryz.ntmps3;go_upto_region 1 with fail;generalize hW:World.alloc (World.alloc w _) _=W;have hB:Below w.heap.size w W:=by rw [←hW];exact (((Below.refl _ _).alloc (Nat.le_refl _) _).alloc (by simp) _)
 have kg:Bk W w.heap.size #[a,b,c,d,e,f,.slice ha nl hcp] 28:=bk1 hW;clear hW;go_wp2_with fail;refine (HS.out _ hB).mono ?_;rintro _ w1 ⟨rfl,hb⟩;replace hB:=hB.trans (hb.mono hB.size);replace kg:=kg.later hb;obtain ⟨c0,c1,c2,c3,c4,c5,c6⟩:=kg.c7;clear hb HS;go_wp2_with fail;refine (HB.out _ hB).mono ?_;rintro _ w2 ⟨s,i,rfl,hb⟩;have HB2:=Bx.mk (hB.trans (hb.mono hB.size));clear hb hB HB c0 c1 c2 c3 c4 c5 c6 kg;rcases hor with h | h
 · subst h;go_wp2_with fail;go_ret;exact ⟨rfl,HB2.out⟩
 · obtain ⟨rfl,h⟩:=h;have t0:decide ((tl:Int) > 300)=true:=by simp;omega
   clear h;go_wp2_with fail;go_ret;exact ⟨rfl,HB2.out⟩
noncomputable def lvT (s:Int→Bool) (N:Nat) (f:Pt→Int) (k:Nat):ByteArray:=strOfNums (Tr.enc (trF (N - k) (zHT s f k)))
theorem zHR (ta:Option Addr) (tc:Nat) (L:List Mat) (hl:L.length≤1000000000) (N:Nat) (hN:N≤12) (f:Pt→Int) (hf : ∀ p,0≤f p∧f p≤255) (w:World) (hT:SlM w ta L) :
 Calls Tryz.prog 11 #[.slice ta L.length tc,.string (txt N f),.int .i64 ((N:Int)+2)] w fun e w' => ∃ v,e = .returned v∧Ownv w' w.heap.size 9 v (zNh (lvT (zx L) N f) (N+1))∧Below w.heap.size w w':=by
 refine zHN ta L.length tc N hN (lvT (zx L) N f) w ⟨fun W hb k hk=>?_⟩;obtain ⟨n,hn⟩ : ∃ n,N - k=n+1:=⟨N - k - 1,by omega⟩
 have hn':N - (k+1)=n:=by omega
 have h:=zHF ta tc L hl n (by omega) (zHT (zx L) f k) (zHY hf k) W (hT.below hb)
 unfold lvT;rw [hn,hn',show (N:Int)+2 - (k:Int)=(n:Int)+3 by omega]
 exact h
theorem zGW {s:Int→Bool} {N:Nat} {f:Pt→Int} (hN:N≤12) (hf:FnC N f) (hfew:(zA2 N f []).length≤3901):(lvS s N f (zA2 N f []) N).length≤60000:=by
 have h:=zGY (s:=s) hN hf (zA4 hN hf zEm) N (Nat.le_refl N);have h2:N * (zA2 N f []).length≤12 * 3901:=Nat.mul_le_mul hN hfew;omega
theorem zBq (a b c d e f dd room:Int) (ha:Option Addr) (hcp:Nat) (xs:List Int) (hcap:xs.length≤hcp) (hr:0≤room∧room≤100000) (w:World) (hsl:Sl w .i64 ha xs) (bi:Bool) (hbi:bi=decide (xs.length≤300∧zEP ⟨⟨a,b,c⟩,⟨d,e,f⟩⟩ xs dd=0)) :
 ∀ W,Below w.heap.size w W→Calls Tryz.prog 9 #[.agg #[a,b,c,d,e,f,.slice ha xs.length hcp],dd,room] W fun E w' => ∃ s i,E = .returned (.tuple #[.pointer s,i,.bool bi])∧Below W.heap.size W w':=by
 intro W hb;by_cases h1:xs.length≤300
 · by_cases h2:zEP ⟨⟨a,b,c⟩,⟨d,e,f⟩⟩ xs dd=0
   · rw [decide_eq_true ⟨h1,h2⟩] at hbi;subst hbi;obtain ⟨n,hn,rfl,hV,hC⟩:=zEQ h2;obtain ⟨r,rfl⟩ : ∃ r:Nat,room=(r:Int):=⟨room.toNat,by omega⟩
     refine (zBt r (by omega) a b c d e f ha hcp xs h1 n hn (zEi hV h1 hcap) h2 hV hC W (hsl.below hb)).mono ?_
     rintro E w' ⟨sb,h,-,hb'⟩;exact ⟨_,_,h,hb'⟩
   · rw [decide_eq_false (fun h=>h2 h.2)] at hbi;subst hbi;exact (zBs a b c d e f dd room ha hcp xs h1 hr h2 W (hsl.below hb)).mono fun E w' ⟨h,hb'⟩=>⟨_,_,h,hb'⟩
 · rw [decide_eq_false (fun h=>h1 h.1)] at hbi;subst hbi;exact (zBr a b c d e f dd room ha hcp xs.length (by omega) W).mono fun E w' ⟨h,hb'⟩=>⟨_,_,h,hb'⟩
end
end Go.Proofs.YtgnfgblkpnfcnaaGreatDoor
