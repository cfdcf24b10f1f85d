/- Dir, Ldg: joined by program, for one claim. -/
import Derived.Test.YtgnfgblkpnfcnaaGreatDoorM48
import Derived.Great.BuildSlice
set_option maxHeartbeats 1000000
set_option maxRecDepth 100000
set_option linter.unusedVariables false
set_option linter.unusedSimpArgs false
namespace Go.Proofs.YtgnfgblkpnfcnaaGreatDoor
section
open Go.RowKit Go.Sort Go.Maps
open Oct
structure TxI (w:World) (xs:List Int) (k:Nat) (v:Value) (wr:World):Prop where
 bel:Below w.heap.size w wr
 kb:Bl wr w.heap.size .u8 xs 43
 own:Own wr (w.heap.size+1) 5 .u8 v (xs.take k)
theorem zNF (xs:List Int) (hl:xs.length=16) (w:World):Calls Tryz.prog 53 #[zBP .u8 xs] w fun e w'=>e = .returned (.string (strOfNums xs))∧Below w.heap.size w w':=by
 have hsz:Bx ((xs.map (Value.int .u8)).toArray.size=16):=⟨by rw [List.size_toArray,List.length_map,hl]⟩
 replace hl:=Bx.mk hl;unfold zBP;go_enter Tryz.func53,Tryz.ntmps53;go_wp2_with fail;generalize hW:World.alloc w _=W
 have HI:Bx (TxI w xs 0 (.slice none 0 0) W):=by
  rw [←hW];exact ⟨⟨(Below.refl _ _).alloc (Nat.le_refl _) _,(zD _ _ _ rfl:Bk _ _ _ _),by rw [List.take_zero];exact Own.nil _ _ _ _⟩⟩
 clear hW hsz
 go_loopw [3,4] (fun v3 v4 wr => ∃ k:Nat,k≤16∧v4 = .int .i64 k∧Bx (TxI w xs k v3 wr)) (fun _ v4 _=>16 - (intOf v4).toNat)
 case atStart=>exact ⟨0,Nat.zero_le _,rfl,HI⟩
 case round =>
  clear HI;obtain ⟨k,hk,rfl,HI⟩:=hrel;by_cases hlt:k<16
  · have t0:decide ((k:Int)<16)=true:=by simp;omega
    have q0:(0:Int)≤(k:Int):=by omega
    have q1:(k:Int)<16:=by omega
    obtain ⟨x,hx⟩:=zBT hl hlt;have hc:=HI.out.kb.cell hx;have hnext:=Bx.mk (zAA hx);have hle:Bx (w.heap.size+1≤wr.heap.size):=⟨HI.out.kb.lt⟩;have hlk:Bx ((xs.take k).length≤1000000000):=⟨by rw [List.length_take,hl.out];omega⟩
    clear hx
    go_wp2_with (first
     | (at_builtin
        refine zAF rfl _ _ 84 rfl 5 .u8 (.int .u8 0) 1 (by omega) Tryz.underlying84 (by kernel_rfl) rfl (w.heap.size+1) _ (xs.take k) rfl (HI.out.own.alloc _) x ⟨wr.heap.size,0,none⟩ 1 rfl (zH _ _ _) hlk.out (ze hle.out _) ?_
        intro v1 w1 hown1 hg1 _))
    have HI2:Bx (TxI w xs (k+1) v1 w1):=by
     have hb7:Below (w.heap.size+1) (wr.alloc (.cells #[.int .u8 x] 5)) w1:=(Below.refl _ _).grown hg1 (ze hle.out _) (fun g hg=>(HI.out.own.lt g hg).1);have hb8:Below (w.heap.size+1) wr w1:=((Below.refl _ _).alloc hle.out _).trans hb7;refine ⟨HI.out.bel.trans (hb8.mono (Nat.le_succ _)),(hb8.block _ (Nat.lt_succ_self _)).trans HI.out.kb,?_⟩;rw [hnext.out];exact hown1
    clear hown1 hg1 HI hc;go_wp2_with fail
    go_roundw
    case rel=>exact ⟨k+1,by omega,by go_num,HI2⟩
    case measure=>simp [intOf];omega
  · have t0:decide ((k:Int)<16)=false:=by simp;omega
    obtain rfl:k=16:=by omega
    have how:=HI.out.own;rw [List.take_of_length_le (by rw [hl.out];exact Nat.le_refl _)] at how
    obtain ⟨a,c,rfl,hs⟩:=how.form;have hcv:=zK (P:=Tryz.prog) (w:=wr) 84 5 9 Tryz.underlying84 Tryz.underlying5 Tryz.underlying9 hs _ c rfl;clear how hs;go_wp2_with fail;go_ret;exact ⟨rfl,HI.out.bel⟩
theorem zKI (kc:List Int) (hk:kc.length=64) (x:Nat) (hx:x≤255) (w:World) (hK:zAX w 0 kc) :
 Calls Tryz.prog 13 #[.string (strOfNums (Tr.enc (.uni (x:Int))))] w (zA w (dig kc 1 [vi (2 * x)])):=by
 have hI:=Bx.mk (zK7 x (by omega))
 have hP:Parts [vi (2 * x)]:=zJa (zB1 _) (by have:=zNv (2 * x) (by omega);omega)
 have hof:=Bx.mk fun (a:Option Addr) (cap:Nat) (W:World) (h:Slv W a (zy [vi (2 * x)])) (hK:zAX W 0 kc)=>(show Calls Tryz.prog 47 #[(1:Int),.slice a 1 cap] W (fun e w'=>e = .returned (zBP .u8 (dig kc 1 [vi (2 * x)]))∧Below W.heap.size W w') from zK8 kc hk 1 a cap [vi (2 * x)] hP W h hK);have hl16:=zDa kc 1 [vi (2 * x)];have hK:=Bx.mk hK;clear hP;generalize dig kc 1 [vi (2 * x)]=os at *;have hsz:Bx (((os).map (Value.int .u8)).toArray.size=16):=⟨by rw [List.size_toArray,List.length_map,hl16]⟩
 have hs2:Bx (((z16.map (Value.int .u8)).toArray).size=(os.map (Value.int .u8)).toArray.size):=⟨by rw [hsz.out];rfl⟩
 have hone:=Bx.mk (zl .u8 os);have H2:=Bx.mk (show ∀ cs:Array Value,cs.size=16→(Tryz.prog.info? 43).map (·.size)=some cs.size from fun cs h=>by rw [h];kernel_rfl)
 clear hl16;have hby:Byt (Tr.enc (.uni (x:Int))):=Tr.enc_byt _ (show 0≤(x:Int)∧(x:Int)≤255 by omega)
 have hi0:=fun W:World=>zW (P:=Tryz.prog) 9 Tryz.underlying9 hby (k:=0) (x:=117) (by simp [Tr.enc]) W
 have hi1:=fun W:World=>zW (P:=Tryz.prog) 9 Tryz.underlying9 hby (k:=1) (x:=(x:Int)) (by simp [Tr.enc]) W
 rw [show ((0:Nat):Int)=0 from rfl] at hi0;rw [show ((1:Nat):Int)=1 from rfl] at hi1;have hwrap:IntKind.i64.wrap (x:Int)=x:=IntWalk.i64_in _ (by omega)
 generalize strOfNums (Tr.enc (.uni (x:Int)))=S at *;clear hby;go_enter Tryz.func13,Tryz.ntmps13;go_upto_region 1 with fail;generalize hW0:World.alloc w _=W
 have HJ:Bx (Below w.heap.size w W∧Bl W w.heap.size .u8 z16 43):=by
  rw [←hW0];exact ⟨⟨(Below.refl _ _).alloc (Nat.le_refl _) _,(zD _ _ _ rfl:Bk _ _ _ _)⟩⟩
 clear hW0;go_wp2_with fail;refine (hI.out W).mono ?_;rintro _ w1 ⟨v1,rfl,hp1⟩;obtain ⟨a1,c1,rfl,hs1⟩:=hp1.own.form;have hcv:=zK (P:=Tryz.prog) 84 5 9 Tryz.underlying84 Tryz.underlying5 Tryz.underlying9 hs1 _ c1 rfl;have HJ1:Bx (Below w.heap.size w w1∧Bl w1 w.heap.size .u8 z16 43):=⟨HJ.out.1.trans (hp1.bel.mono HJ.out.1.size),HJ.out.2.later hp1.bel⟩;clear hp1 hs1 HJ hI hi0 hi1;generalize vi (2 * x)=xs at *;go_wp2_with fail;refine (hof.out _ 1 _ (zMK w1 xs _) (fun j v hv=>cell_later (HJ1.out.1.alloc HJ1.out.1.size _) (hK.out j v hv))).mono ?_;rintro _ w3 ⟨rfl,hb3⟩;have HJ3:Bx (Below w.heap.size w w3∧Bl w3 w.heap.size .u8 z16 43):=⟨(HJ1.out.1.alloc HJ1.out.1.size _).trans (hb3.mono (HJ1.out.1.alloc HJ1.out.1.size _).size),(HJ1.out.2.alloc _).later hb3⟩;clear hb3 HJ1 hcv hof;unfold zBP;have hkr:=Bx.mk HJ3.out.2;go_wp2_with (refine zAJ rfl _ _ _ rfl w.heap.size rfl _ _ rfl _ hkr.out (H2.out _ hsz.out) hs2.out hone.out ?_);refine bodyPost_ret (v:=zBP .u8 os) (results_cell_row rfl _ _ w.heap.size 43 _ (0,0) _ rfl (hkr.out.whole _) Tryz.underlying43 rfl (H2.out _ hsz.out)) rfl ⟨rfl,below_setRow HJ3.out.1 (Nat.le_refl _) _⟩
theorem zKG (kc:List Int) (hk:kc.length=64) (l:List Int) (hl:l.length=64) (hbl:Byt l) (w:World) (hK:zAX w 0 kc) :
 Calls Tryz.prog 13 #[.string (strOfNums (Tr.enc (.brick l)))] w (zA w (dig kc 2 [PalE.Pal.encB l])):=by
 have hC:=Bx.mk fun (W:World)=>(zCI l hl hbl W).mono (R':=fun e w' => ∃ v,e = .returned v∧Own w' W.heap.size 3 .i64 v l∧Below W.heap.size W w') (fun _ _ h=>h);have hE:=Bx.mk fun (a:Option Addr) (cap:Nat) (W:World) (h:Sl W .i64 a l)=>PalE.ref_encode a cap l W (by omega) h
 have hP:Parts [PalE.Pal.encB l]:=zJa (zBy hl hbl) (by have:=zDt hl;omega)
 have hof:=Bx.mk fun (a:Option Addr) (cap:Nat) (W:World) (h:Slv W a (zy [PalE.Pal.encB l])) (hK:zAX W 0 kc)=>(show Calls Tryz.prog 47 #[(2:Int),.slice a 1 cap] W (fun e w'=>e = .returned (zBP .u8 (dig kc 2 [PalE.Pal.encB l]))∧Below W.heap.size W w') from zK8 kc hk 2 a cap [PalE.Pal.encB l] hP W h hK);have hl16:=zDa kc 2 [PalE.Pal.encB l];have hK:=Bx.mk hK;clear hP;generalize dig kc 2 [PalE.Pal.encB l]=os at *;have hsz:Bx (((os).map (Value.int .u8)).toArray.size=16):=⟨by rw [List.size_toArray,List.length_map,hl16]⟩
 have hs2:Bx (((z16.map (Value.int .u8)).toArray).size=(os.map (Value.int .u8)).toArray.size):=⟨by rw [hsz.out];rfl⟩
 have hone:=Bx.mk (zl .u8 os);have H2:=Bx.mk (show ∀ cs:Array Value,cs.size=16→(Tryz.prog.info? 43).map (·.size)=some cs.size from fun cs h=>by rw [h];kernel_rfl)
 clear hl16;have hby:Byt (98::l):=Tr.enc_byt (.brick l) ⟨hl,hbl⟩;have hi0:=fun W:World=>zW (P:=Tryz.prog) 9 Tryz.underlying9 hby (k:=0) (x:=98) (by simp) W
 rw [show ((0:Nat):Int)=0 from rfl] at hi0;rw [show Tr.enc (.brick l)=98::l by simp [Tr.enc]]
 generalize strOfNums (98::l)=S at *;clear hby hl;go_enter Tryz.func13,Tryz.ntmps13;go_upto_region 1 with fail;generalize hW0:World.alloc w _=W
 have HJ:Bx (Below w.heap.size w W∧Bl W w.heap.size .u8 z16 43):=by
  rw [←hW0];exact ⟨⟨(Below.refl _ _).alloc (Nat.le_refl _) _,(zD _ _ _ rfl:Bk _ _ _ _)⟩⟩
 clear hW0;go_wp2_with fail;refine (hC.out W).mono ?_;rintro _ w1 ⟨v1,rfl,how,hb1⟩;obtain ⟨a1,c1,rfl,hs1⟩:=how.form;have HJ1:Bx (Below w.heap.size w w1∧Bl w1 w.heap.size .u8 z16 43):=⟨HJ.out.1.trans (hb1.mono HJ.out.1.size),HJ.out.2.later hb1⟩;replace hE:=Bx.mk (hE.out a1 c1 w1 hs1);clear how hs1 HJ hC hb1 hi0;generalize PalE.Pal.encB l=xs at *;go_wp2_with fail;refine hE.out.mono ?_;rintro _ w2 ⟨rfl,hb2⟩;have HJ2:Bx (Below w.heap.size w w2∧Bl w2 w.heap.size .u8 z16 43):=⟨HJ1.out.1.trans (hb2.mono HJ1.out.1.size),HJ1.out.2.later hb2⟩;clear hE HJ1 hb2;go_wp2_with fail;refine (hof.out _ 1 _ (zMK w2 xs _) (fun j v hv=>cell_later (HJ2.out.1.alloc HJ2.out.1.size _) (hK.out j v hv))).mono ?_;rintro _ w3 ⟨rfl,hb3⟩;have HJ3:Bx (Below w.heap.size w w3∧Bl w3 w.heap.size .u8 z16 43):=⟨(HJ2.out.1.alloc HJ2.out.1.size _).trans (hb3.mono (HJ2.out.1.alloc HJ2.out.1.size _).size),(HJ2.out.2.alloc _).later hb3⟩;clear hb3 HJ2 hof;unfold zBP;have hkr:=Bx.mk HJ3.out.2;go_wp2_with (refine zAJ rfl _ _ _ rfl w.heap.size rfl _ _ rfl _ hkr.out (H2.out _ hsz.out) hs2.out hone.out ?_);refine bodyPost_ret (v:=zBP .u8 os) (results_cell_row rfl _ _ w.heap.size 43 _ (0,0) _ rfl (hkr.out.whole _) Tryz.underlying43 rfl (H2.out _ hsz.out)) rfl ⟨rfl,below_setRow HJ3.out.1 (Nat.le_refl _) _⟩
theorem zDS (d:Nat) (ch:Fin 8→Tr) (h:Tr.WF (.node d ch)) (w:World):Calls Tryz.prog 51 #[.string (strOfNums (Tr.enc (.node d ch)))] w fun e w'=>e = .returned (.int .i64 (d:Int))∧w=w':=by
 have hby:=Tr.enc_byt _ h;have hi0:=fun W:World=>zW (P:=Tryz.prog) 9 Tryz.underlying9 hby (k:=0) (x:=110) (by simp [Tr.enc]) W
 have hi1:=fun W:World=>zW (P:=Tryz.prog) 9 Tryz.underlying9 hby (k:=1) (x:=(d:Int)) (by simp [Tr.enc]) W
 rw [show ((0:Nat):Int)=0 from rfl] at hi0;rw [show ((1:Nat):Int)=1 from rfl] at hi1;have hd:d≤255:=h.1;have hwrap:IntKind.i64.wrap (d:Int)=d:=IntWalk.i64_in _ (by omega)
 generalize strOfNums (Tr.enc (.node d ch))=S at *;clear hby h;go_enter Tryz.func51,Tryz.ntmps51;go_wp2_with fail;go_ret;exact ⟨rfl,rfl⟩
structure RgI (w:World) (g:Nat) (kc:List Int) (d:Nat) (ch:Fin 8→Tr) (k:Nat) (v:Value) (wr:World):Prop where
 bel:Below w.heap.size w wr
 kr:Bl wr w.heap.size .u8 z16 43
 kids:Slv wr (some ⟨g,0,none⟩) (zy (za ch))
 own:Ownv wr (w.heap.size+1) 9 v (zy (zm kc d ch k))
 ap:v.ownBlock ≠ some g∧g<wr.heap.size
theorem RgI.later {w wr w':World} {g:Nat} {kc:List Int} {d:Nat} {ch:Fin 8→Tr} {k:Nat} {v:Value} (h:RgI w g kc d ch k v wr) (hb:Below wr.heap.size wr w'):RgI w g kc d ch k v w' :=
 ⟨h.bel.trans (hb.mono h.bel.size),h.kr.later hb,h.kids.below hb,h.own.below hb,h.ap.1,Nat.lt_of_lt_of_le h.ap.2 hb.size⟩
theorem zKH (kc:List Int) (hk:kc.length=64) (d:Nat) (ch:Fin 8→Tr) (h:Tr.WF (.node d ch)) (hl:(Tr.enc (.node d ch)).length≤1000000000000000) (hIH : ∀ k (hk:k<8) W,zAX W 0 kc→Calls Tryz.prog 13 #[.string (strOfNums (Tr.enc (ch ⟨k,hk⟩)))] W (zA W (zDY kc (ch ⟨k,hk⟩)))) (w:World) (hK:zAX w 0 kc) :
 Calls Tryz.prog 13 #[.string (strOfNums (Tr.enc (.node d ch)))] w (zA w (dig kc 3 (zm kc d ch 8))):=by
 have hd:d≤255:=h.1;have hI:=Bx.mk (zK7 d (by omega))
 have hIH:=Bx.mk fun k (hk:k<8) W (h1:zAX W 0 kc)=>(hIH k hk W h1).mono (R':=fun e w'=>e = .returned (zBP .u8 (zDY kc (ch ⟨k,hk⟩)))∧Below W.heap.size W w') (fun _ _ h=>h);have hP:Parts (zm kc d ch 8):=zJY kc ch (by omega)
 have hlp:(zm kc d ch 8).length=9:=zJX kc d ch (Nat.le_refl _);have hof:=Bx.mk fun (a:Option Addr) (cap:Nat) (W:World) (h:Slv W a (zy (zm kc d ch 8))) (hK:zAX W 0 kc)=>(show Calls Tryz.prog 47 #[(3:Int),.slice a 9 cap] W (fun e w'=>e = .returned (zBP .u8 (dig kc 3 (zm kc d ch 8)))∧Below W.heap.size W w') from by have:=zK8 kc hk 3 a cap (zm kc d ch 8) hP W h hK;rw [hlp] at this;exact this)
 have hl16:=zDa kc 3 (zm kc d ch 8);have hK:=Bx.mk hK;clear hP;clear hlp;generalize dig kc 3 (zm kc d ch 8)=os at *;have hsz:Bx (((os).map (Value.int .u8)).toArray.size=16):=⟨by rw [List.size_toArray,List.length_map,hl16]⟩
 have hs2:Bx (((z16.map (Value.int .u8)).toArray).size=(os.map (Value.int .u8)).toArray.size):=⟨by rw [hsz.out];rfl⟩
 have hone:=Bx.mk (zl .u8 os);have H2:=Bx.mk (show ∀ cs:Array Value,cs.size=16→(Tryz.prog.info? 43).map (·.size)=some cs.size from fun cs h=>by rw [h];kernel_rfl)
 clear hl16;have hps:=Bx.mk fun k (hk:k<8)=>zJZ kc d ch hk;have hpl:=Bx.mk fun k (hk:k≤8)=>zJX kc d ch hk;have hp0:Bx (zm kc d ch 0=[vi (2 * d)]):=⟨rfl⟩;have hD:=Bx.mk (zDS d ch h);have hCh:=Bx.mk (zKR d ch h hl);have HK8:=Bx.mk fun k (hk:k<8)=>zMy (zF7 ch hk);have hby:=Tr.enc_byt _ h;have hi0:=fun W:World=>zW (P:=Tryz.prog) 9 Tryz.underlying9 hby (k:=0) (x:=110) (by simp [Tr.enc]) W
 rw [show ((0:Nat):Int)=0 from rfl] at hi0;generalize strOfNums (Tr.enc (.node d ch))=S at *;clear hby h hl;go_enter Tryz.func13,Tryz.ntmps13;go_upto_region 1 with fail;generalize hW0:World.alloc w _=W
 have HJ:Bx (Below w.heap.size w W∧Bl W w.heap.size .u8 z16 43):=by
  rw [←hW0];exact ⟨⟨(Below.refl _ _).alloc (Nat.le_refl _) _,(zD _ _ _ rfl:Bk _ _ _ _)⟩⟩
 clear hW0;go_wp2_with fail;refine (hD.out W).mono ?_;rintro _ _ ⟨rfl,rfl⟩;go_wp2_with fail;refine (hI.out W).mono ?_;rintro _ w1 ⟨v1,rfl,hp1⟩;obtain ⟨a1,c1,rfl,hs1⟩:=hp1.own.form;have hcv:=zK (P:=Tryz.prog) 84 5 9 Tryz.underlying84 Tryz.underlying5 Tryz.underlying9 hs1 _ c1 rfl;have HJ1:Bx (Below w.heap.size w w1∧Bl w1 w.heap.size .u8 z16 43):=⟨HJ.out.1.trans (hp1.bel.mono HJ.out.1.size),HJ.out.2.later hp1.bel⟩;have hsw:Bx (w.heap.size<w1.heap.size):=⟨HJ1.out.2.lt⟩;clear hp1 hs1 HJ hI hi0 hD;generalize vi (2 * d)=xs at *;go_wp2_with fail;have hb4:Below w.heap.size w (w1.alloc (.cells #[.string (strOfNums xs)] 9)):=HJ1.out.1.alloc HJ1.out.1.size _;refine (hCh.out _).mono ?_;rintro _ w4 ⟨g,pc,rfl,hkids,⟨hg1,hg2⟩,hbc⟩
 have HI:Bx (RgI w g kc d ch 0 (.slice (some ⟨w1.heap.size,0,none⟩) 1 1) w4):=by
  have hl:=Ownv.lit1 w1 (w.heap.size+1) 9 (.string (strOfNums xs)) (by have:=hsw.out;omega)
  refine ⟨⟨hb4.trans (hbc.mono hb4.size),(HJ1.out.2.alloc _).later hbc,hkids,?_,?_,hg2⟩⟩
  · rw [hp0.out];exact hl.below hbc
  · intro e;simp [Value.ownBlock] at e;simp at hg1;omega
 clear hkids hbc hb4 HJ1 hcv hp0 hsw hCh hg1 hg2;go_wp2_with fail
 go_loopw [5,7] (fun v5 v7 wr => ∃ k:Nat,k≤8∧v7 = .int .i64 k∧Bx (RgI w g kc d ch k v5 wr)) (fun _ v7 _=>8 - (intOf v7).toNat)
 case atStart=>exact ⟨0,Nat.zero_le _,rfl,HI⟩
 case round =>
  clear HI;obtain ⟨k,hk8,rfl,HI⟩:=hrel;by_cases hlt:k<8
  · have t0:decide ((k:Int)<8)=true:=by simp;omega
    have q0:(0:Int)≤(k:Int):=by omega
    have q1:(k:Int)<8:=by omega
    have hIk:=Bx.mk (hIH.out k hlt wr (fun j v hv=>cell_later HI.out.bel (hK.out j v hv)));have hsn:=Bx.mk (hps.out k hlt);have hlk:Bx ((zy (zm kc d ch k)).length≤1000000000):=⟨by rw [zz,hpl.out k (by omega)];omega⟩
    have hl16:=zDZ kc (ch ⟨k,hlt⟩);obtain ⟨b',off,he,hck⟩:=HI.out.kids k _ (HK8.out k hlt);simp only [Option.some.injEq,Addr.mk.injEq,and_true] at he;obtain ⟨rfl,rfl⟩:=he;rw [Nat.zero_add] at hck;generalize strOfNums (Tr.enc (ch ⟨k,hlt⟩))=Sk at *;generalize zDY kc (ch ⟨k,hlt⟩)=xs at *;have hsz9:Bx (((xs).map (Value.int .u8)).toArray.size=16):=⟨by rw [List.size_toArray,List.length_map,hl16]⟩
    have hzz:Bx (16=(xs.map (Value.int .u8)).toArray.size):=⟨by rw [hsz9.out]⟩
    have hone9:=Bx.mk (zl .u8 xs);have hTx:=Bx.mk (zNF xs hl16);go_wp2_with fail;refine hIk.out.mono ?_;rintro _ w5 ⟨rfl,hb5⟩;have HI5:=Bx.mk (HI.out.later hb5);clear hIk hb5 HI hck;unfold zBP
    go_upto_region 12 with (first
     | refine zAJ rfl _ _ _ rfl w5.heap.size rfl _ _ rfl _ (heap_alloc_new _ _) (H2.out _ hsz9.out) hzz.out hone9.out ?_
     | fail)
    generalize hW6:World.setRow (World.alloc w5 _) _ _=W6;have hw5:w.heap.size<w5.heap.size:=HI5.out.kr.lt
    have HI6:Bx (RgI w g kc d ch k u5 W6∧Bl W6 w5.heap.size .u8 xs 43):=by
     have hb6:Below w5.heap.size w5 W6:=by rw [←hW6];exact below_setRow ((Below.refl _ _).alloc (Nat.le_refl _) _) (Nat.le_refl _) _
     refine ⟨HI5.out.later hb6,?_⟩;rw [←hW6];exact setRow_heap _ _ _ _ _ (0,0) (heap_alloc_new _ _)
    clear hW6 HI5 hl16;have hkx:=Bx.mk HI6.out.2
    go_wp2_with (first
     | refine zAI rfl _ _ rfl w5.heap.size rfl _ _ hkx.out _ Tryz.underlying43 rfl (H2.out _ hsz9.out) ?_
     | fail)
    refine (hTx.out _).mono ?_;rintro _ w7 ⟨rfl,hb7⟩;have HI7:=Bx.mk (HI6.out.1.later hb7);have hle:Bx (w.heap.size+1≤w7.heap.size):=⟨HI7.out.kr.lt⟩;clear HI6 hkx hb7 hTx hw5
    go_wp2_with (first
     | (at_builtin
        refine zAH rfl _ _ 37 rfl 9 (.string ByteArray.empty) 16 (by omega) Tryz.underlying37 (by kernel_rfl) rfl (w.heap.size+1) _ (zy (zm kc d ch k)) rfl (HI7.out.own.alloc _) (.string (strOfNums xs)) rfl ⟨w7.heap.size,0,none⟩ 1 rfl (zH _ _ _) hlk.out (ze hle.out _) ?_
        intro v1 w8 hown1 hg1 hob1))
    have HI8:Bx (RgI w g kc d ch (k+1) v1 w8):=by
     have hown2:=hown1;rw [show (zy (zm kc d ch k)++[.string (strOfNums xs)])=zy (zm kc d ch (k+1)) by rw [hsn.out,zMz]] at hown2
     have hb7:Below (w.heap.size+1) (w7.alloc (.cells #[.string (strOfNums xs)] 9)) w8:=(Below.refl _ _).grown hg1 (ze hle.out _) (fun g hg=>(HI7.out.own.lt g hg).1);have hb8:Below (w.heap.size+1) w7 w8:=((Below.refl _ _).alloc hle.out _).trans hb7;have hap:=HI7.out.ap;refine ⟨HI7.out.bel.trans (hb8.mono (Nat.le_succ _)),(hb8.block _ (Nat.lt_succ_self _)).trans HI7.out.kr,(HI7.out.kids.below ((Below.refl _ _).alloc (Nat.le_refl _) _)).grown hg1 hap.1,hown2,?_,Nat.lt_of_lt_of_le hap.2 hb8.size⟩;rcases hob1 with e | e
     · rw [e];exact hap.1
     · rw [e];intro e2;injection e2 with e2;simp at e2;omega
    clear hown1 hg1 hob1 HI7;go_wp2_with fail
    go_roundw
    case rel=>exact ⟨k+1,by omega,by go_num,HI8⟩
    case measure=>simp [intOf];omega
  · have t0:decide ((k:Int)<8)=false:=by simp;omega
    obtain rfl:k=8:=by omega
    have hl9:=hpl.out 8 (Nat.le_refl _);obtain ⟨a8,c8,rfl,hs8⟩:=HI.out.own.form;have hl9':(zy (zm kc d ch 8)).length=9:=by rw [zz];exact hl9
    rw [hl9'] at *;have hof8:=Bx.mk (hof.out a8 c8 wr hs8 (fun j v hv=>cell_later HI.out.bel (hK.out j v hv)));clear hl9 hl9' hs8 hof;go_wp2_with fail;refine hof8.out.mono ?_;rintro _ w3 ⟨rfl,hb3⟩;have HJ3:Bx (Below w.heap.size w w3∧Bl w3 w.heap.size .u8 z16 43):=⟨HI.out.bel.trans (hb3.mono HI.out.bel.size),HI.out.kr.later hb3⟩;clear hb3 HI hof8;unfold zBP;have hkr:=Bx.mk HJ3.out.2;go_wp2_with (refine zAJ rfl _ _ _ rfl w.heap.size rfl _ _ rfl _ hkr.out (H2.out _ hsz.out) hs2.out hone.out ?_);refine bodyPost_ret (v:=zBP .u8 os) (results_cell_row rfl _ _ w.heap.size 43 _ (0,0) _ rfl (hkr.out.whole _) Tryz.underlying43 rfl (H2.out _ hsz.out)) rfl ⟨rfl,below_setRow HJ3.out.1 (Nat.le_refl _) _⟩
theorem zDb (kc:List Int) (hk:kc.length=64) (Far:Nat→Prop) (sb:Nat) (most:Int) (ts:List Tr) (hG:Good ts) (hlen:ts.length≤4194304) : ∀ (t:Tr),Tr.WF t→t∈ts → ∀ (w:World),zAX w 1 kc→StoreIs w Far sb most ts →
 Calls Tryz.prog 39 #[.pointer (some ⟨sb,0,none⟩),(idT ts t:Int)] w (zA w (zDY kc t)):=by
 intro t
 induction t with
 | uni c =>
   intro h ht w hK hS;have h:0≤c∧c≤255:=h;obtain ⟨x,rfl⟩ : ∃ x:Nat,c=(x:Int):=⟨c.toNat,by omega⟩
   have:=zDe kc hk x (by omega) Far sb most ts ht hlen w hK hS
   unfold zDY;rwa [Int.toNat_natCast]
 | brick l =>
   intro h ht w hK hS;have h:l.length=64 ∧ ∀ x∈l,0≤x∧x≤255:=h;unfold zDY;exact zDc kc hk l h.1 h.2 Far sb most ts ht hG hlen w hK hS
 | node d ch ih =>
   intro h ht w hK hS;have h:d≤255 ∧ ∀ i,Tr.WF (ch i):=h;rw [←zJW]
   exact zDd kc hk d h.1 ch Far sb most ts ht (fun k hk8 W h1 h2=>by
    have:=ih ⟨k,hk8⟩ (h.2 _) (hG.closed.2 d ch ht _) W h1 h2;unfold zF4;rw [dif_pos hk8];exact this) hlen w hK hS
theorem zKF (kc:List Int) (hk:kc.length=64) : ∀ (t:Tr),Tr.WF t→(Tr.enc t).length≤1000000000000000 → ∀ (w:World),zAX w 0 kc→Calls Tryz.prog 13 #[.string (strOfNums (Tr.enc t))] w (zA w (zDY kc t)):=by
 intro t
 induction t with
 | uni c =>
   intro h _ w hK;have h:0≤c∧c≤255:=h;obtain ⟨x,rfl⟩ : ∃ x:Nat,c=(x:Int):=⟨c.toNat,by omega⟩
   have:=zKI kc hk x (by omega) w hK
   unfold zDY;rwa [Int.toNat_natCast]
 | brick l =>
   intro h _ w hK;have h:l.length=64 ∧ ∀ x∈l,0≤x∧x≤255:=h;unfold zDY;exact zKG kc hk l h.1 h.2 w hK
 | node d ch ih =>
   intro h hl w hK;have hw:d≤255 ∧ ∀ i,Tr.WF (ch i):=h;rw [←zJW]
   exact zKH kc hk d ch h hl (fun k hk8 W h1=>ih ⟨k,hk8⟩ (hw.2 _) (by
    have h1:=Tr.pos_succ ch hk8;have h2:=Tr.pos_le d ch (show k+1≤8 by omega)
    omega) W h1) w hK
theorem zEG {AL:List Value} {k:Nat} (hk:0<k) (hl:AL.length=k) (cells:Array Value) (hc:cells.size=k):Instr.fill (fun i=>some (i * k,k)) cells [(0,.agg AL.toArray)]=some AL.toArray:=by
 obtain ⟨r,h1,h2,h3⟩:=Go.Great.fill_dense hk [.agg AL.toArray] 0 cells (fun v hv=>by
  rw [List.mem_singleton] at hv;subst hv
  show AL.toArray.size=k
  simpa using hl) (by simp;omega)
 have e:(([.agg AL.toArray]:List Value).zipIdx 0).map (fun x=>(x.2,x.1))=[(0,.agg AL.toArray)]:=rfl;rw [e] at h1;rw [h1]
 congr 1
 apply Array.ext_getElem?;intro j;rw [h3 j];rcases Nat.lt_or_ge j k with h | h
 · rw [if_pos (by simp;omega)]
   have hd:j / k - 0=0:=by rw [Nat.div_eq_of_lt h]
   rw [hd,Nat.mod_eq_of_lt h];rfl
 · rw [if_neg (by simp;omega),Array.getElem?_eq_none (by omega),Array.getElem?_eq_none (by simp;omega)]
theorem zON {P:Program} {ops:Array Oper} {rest:List Oper} {o:Oper} {a:Act} {w:World} {Q:Exit→Act→World→Prop} (hg:o.guard=none) (t e:TypeId) (x:Operand) (ho:o.op = .buildSlice t 1 #[(0,x)]) (AL:List Value) (hx:a.eval x = .agg AL.toArray)
 (hu:P.underlying t=some (.slice e)) (hi:(P.info? e).map (·.size)=some AL.length) (hz:((P.info? e).bind (·.zero)).isSome=true) (hpos:0<AL.length) (hsm:AL.length≤1000)
 (h:wpList P ops Q rest (a.put o.dst (.slice (some ⟨w.heap.size,0,none⟩) 1 1)) (w.alloc (.cells AL.toArray e))):wpList P ops Q (o::rest) a w:=by
 cases hie:P.info? e with
 | none=>simp [hie] at hi
 | some ie =>
   simp only [hie,Option.map_some,Option.some.injEq,Option.bind_some] at hi hz;obtain ⟨z,hzz⟩:=Option.isSome_iff_exists.1 hz;refine wpList_buildSlice hg t e 1 _ ho _ ie z hu hie hzz (by rw [hi];omega) (by rw [hi];omega) ?_ h
   have hp:(#[((0:Nat),x)].map fun (i,x)=>(i,a.eval x)).toList=[((0:Nat),Value.agg AL.toArray)]:=by simp [hx]
   rw [hp,hi];exact zEG hpos rfl _ (by simp)
def zEK (Ds:List (List Int)):List Value:=Ds.flatMap fun d=>d.map (Value.int .u8)
theorem zEL : ∀ {Ds:List (List Int)},(∀ d∈Ds,d.length=16) → ∀ {k:Nat} {d:List Int},Ds[k]? = some d → ∀ {j:Nat},j<16→(zEK Ds)[k * 16+j]? = (d.map (Value.int .u8))[j]?
 | [],_,k,d,hk,_,_=>by simp at hk
 | x :: Ds, h, 0, d, hk, j, hj => by
   obtain rfl:x=d:=by simpa using hk
   have hx:=h x (List.mem_cons_self ..);unfold zEK;rw [List.flatMap_cons,Nat.zero_mul,Nat.zero_add,List.getElem?_append_left (by rw [List.length_map];omega)]
 | x :: Ds, h, k + 1, d, hk, j, hj => by
   have hx:=h x (List.mem_cons_self ..);have ih:=zEL (Ds:=Ds) (fun d hd=>h d (List.mem_cons_of_mem _ hd)) (k:=k) (d:=d) (by simpa using hk) hj
   unfold zEK at ih ⊢;rw [List.flatMap_cons,List.getElem?_append_right (by rw [List.length_map];omega),List.length_map,hx,show (k+1) * 16+j - 16=k * 16+j by omega]
   exact ih
structure OwnD (w:World) (B:Nat) (v:Value) (Ds:List (List Int)):Prop where
 row:w.ownsRow B 43 16 v Ds.length (zEK Ds)
 len : ∀ d∈Ds,d.length=16
theorem OwnD.nil (w:World) (B:Nat):OwnD w B (.slice none 0 0) []:=⟨World.ownsRow_nil w B _ 16,by simp⟩
theorem OwnD.below {w w':World} {B:Nat} {v:Value} {Ds:List (List Int)} (h:OwnD w B v Ds) (hb:Below w.heap.size w w'):OwnD w' B v Ds:=⟨zJA h.row hb,h.len⟩
theorem OwnD.grown {w w':World} {B:Nat} {v:Value} {Ds:List (List Int)} (h:OwnD w B v Ds) {row:Option Nat} (hg:w.grownBy w' row) (hne:v.ownBlock=none∨v.ownBlock ≠ row):OwnD w' B v Ds:=⟨World.ownsRow.kept h.row hg hne,h.len⟩
theorem OwnD.lt {w:World} {B:Nat} {v:Value} {Ds:List (List Int)} (h:OwnD w B v Ds) : ∀ g,v.ownBlock=some g→B≤g∧g<w.heap.size:=World.ownsRow.lt h.row
def SlD (w:World) (a:Option Addr) (Ds:List (List Int)):Prop := ∀ (k:Nat) d,Ds[k]? = some d → ∃ g,a=some ⟨g,0,none⟩∧w.rangeAt g (k * 16) (d.map (Value.int .u8))∧d.length=16
theorem SlD.below {w w':World} {a:Option Addr} {Ds:List (List Int)} (h:SlD w a Ds) (hb:Below w.heap.size w w'):SlD w' a Ds:=fun k d hk=>by
 obtain ⟨g,h1,h2,h3⟩:=h k d hk;exact ⟨g,h1,fun j v hj=>cell_later hb (h2 j v hj),h3⟩
theorem OwnD.form {w:World} {B:Nat} {v:Value} {Ds:List (List Int)} (h:OwnD w B v Ds) : ∃ a c,v = .slice a Ds.length c∧Ds.length≤c∧SlD w a Ds:=by
 obtain ⟨a,c,h1,h2,h3,h4⟩:=zJC h.row;refine ⟨a,c,h1,h2,fun k d hk=>?_⟩;have hd:=h.len d (List.mem_of_getElem? hk);have hkl:=(List.getElem?_eq_some_iff.1 hk).1;rcases h3 with h3 | ⟨g,h3,-⟩
 · omega
 · refine ⟨g,h3,fun j u hj=>?_,hd⟩;have hj16:j<16:=by have:=(List.getElem?_eq_some_iff.1 hj).1;rw [List.length_map] at this;omega
   obtain ⟨g',e,hc⟩:=h4 (k * 16+j) u (by rw [zEL h.len hk hj16];exact hj)
   rw [h3] at e;simp only [Option.some.injEq,Addr.mk.injEq,and_true] at e;rw [e];exact hc
theorem zOK {w:World} {ops:Array Oper} {rest:List Oper} {o:Oper} {a:Act} {Q:Exit→Act→World→Prop} (hgd:o.guard=none) (s x:Operand)
 (ho:o.op = .call { callee:=.builtin .append,args:=#[s,x],argTypes:=#[41,41] })
 (B:Nat) (v:Value) (Ds:List (List Int)) (hs:a.eval s=v) (hown:OwnD w B v Ds) (g c:Nat) (d:List Int) (hd:d.length=16) (hx:a.eval x = .slice (some ⟨g,0,none⟩) 1 c) (hk:Bk w g (d.map (Value.int .u8)).toArray 43) (hl:Ds.length≤1000) (hbase:B≤w.heap.size)
 (h : ∀ v' w',OwnD w' B v' (Ds++[d])→w.grownBy w' v.ownBlock→(v'.ownBlock=v.ownBlock∨v'.ownBlock=some w.heap.size)→wpList Tryz.prog ops Q rest (a.put o.dst v') w'):wpList Tryz.prog ops Q (o::rest) a w :=
 wpList_plain hgd fun _ hK=>by
  obtain ⟨i,hi,hzz⟩:=Option.map_eq_some_iff.1 (show (Tryz.prog.info? 43).map (fun i=>(i.zero,i.size,i.bytes))=some (some (.agg (Array.replicate 16 (.int .u8 0))),16,16) by kernel_rfl)
  simp only [Prod.mk.injEq] at hzz;obtain ⟨hz,hsz,hby⟩:=hzz
  obtain ⟨v',w',hr,h2,h3,-,h5⟩:=run_append_own_at (P:=Tryz.prog) w B 41 o.type 43 i _ 16 16 Tryz.underlying41 hi hz hsz hby (by decide) (by decide) v Ds.length (zEK Ds) hown.row ⟨g,0,none⟩ 1 c (d.map (Value.int .u8)) (by rw [List.length_map];omega) (fun j u hj=>by
   rw [show (⟨g,0,none⟩:Addr).add j=⟨g,j,none⟩ by cases j <;> simp [Addr.add]]
   exact hk.cell j (by simpa using hj)) (fun y hy=>by obtain ⟨z,_,rfl⟩:=List.mem_map.1 hy;rfl) (by unfold maxLen;omega) (by omega) hbase
  unfold Oper.wp execOp;simp only [ho,resolve,invoke,builtin,Sem.run_bind,Sem.run_pure,Result.andThen_ok,List.map_toArray,List.map_cons,List.map_nil,hs,hx,hr];refine hK _ _ (h v' w' ⟨?_,fun x hx=>?_⟩ h3 h5)
  · rw [show zEK (Ds++[d])=zEK Ds++d.map (Value.int .u8) by simp [zEK],List.length_append]
    exact h2
  · rcases List.mem_append.1 hx with hx | hx
    · exact hown.len x hx
    · rw [List.mem_singleton.1 hx];exact hd
theorem OwnD.far {w w':World} {Far:Nat→Prop} {B:Nat} {v:Value} {Ds:List (List Int)} (h:OwnD w B v Ds) (hk:Keeps Far w w') (hf : ∀ g,v.ownBlock=some g→Far g):OwnD w' B v Ds:=by
 refine ⟨⟨h.row.1,?_⟩,h.len⟩;rcases h.row.2 with hn | ⟨g,cap,cur,rfl,hb,hgg,rest⟩
 · exact .inl hn
 · exact .inr ⟨g,cap,cur,rfl,hb,by rw [hk.block g (hf g rfl) (Array.getElem?_eq_some_iff.1 hgg).1];exact hgg,rest⟩
theorem StoreIs.grownR {w w':World} {Far:Nat→Prop} {sb:Nat} {most:Int} {ts:List Tr} {row:Option Nat} (h:StoreIs w Far sb most ts) (hg:w.grownBy w' row) (hr : ∀ g,row=some g→Far g):StoreIs w' Far sb most ts:=by
 cases row with
 | some g=>exact h.apart hg (hr g rfl)
 | none=>exact h.later ⟨hg.os,hg.tape,hg.output,hg.size,fun k hk=>hg.block k hk (by simp)⟩
end
end Go.Proofs.YtgnfgblkpnfcnaaGreatDoor
