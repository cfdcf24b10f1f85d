/- Dig: joined by program, for one claim. -/
import Derived.Test.YtgnfgblkpnfcnaaGreatDoorM44
import Derived.Test.YtgnfgblkpnfcnaaGreatDoorM47
set_option maxHeartbeats 1000000
set_option maxRecDepth 100000
set_option linter.unusedVariables false
set_option linter.unusedSimpArgs false
section
namespace Go.Proofs.YtgnfgblkpnfcnaaGreatDoor
open Go.RowKit Go.Sort Go.Maps
open Oct
theorem zDe (kc:List Int) (hk:kc.length=64) (x:Nat) (hx:x≤255) (Far:Nat→Prop) (sb:Nat) (most:Int) (ts:List Tr) (ht:(Tr.uni (x:Int))∈ts) (hlen:ts.length≤4194304) (w:World) (hK:zAX w 1 kc) (hS:StoreIs w Far sb most ts) :
 Calls Tryz.prog 39 #[.pointer (some ⟨sb,0,none⟩),.int .i64 (idT ts (Tr.uni (x:Int)):Int)] w (zA w (dig kc 1 [vi (2 * x)])):=by
 have hI:=Bx.mk (zFk x (by omega))
 have hP:Parts [vi (2 * x)]:=zJa (zB1 _) (by have:=zNv (2 * x) (by omega);omega)
 have hof:=Bx.mk fun (a:Option Addr) (cap:Nat) (W:World) (h:Slv W a (zy [vi (2 * x)])) (hK:zAX W 1 kc)=>(show Calls Tryz.prog 87 #[(1:Int),.slice a 1 cap] W (fun e w'=>e = .returned (zBP .u8 (dig kc 1 [vi (2 * x)]))∧Below W.heap.size W w') from zIg kc hk 1 a cap [vi (2 * x)] hP W h hK);have hl16:=zDa kc 1 [vi (2 * x)];have hK:=Bx.mk hK;clear hP;generalize dig kc 1 [vi (2 * x)]=os at *;have hsz:Bx (((os).map (Value.int .u8)).toArray.size=16):=⟨by rw [List.size_toArray,List.length_map,hl16]⟩
 have hs2:Bx (((z16.map (Value.int .u8)).toArray).size=(os.map (Value.int .u8)).toArray.size):=⟨by rw [hsz.out];rfl⟩
 have hone:=Bx.mk (zl .u8 os);have H2:=Bx.mk (show ∀ cs:Array Value,cs.size=16→(Tryz.prog.info? 43).map (·.size)=some cs.size from fun cs h=>by rw [h];kernel_rfl)
 clear hl16;have HS:=Bx.mk hS;have HS0:=HS;have Ht:=Bx.mk ht;clear hS;go_enter Tryz.func39,Tryz.ntmps39;go_upto_region 1 with fail;generalize hW0:World.alloc w _=W0
 have HJ0:Bx (Below w.heap.size w W0∧Bl W0 w.heap.size .u8 z16 43∧W0.heap.size=w.heap.size+1):=by
  rw [←hW0];exact ⟨⟨(Below.refl _ _).alloc (Nat.le_refl _) _,(zD _ _ _ rfl:Bk _ _ _ _),by simp⟩⟩
 clear hW0;obtain ⟨g,cap,mb,ks,hi,hc⟩:=Bx.node (HS.out.later HJ0.out.1) Ht.out (k:=1) (c:=(x:Int)) rfl;have b1:(0:Int)≤(idT ts (Tr.uni (x:Int)):Int):=by omega
 have b2:(idT ts (Tr.uni (x:Int)):Int)<(ts.length:Int):=by omega
 have cs1:=ks.cell 1 rfl;have d0:W0.cell? ⟨g,idT ts (Tr.uni (x:Int)) * 12,none⟩=some (.int .i64 1):=hc.out 0 _ (by omega) rfl
 have d1:W0.cell? ⟨g,idT ts (Tr.uni (x:Int)) * 12+1,none⟩=some (.int .i64 (x:Int)):=hc.out 1 _ (by omega) rfl
 have d2:W0.cell? ⟨g,idT ts (Tr.uni (x:Int)) * 12+2,none⟩=some (.string ByteArray.empty):=hc.out 2 _ (by omega) rfl
 have d3:W0.cell? ⟨g,idT ts (Tr.uni (x:Int)) * 12+3,none⟩=some (.int .i64 0):=hc.out 3 _ (by omega) rfl
 have d4:W0.cell? ⟨g,idT ts (Tr.uni (x:Int)) * 12+4,none⟩=some (_):=hc.out 4 _ (by omega) rfl
 have d5:W0.cell? ⟨g,idT ts (Tr.uni (x:Int)) * 12+5,none⟩=some (_):=hc.out 5 _ (by omega) rfl
 have d6:W0.cell? ⟨g,idT ts (Tr.uni (x:Int)) * 12+6,none⟩=some (_):=hc.out 6 _ (by omega) rfl
 have d7:W0.cell? ⟨g,idT ts (Tr.uni (x:Int)) * 12+7,none⟩=some (_):=hc.out 7 _ (by omega) rfl
 have d8:W0.cell? ⟨g,idT ts (Tr.uni (x:Int)) * 12+8,none⟩=some (_):=hc.out 8 _ (by omega) rfl
 have d9:W0.cell? ⟨g,idT ts (Tr.uni (x:Int)) * 12+9,none⟩=some (_):=hc.out 9 _ (by omega) rfl
 have d10:W0.cell? ⟨g,idT ts (Tr.uni (x:Int)) * 12+10,none⟩=some (_):=hc.out 10 _ (by omega) rfl
 have d11:W0.cell? ⟨g,idT ts (Tr.uni (x:Int)) * 12+11,none⟩=some (_):=hc.out 11 _ (by omega) rfl
 clear ks hc hi;generalize idT ts (Tr.uni (x:Int))=i at *;generalize ts.length=n at *;go_upto_region 2 with fail;generalize hW:World.alloc W0 _=W
 have HJ:Bx (Below w.heap.size w W∧Bl W w.heap.size .u8 z16 43):=by
  rw [←hW];exact ⟨⟨HJ0.out.1.alloc HJ0.out.1.size _,HJ0.out.2.1.alloc _⟩⟩
 have hwn:W0.heap.size=w.heap.size+1:=HJ0.out.2.2;have kn:Bk W W0.heap.size #[(1:Int),(x:Int),.string ByteArray.empty,(0:Int),(0:Int),(0:Int),(0:Int),(0:Int),(0:Int),(0:Int),(0:Int),(0:Int)] 111:=bk0 hW rfl;have HSW:=Bx.mk (HS.out.later HJ.out.1);clear hW HJ0 HS;clear hwn d0 d1 d2 d3 d4 d5 d6 d7 d8 d9 d10 d11 cs1;obtain ⟨cn0,cn1,cn2,cn3,cn4,cn5,cn6,cn7,cn8,cn9,cn10,cn11⟩:=kn.c12;go_wp2_with fail;clear cn0 cn1 cn2 cn3 cn4 cn5 cn6 cn7 cn8 cn9 cn10 cn11 kn;refine (hI.out W).mono ?_;rintro _ w1 ⟨v1,rfl,hp1⟩;obtain ⟨a1,c1,rfl,hs1⟩:=hp1.own.form;have hcv:=zK (P:=Tryz.prog) 84 5 9 Tryz.underlying84 Tryz.underlying5 Tryz.underlying9 hs1 _ c1 rfl;have HJ1:Bx (Below w.heap.size w w1∧Bl w1 w.heap.size .u8 z16 43):=⟨HJ.out.1.trans (hp1.bel.mono HJ.out.1.size),HJ.out.2.later hp1.bel⟩;clear hp1 hs1 HJ hI;generalize vi (2 * x)=xs at *;go_wp2_with fail;refine (hof.out _ 1 _ (zMK w1 xs _) (fun j v hv=>cell_later (HJ1.out.1.alloc HJ1.out.1.size _) (hK.out j v hv))).mono ?_;rintro _ w3 ⟨rfl,hb3⟩;have HJ3:Bx (Below w.heap.size w w3∧Bl w3 w.heap.size .u8 z16 43):=⟨(HJ1.out.1.alloc HJ1.out.1.size _).trans (hb3.mono (HJ1.out.1.alloc HJ1.out.1.size _).size),(HJ1.out.2.alloc _).later hb3⟩;clear hb3 HJ1 hcv hof;unfold zBP;have hkr:=Bx.mk HJ3.out.2;go_wp2_with (refine zAJ rfl _ _ _ rfl w.heap.size rfl _ _ rfl _ hkr.out (H2.out _ hsz.out) hs2.out hone.out ?_);refine bodyPost_ret (v:=zBP .u8 os) (results_cell_row rfl _ _ w.heap.size 43 _ (0,0) _ rfl (hkr.out.whole _) Tryz.underlying43 rfl (H2.out _ hsz.out)) rfl ⟨rfl,below_setRow HJ3.out.1 (Nat.le_refl _) _⟩
theorem zDc (kc:List Int) (hk:kc.length=64) (l:List Int) (hl:l.length=64) (hbl:Byt l) (Far:Nat→Prop) (sb:Nat) (most:Int) (ts:List Tr) (ht:(Tr.brick l)∈ts) (hG:Good ts) (hlen:ts.length≤4194304) (w:World) (hK:zAX w 1 kc) (hS:StoreIs w Far sb most ts) :
 Calls Tryz.prog 39 #[.pointer (some ⟨sb,0,none⟩),(idT ts (Tr.brick l):Int)] w (zA w (dig kc 2 [PalE.Pal.encB l])):=by
 have hC:=Bx.mk fun (W:World) (h:StoreIs W Far sb most ts)=>(zCZ W Far sb most ts (.brick l) ht hG (by omega) h).mono (R':=fun e w' => ∃ v,e = .returned v∧Own w' W.heap.size 3 .i64 v l∧Below W.heap.size W w') (fun _ _ h=>h)
 have hE:=Bx.mk fun (a:Option Addr) (cap:Nat) (W:World) (h:Sl W .i64 a l)=>PalE.pal_encode a cap l W (by omega) h
 have hP:Parts [PalE.Pal.encB l]:=zJa (zBy hl hbl) (by have:=zDt hl;omega)
 have hof:=Bx.mk fun (a:Option Addr) (cap:Nat) (W:World) (h:Slv W a (zy [PalE.Pal.encB l])) (hK:zAX W 1 kc)=>(show Calls Tryz.prog 87 #[(2:Int),.slice a 1 cap] W (fun e w'=>e = .returned (zBP .u8 (dig kc 2 [PalE.Pal.encB l]))∧Below W.heap.size W w') from zIg kc hk 2 a cap [PalE.Pal.encB l] hP W h hK);have hl16:=zDa kc 2 [PalE.Pal.encB l];have hK:=Bx.mk hK;clear hP;generalize dig kc 2 [PalE.Pal.encB l]=os at *;have hsz:Bx (((os).map (Value.int .u8)).toArray.size=16):=⟨by rw [List.size_toArray,List.length_map,hl16]⟩
 have hs2:Bx (((z16.map (Value.int .u8)).toArray).size=(os.map (Value.int .u8)).toArray.size):=⟨by rw [hsz.out];rfl⟩
 have hone:=Bx.mk (zl .u8 os);have H2:=Bx.mk (show ∀ cs:Array Value,cs.size=16→(Tryz.prog.info? 43).map (·.size)=some cs.size from fun cs h=>by rw [h];kernel_rfl)
 clear hl16;clear hl;have HS:=Bx.mk hS;have HS0:=HS;have Ht:=Bx.mk ht;clear hS;go_enter Tryz.func39,Tryz.ntmps39;go_upto_region 1 with fail;generalize hW0:World.alloc w _=W0
 have HJ0:Bx (Below w.heap.size w W0∧Bl W0 w.heap.size .u8 z16 43∧W0.heap.size=w.heap.size+1):=by
  rw [←hW0];exact ⟨⟨(Below.refl _ _).alloc (Nat.le_refl _) _,(zD _ _ _ rfl:Bk _ _ _ _),by simp⟩⟩
 clear hW0;obtain ⟨g,cap,mb,ks,hi,hc⟩:=Bx.node (HS.out.later HJ0.out.1) Ht.out (k:=2) (s:=(strOfNums l)) rfl;have b1:(0:Int)≤(idT ts (Tr.brick l):Int):=by omega
 have b2:(idT ts (Tr.brick l):Int)<(ts.length:Int):=by omega
 have cs1:=ks.cell 1 rfl;have d0:W0.cell? ⟨g,idT ts (Tr.brick l) * 12,none⟩=some (.int .i64 2):=hc.out 0 _ (by omega) rfl
 have d1:W0.cell? ⟨g,idT ts (Tr.brick l) * 12+1,none⟩=some (.int .i64 0):=hc.out 1 _ (by omega) rfl
 have d2:W0.cell? ⟨g,idT ts (Tr.brick l) * 12+2,none⟩=some (.string (strOfNums l)):=hc.out 2 _ (by omega) rfl
 have d3:W0.cell? ⟨g,idT ts (Tr.brick l) * 12+3,none⟩=some (.int .i64 2):=hc.out 3 _ (by omega) rfl
 have d4:W0.cell? ⟨g,idT ts (Tr.brick l) * 12+4,none⟩=some (_):=hc.out 4 _ (by omega) rfl
 have d5:W0.cell? ⟨g,idT ts (Tr.brick l) * 12+5,none⟩=some (_):=hc.out 5 _ (by omega) rfl
 have d6:W0.cell? ⟨g,idT ts (Tr.brick l) * 12+6,none⟩=some (_):=hc.out 6 _ (by omega) rfl
 have d7:W0.cell? ⟨g,idT ts (Tr.brick l) * 12+7,none⟩=some (_):=hc.out 7 _ (by omega) rfl
 have d8:W0.cell? ⟨g,idT ts (Tr.brick l) * 12+8,none⟩=some (_):=hc.out 8 _ (by omega) rfl
 have d9:W0.cell? ⟨g,idT ts (Tr.brick l) * 12+9,none⟩=some (_):=hc.out 9 _ (by omega) rfl
 have d10:W0.cell? ⟨g,idT ts (Tr.brick l) * 12+10,none⟩=some (_):=hc.out 10 _ (by omega) rfl
 have d11:W0.cell? ⟨g,idT ts (Tr.brick l) * 12+11,none⟩=some (_):=hc.out 11 _ (by omega) rfl
 clear ks hc hi;generalize idT ts (Tr.brick l)=i at *;generalize ts.length=n at *;go_upto_region 2 with fail;generalize hW:World.alloc W0 _=W
 have HJ:Bx (Below w.heap.size w W∧Bl W w.heap.size .u8 z16 43):=by
  rw [←hW];exact ⟨⟨HJ0.out.1.alloc HJ0.out.1.size _,HJ0.out.2.1.alloc _⟩⟩
 have hwn:W0.heap.size=w.heap.size+1:=HJ0.out.2.2;have kn:Bk W W0.heap.size #[(2:Int),(0:Int),.string (strOfNums l),(2:Int),(0:Int),(0:Int),(0:Int),(0:Int),(0:Int),(0:Int),(0:Int),(0:Int)] 111:=bk0 hW rfl;have HSW:=Bx.mk (HS.out.later HJ.out.1);clear hW HJ0 HS;clear hwn d0 d1 d2 d3 d4 d5 d6 d7 d8 d9 d10 d11 cs1;obtain ⟨cn0,cn1,cn2,cn3,cn4,cn5,cn6,cn7,cn8,cn9,cn10,cn11⟩:=kn.c12;clear Ht;go_wp2_with fail;clear cn0 cn1 cn2 cn3 cn4 cn5 cn6 cn7 cn8 cn9 cn10 cn11 kn;refine (hC.out W HSW.out).mono ?_;rintro _ w1 ⟨v1,rfl,how,hb1⟩;obtain ⟨a1,c1,rfl,hs1⟩:=how.form;have HJ1:Bx (Below w.heap.size w w1∧Bl w1 w.heap.size .u8 z16 43):=⟨HJ.out.1.trans (hb1.mono HJ.out.1.size),HJ.out.2.later hb1⟩;replace hE:=Bx.mk (hE.out a1 c1 w1 hs1);clear how hs1 HJ HSW hC hb1;generalize PalE.Pal.encB l=xs at *;go_wp2_with fail;refine hE.out.mono ?_;rintro _ w2 ⟨rfl,hb2⟩;have HJ2:Bx (Below w.heap.size w w2∧Bl w2 w.heap.size .u8 z16 43):=⟨HJ1.out.1.trans (hb2.mono HJ1.out.1.size),HJ1.out.2.later hb2⟩;clear hE HJ1 hb2;go_wp2_with fail;refine (hof.out _ 1 _ (zMK w2 xs _) (fun j v hv=>cell_later (HJ2.out.1.alloc HJ2.out.1.size _) (hK.out j v hv))).mono ?_;rintro _ w3 ⟨rfl,hb3⟩;have HJ3:Bx (Below w.heap.size w w3∧Bl w3 w.heap.size .u8 z16 43):=⟨(HJ2.out.1.alloc HJ2.out.1.size _).trans (hb3.mono (HJ2.out.1.alloc HJ2.out.1.size _).size),(HJ2.out.2.alloc _).later hb3⟩;clear hb3 HJ2 hof;unfold zBP;have hkr:=Bx.mk HJ3.out.2;go_wp2_with (refine zAJ rfl _ _ _ rfl w.heap.size rfl _ _ rfl _ hkr.out (H2.out _ hsz.out) hs2.out hone.out ?_);refine bodyPost_ret (v:=zBP .u8 os) (results_cell_row rfl _ _ w.heap.size 43 _ (0,0) _ rfl (hkr.out.whole _) Tryz.underlying43 rfl (H2.out _ hsz.out)) rfl ⟨rfl,below_setRow HJ3.out.1 (Nat.le_refl _) _⟩
theorem idx8 (p:Nat→Int) (k:Nat) (hk:k<8) (W:World):(Instr.index 54 (.agg #[.int .i64 (p 0),.int .i64 (p 1),.int .i64 (p 2),.int .i64 (p 3),.int .i64 (p 4),.int .i64 (p 5),.int .i64 (p 6),.int .i64 (p 7)]) (.int .i64 (k:Int))).run Tryz.prog W = .ok (.int .i64 (p k)) W:=by
 have hu:=Tryz.underlying54;have h1 : Tryz.prog.cellsOf 3=1:=by kernel_rfl
 have hc:(#[Value.int .i64 (p 0),.int .i64 (p 1),.int .i64 (p 2),.int .i64 (p 3),.int .i64 (p 4),.int .i64 (p 5),.int .i64 (p 6),.int .i64 (p 7)]:Array Value)[k]? = some (.int .i64 (p k)):=by
  have h0:k=0∨k=1∨k=2∨k=3∨k=4∨k=5∨k=6∨k=7:=by omega
  rcases h0 with rfl | rfl | rfl | rfl | rfl | rfl | rfl | rfl <;> rfl
 have h0:(0:Int)≤(k:Int)∧(k:Int)<8:=by omega
 generalize (#[Value.int .i64 (p 0),.int .i64 (p 1),.int .i64 (p 2),.int .i64 (p 3),.int .i64 (p 4),.int .i64 (p 5),.int .i64 (p 6),.int .i64 (p 7)]:Array Value)=cs at *;simp [Instr.index,run_underlying hu,asIntOf,h0,go_sem];rw [if_pos hk,hc];rfl
structure DgI (w:World) (kc:List Int) (d:Nat) (ch:Fin 8→Tr) (k:Nat) (v:Value) (wr:World):Prop where
 bel:Below w.heap.size w wr
 kr:Bl wr w.heap.size .u8 z16 43
 own:Ownv wr (w.heap.size+1) 9 v (zy (zm kc d ch k))
theorem zDd (kc:List Int) (hk:kc.length=64) (d:Nat) (hd:d≤255) (ch:Fin 8→Tr) (Far:Nat→Prop) (sb:Nat) (most:Int) (ts:List Tr) (ht:(Tr.node d ch)∈ts) (hIH : ∀ k (hk:k<8) W,zAX W 1 kc→StoreIs W Far sb most ts→Calls Tryz.prog 39 #[.pointer (some ⟨sb,0,none⟩),.int .i64 (zF4 ts ch k)] W (zA W (zDY kc (ch ⟨k,hk⟩)))) (hlen:ts.length≤4194304) (w:World) (hK:zAX w 1 kc) (hS:StoreIs w Far sb most ts) :
 Calls Tryz.prog 39 #[.pointer (some ⟨sb,0,none⟩),(idT ts (Tr.node d ch):Int)] w (zA w (dig kc 3 (zm kc d ch 8))):=by
 have hI:=Bx.mk (zFk d (by omega))
 have hIH:=Bx.mk fun k (hk:k<8) W (h1:zAX W 1 kc) (h2:StoreIs W Far sb most ts)=>(hIH k hk W h1 h2).mono (R':=fun e w'=>e = .returned (zBP .u8 (zDY kc (ch ⟨k,hk⟩)))∧Below W.heap.size W w') (fun _ _ h=>h);have hP:Parts (zm kc d ch 8):=zJY kc ch (by omega)
 have hlp:(zm kc d ch 8).length=9:=zJX kc d ch (Nat.le_refl _);have hof:=Bx.mk fun (a:Option Addr) (cap:Nat) (W:World) (h:Slv W a (zy (zm kc d ch 8))) (hK:zAX W 1 kc)=>(show Calls Tryz.prog 87 #[(3:Int),.slice a 9 cap] W (fun e w'=>e = .returned (zBP .u8 (dig kc 3 (zm kc d ch 8)))∧Below W.heap.size W w') from by have:=zIg kc hk 3 a cap (zm kc d ch 8) hP W h hK;rw [hlp] at this;exact this)
 have hl16:=zDa kc 3 (zm kc d ch 8);have hK:=Bx.mk hK;clear hP;clear hlp;generalize dig kc 3 (zm kc d ch 8)=os at *;have hsz:Bx (((os).map (Value.int .u8)).toArray.size=16):=⟨by rw [List.size_toArray,List.length_map,hl16]⟩
 have hs2:Bx (((z16.map (Value.int .u8)).toArray).size=(os.map (Value.int .u8)).toArray.size):=⟨by rw [hsz.out];rfl⟩
 have hone:=Bx.mk (zl .u8 os);have H2:=Bx.mk (show ∀ cs:Array Value,cs.size=16→(Tryz.prog.info? 43).map (·.size)=some cs.size from fun cs h=>by rw [h];kernel_rfl)
 clear hl16;have hps:=Bx.mk fun k (hk:k<8)=>zJZ kc d ch hk;have hpl:=Bx.mk fun k (hk:k≤8)=>zJX kc d ch hk;have hp0:Bx (zm kc d ch 0=[vi (2 * d)]):=⟨rfl⟩;have hX : ∀ k (hk:k<8),zF4 ts ch k=(idT ts (ch ⟨k,hk⟩):Int):=fun k hk=>by unfold zF4;rw [dif_pos hk]
 have hnv:zh ts (.node d ch)=zII 3 0 ByteArray.empty d (zF4 ts ch 0) (zF4 ts ch 1) (zF4 ts ch 2) (zF4 ts ch 3) (zF4 ts ch 4) (zF4 ts ch 5) (zF4 ts ch 6) (zF4 ts ch 7):=rfl;clear hX;generalize hkp:zF4 ts ch=p at *;clear hkp;have hix:=Bx.mk (idx8 p);have HS:=Bx.mk hS;have HS0:=HS;have Ht:=Bx.mk ht;clear hS;go_enter Tryz.func39,Tryz.ntmps39;go_upto_region 1 with fail;generalize hW0:World.alloc w _=W0
 have HJ0:Bx (Below w.heap.size w W0∧Bl W0 w.heap.size .u8 z16 43∧W0.heap.size=w.heap.size+1):=by
  rw [←hW0];exact ⟨⟨(Below.refl _ _).alloc (Nat.le_refl _) _,(zD _ _ _ rfl:Bk _ _ _ _),by simp⟩⟩
 clear hW0;obtain ⟨g,cap,mb,ks,hi,hc⟩:=Bx.node (HS.out.later HJ0.out.1) Ht.out (k:=3) hnv;have b1:(0:Int)≤(idT ts (Tr.node d ch):Int):=by omega
 have b2:(idT ts (Tr.node d ch):Int)<(ts.length:Int):=by omega
 have cs1:=ks.cell 1 rfl;have d0:W0.cell? ⟨g,idT ts (Tr.node d ch) * 12,none⟩=some (.int .i64 3):=hc.out 0 _ (by omega) rfl
 have d1:W0.cell? ⟨g,idT ts (Tr.node d ch) * 12+1,none⟩=some (.int .i64 0):=hc.out 1 _ (by omega) rfl
 have d2:W0.cell? ⟨g,idT ts (Tr.node d ch) * 12+2,none⟩=some (.string ByteArray.empty):=hc.out 2 _ (by omega) rfl
 have d3:W0.cell? ⟨g,idT ts (Tr.node d ch) * 12+3,none⟩=some (.int .i64 (d:Int)):=hc.out 3 _ (by omega) rfl
 have d4:W0.cell? ⟨g,idT ts (Tr.node d ch) * 12+4,none⟩=some (_):=hc.out 4 _ (by omega) rfl
 have d5:W0.cell? ⟨g,idT ts (Tr.node d ch) * 12+5,none⟩=some (_):=hc.out 5 _ (by omega) rfl
 have d6:W0.cell? ⟨g,idT ts (Tr.node d ch) * 12+6,none⟩=some (_):=hc.out 6 _ (by omega) rfl
 have d7:W0.cell? ⟨g,idT ts (Tr.node d ch) * 12+7,none⟩=some (_):=hc.out 7 _ (by omega) rfl
 have d8:W0.cell? ⟨g,idT ts (Tr.node d ch) * 12+8,none⟩=some (_):=hc.out 8 _ (by omega) rfl
 have d9:W0.cell? ⟨g,idT ts (Tr.node d ch) * 12+9,none⟩=some (_):=hc.out 9 _ (by omega) rfl
 have d10:W0.cell? ⟨g,idT ts (Tr.node d ch) * 12+10,none⟩=some (_):=hc.out 10 _ (by omega) rfl
 have d11:W0.cell? ⟨g,idT ts (Tr.node d ch) * 12+11,none⟩=some (_):=hc.out 11 _ (by omega) rfl
 clear ks hc hi;generalize idT ts (Tr.node d ch)=i at *;generalize ts.length=n at *;go_upto_region 2 with fail;generalize hW:World.alloc W0 _=W
 have HJ:Bx (Below w.heap.size w W∧Bl W w.heap.size .u8 z16 43):=by
  rw [←hW];exact ⟨⟨HJ0.out.1.alloc HJ0.out.1.size _,HJ0.out.2.1.alloc _⟩⟩
 have hwn:W0.heap.size=w.heap.size+1:=HJ0.out.2.2;have kn:Bk W W0.heap.size #[(3:Int),(0:Int),.string ByteArray.empty,(d:Int),.int .i64 (p 0),.int .i64 (p 1),.int .i64 (p 2),.int .i64 (p 3),.int .i64 (p 4),.int .i64 (p 5),.int .i64 (p 6),.int .i64 (p 7)] 111:=bk0 hW rfl;have HSW:=Bx.mk (HS.out.later HJ.out.1);clear hW HJ0 HS;clear hwn d0 d1 d2 d3 d4 d5 d6 d7 d8 d9 d10 d11 cs1;obtain ⟨cn0,cn1,cn2,cn3,cn4,cn5,cn6,cn7,cn8,cn9,cn10,cn11⟩:=kn.c12;clear Ht hnv;go_wp2_with fail;clear cn0 cn1 cn2 cn3 cn4 cn5 cn6 cn7 cn8 cn9 cn10 cn11;refine (hI.out W).mono ?_;rintro _ w1 ⟨v1,rfl,hp1⟩;obtain ⟨a1,c1,rfl,hs1⟩:=hp1.own.form;have hcv:=zK (P:=Tryz.prog) 84 5 9 Tryz.underlying84 Tryz.underlying5 Tryz.underlying9 hs1 _ c1 rfl;have HJ1:Bx (Below w.heap.size w w1∧Bl w1 w.heap.size .u8 z16 43):=⟨HJ.out.1.trans (hp1.bel.mono HJ.out.1.size),HJ.out.2.later hp1.bel⟩;have kn1:=Bx.mk (kn.later hp1.bel);have hsw:Bx (w.heap.size<w1.heap.size):=⟨HJ1.out.2.lt⟩;clear hp1 hs1 HJ hI kn;generalize vi (2 * d)=xs at *;go_upto_region 4 with fail;generalize hW4:World.alloc w1 _=W4
 have HI:Bx (DgI w kc d ch 0 (.slice (some ⟨w1.heap.size,0,none⟩) 1 1) W4):=by
  have hl:=Ownv.lit1 w1 (w.heap.size+1) 9 (.string (strOfNums xs)) (by have:=hsw.out;omega)
  rw [←hW4];refine ⟨⟨HJ1.out.1.alloc HJ1.out.1.size _,HJ1.out.2.alloc _,?_⟩⟩;rw [hp0.out];exact hl
 have kn4:Bk W4 W0.heap.size #[(3:Int),(0:Int),.string ByteArray.empty,(d:Int),.int .i64 (p 0),.int .i64 (p 1),.int .i64 (p 2),.int .i64 (p 3),.int .i64 (p 4),.int .i64 (p 5),.int .i64 (p 6),.int .i64 (p 7)] 111:=by rw [←hW4];exact kn1.out.alloc _
 clear hW4 HJ1 kn1 hcv hp0 hsw;have cn4:=kn4.cell 4 rfl;have cn5:=kn4.cell 5 rfl;have cn6:=kn4.cell 6 rfl;have cn7:=kn4.cell 7 rfl;have cn8:=kn4.cell 8 rfl;have cn9:=kn4.cell 9 rfl;have cn10:=kn4.cell 10 rfl;have cn11:=kn4.cell 11 rfl;clear kn4;go_wp2_with fail;clear cn4 cn5 cn6 cn7 cn8 cn9 cn10 cn11
 go_loopw [8,28] (fun v8 v28 wr => ∃ k:Nat,k≤8∧v28 = .int .i64 k∧Bx (DgI w kc d ch k v8 wr)) (fun _ v28 _=>8 - (intOf v28).toNat)
 case atStart=>exact ⟨0,Nat.zero_le _,rfl,HI⟩
 case round =>
  clear HI;obtain ⟨k,hk8,rfl,HI⟩:=hrel;by_cases hlt:k<8
  · have t0:decide ((k:Int)<8)=true:=by simp;omega
    have q0:(0:Int)≤(k:Int):=by omega
    have q1:(k:Int)<8:=by omega
    have hIk:=Bx.mk (hIH.out k hlt wr (fun j v hv=>cell_later HI.out.bel (hK.out j v hv)) (HS0.out.later HI.out.bel));have hsn:=Bx.mk (hps.out k hlt);have hlk:Bx ((zy (zm kc d ch k)).length≤1000000000):=⟨by rw [zz,hpl.out k (by omega)];omega⟩
    have hl16:=zDZ kc (ch ⟨k,hlt⟩);have hxk:=hix.out k hlt;generalize zDY kc (ch ⟨k,hlt⟩)=xs at *;have hsz9:Bx (((xs).map (Value.int .u8)).toArray.size=16):=⟨by rw [List.size_toArray,List.length_map,hl16]⟩
    have hzz:Bx (16=(xs.map (Value.int .u8)).toArray.size):=⟨by rw [hsz9.out]⟩
    have hone9:=Bx.mk (zl .u8 xs);go_wp2_with fail;refine hIk.out.mono ?_;rintro _ w5 ⟨rfl,hb5⟩;have HI5:Bx (DgI w kc d ch k u8 w5):=⟨HI.out.bel.trans (hb5.mono HI.out.bel.size),HI.out.kr.later hb5,HI.out.own.below hb5⟩;clear hIk hb5 HI;unfold zBP
    go_upto_region 8 with (first
     | refine zAJ rfl _ _ _ rfl w5.heap.size rfl _ _ rfl _ (heap_alloc_new _ _) (H2.out _ hsz9.out) hzz.out hone9.out ?_
     | fail)
    generalize hW6:World.setRow (World.alloc w5 _) _ _=W6;have hw5:w.heap.size<w5.heap.size:=HI5.out.kr.lt
    have HI6:Bx (DgI w kc d ch k u8 W6∧Bl W6 w5.heap.size .u8 xs 43):=by
     have hb6:Below w5.heap.size w5 W6:=by rw [←hW6];exact below_setRow ((Below.refl _ _).alloc (Nat.le_refl _) _) (Nat.le_refl _) _
     refine ⟨⟨HI5.out.bel.trans (hb6.mono HI5.out.bel.size),HI5.out.kr.later hb6,HI5.out.own.below hb6⟩,?_⟩;rw [←hW6];exact setRow_heap _ _ _ _ _ (0,0) (heap_alloc_new _ _)
    clear hW6 HI5;have hsl:Sl W6 .u8 (some ⟨w5.heap.size,0,none⟩) xs:=fun j x hx=>⟨_,0,rfl,by rw [Nat.zero_add];exact HI6.out.2.cell hx⟩
    have hcv:=zK (P:=Tryz.prog) 84 5 9 Tryz.underlying84 Tryz.underlying5 Tryz.underlying9 hsl 16 16 hl16.symm;have hle:Bx (w.heap.size+1≤W6.heap.size):=⟨by have:=HI6.out.2.lt;omega⟩
    clear hsl hl16 hw5
    go_wp2_with (first
     | (at_builtin
        refine zAH rfl _ _ 37 rfl 9 (.string ByteArray.empty) 16 (by omega) Tryz.underlying37 (by kernel_rfl) rfl (w.heap.size+1) _ (zy (zm kc d ch k)) rfl (HI6.out.1.own.alloc _) (.string (strOfNums xs)) rfl ⟨W6.heap.size,0,none⟩ 1 rfl (zH _ _ _) hlk.out (ze hle.out _) ?_
        intro v1 w7 hown1 hg1 _))
    have HI7:Bx (DgI w kc d ch (k+1) v1 w7):=by
     have hown2:=hown1;rw [show (zy (zm kc d ch k)++[.string (strOfNums xs)])=zy (zm kc d ch (k+1)) by rw [hsn.out,zMz]] at hown2
     have hb7:Below (w.heap.size+1) (W6.alloc (.cells #[.string (strOfNums xs)] 9)) w7:=(Below.refl _ _).grown hg1 (ze hle.out _) (fun g hg=>(HI6.out.1.own.lt g hg).1);have hb8:Below (w.heap.size+1) W6 w7:=((Below.refl _ _).alloc hle.out _).trans hb7;exact ⟨HI6.out.1.bel.trans (hb8.mono (Nat.le_succ _)),(hb8.block _ (Nat.lt_succ_self _)).trans HI6.out.1.kr,hown2⟩
    clear hown1 hg1 HI6 hcv;go_wp2_with fail
    go_roundw
    case rel=>exact ⟨k+1,by omega,by go_num,HI7⟩
    case measure=>simp [intOf];omega
  · have t0:decide ((k:Int)<8)=false:=by simp;omega
    obtain rfl:k=8:=by omega
    have hl9:=hpl.out 8 (Nat.le_refl _);obtain ⟨a8,c8,rfl,hs8⟩:=HI.out.own.form;have hl9':(zy (zm kc d ch 8)).length=9:=by rw [zz];exact hl9
    rw [hl9'] at *;have hof8:=Bx.mk (hof.out a8 c8 wr hs8 (fun j v hv=>cell_later HI.out.bel (hK.out j v hv)));clear hl9 hl9' hs8 hof;go_wp2_with fail;refine hof8.out.mono ?_;rintro _ w3 ⟨rfl,hb3⟩;have HJ3:Bx (Below w.heap.size w w3∧Bl w3 w.heap.size .u8 z16 43):=⟨HI.out.bel.trans (hb3.mono HI.out.bel.size),HI.out.kr.later hb3⟩;clear hb3 HI hof8;unfold zBP;have hkr:=Bx.mk HJ3.out.2;go_wp2_with (refine zAJ rfl _ _ _ rfl w.heap.size rfl _ _ rfl _ hkr.out (H2.out _ hsz.out) hs2.out hone.out ?_);refine bodyPost_ret (v:=zBP .u8 os) (results_cell_row rfl _ _ w.heap.size 43 _ (0,0) _ rfl (hkr.out.whole _) Tryz.underlying43 rfl (H2.out _ hsz.out)) rfl ⟨rfl,below_setRow HJ3.out.1 (Nat.le_refl _) _⟩
end Go.Proofs.YtgnfgblkpnfcnaaGreatDoor
end
