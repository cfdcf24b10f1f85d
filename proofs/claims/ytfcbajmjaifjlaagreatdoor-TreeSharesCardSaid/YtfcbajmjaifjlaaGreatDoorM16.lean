/- Enc, Ini, Edw, Edb, Edc: joined by program, for one claim. -/
import Derived.Test.YtfcbajmjaifjlaaGreatDoorM15
set_option maxHeartbeats 2000000
set_option maxRecDepth 100000
set_option linter.unusedVariables false
set_option linter.unusedSimpArgs false
namespace Go.Proofs.YtfcbajmjaifjlaaGreatDoor
section
open Go.RowKit Go.Sort Go.Maps
open Oct
theorem zCw (c:Int) (hc:0≤c∧c≤255) (w:World) :
 Calls Tryz.prog 128 #[c] w fun e w'=>e = .returned (.string (strOfNums (Tr.enc (.uni c))))∧Below w.heap.size w w':=by
 have hw:IntKind.u8.wrap c=c:=by unfold IntKind.wrap;simp [IntKind.bits,IntKind.signed];omega
 have hsl:Sl (w.alloc (.cells #[.int .u8 c] 5)) .u8 (some ⟨w.heap.size,0,none⟩) [c]:=fun i x hx=>by
  match i with
  | 0=>simp at hx;subst hx;exact ⟨_,_,rfl,zn _ _ _⟩
  | i+1=>simp at hx
 have hcv:=zAJ (P:=Tryz.prog) 107 5 9 Tryz.underlying107 Tryz.underlying5 Tryz.underlying9 hsl 1 1 rfl;have hst:=Bx.mk (show (strOfNums [117])++strOfNums [c]=strOfNums (Tr.enc (.uni c)) from zBf [117] [c]);clear hsl;go_enter Tryz.func128,Tryz.ntmps128;go_wp2_with fail;go_ret;exact ⟨by first | (rw [←hst.out];rfl) | trace_state,(Below.refl _ _).alloc (Nat.le_refl _) _⟩
def zFN (xs:List Int) (k:Nat):Bool:=(xs.take k).all fun x=>x == xs.headD 0
theorem zHu {xs:List Int} {k:Nat} {x:Int} (h:xs[k]? = some x):zFN xs (k+1)=(zFN xs k && (x == xs.headD 0)):=by
 unfold zFN;rw [zAC h,List.all_append];simp
theorem zFM {xs:List Int} {n:Nat} (hn:xs.length=n):zFN xs n=true ↔ ∀ x∈xs,x=xs.headD 0:=by
 unfold zFN;rw [List.take_of_length_le (by omega),List.all_eq_true]
 simp
theorem zH1 (a:Option Addr) (cap:Nat) (xs:List Int) (w:World) (hn:xs.length=64) (hb:xs.all Pal.cell=true) (h:Sl w .i64 a xs) :
 Calls Tryz.prog 130 #[.slice a 64 cap] w fun e w'=>e = .returned (.string (strOfNums (Tr.enc (Tr.mkBrick xs))))∧Below w.heap.size w w':=by
 have hcells:=zE6 hb;obtain ⟨x0,hx0⟩ : ∃ x,xs[0]? = some x:=⟨_,List.getElem?_eq_getElem (by omega)⟩
 obtain ⟨b,off,rfl,hc0⟩:=h 0 x0 hx0
 have hd:xs.headD 0=x0:=by cases xs with
  | nil=>simp at hx0
  | cons y r=>simpa using hx0
 rw [Nat.add_zero] at hc0;have Hs:=Bx.mk h;have Hn:=Bx.mk hn;have Hc:=Bx.mk hcells;have Hd:=Bx.mk hd;have Hx0:=Bx.mk hx0;have Hc0:=Bx.mk hc0;have hu:=Bx.mk fun W=>zCw x0 (hcells x0 (List.mem_of_getElem? hx0)) W;clear h hn hb hcells hd hx0 hc0;go_enter Tryz.func130,Tryz.ntmps130;go_wp2_with fail
 go_loopw [3,4,5] (fun v s i wr => ∃ k:Nat,k≤64∧i = .int .i64 k∧s = .bool (zFN xs k)∧Bx (Own wr w.heap.size 5 .u8 v (xs.take k))∧Bx (Below w.heap.size w wr)) (fun _ _ i _=>64 - (intOf i).toNat)
 case atStart=>exact ⟨0,Nat.zero_le _,rfl,rfl,⟨Own.nil _ _ _ _⟩,⟨Below.refl _ _⟩⟩
 case round =>
  obtain ⟨k,hk,rfl,rfl,hown,hbw⟩:=hrel;have hc0:=(Hs.out.below hbw.out) 0 x0 Hx0.out;obtain ⟨b0,off0,hbo0,hc0⟩:=hc0;simp only [Option.some.injEq,Addr.mk.injEq,and_true] at hbo0;obtain ⟨rfl,rfl⟩:=hbo0;rw [Nat.add_zero] at hc0;by_cases hlt:k<64
  · obtain ⟨x,hx⟩:=zA6 Hn hlt;obtain ⟨b',off',hbo,hc⟩:=(Hs.out.below hbw.out) k x hx;simp only [Option.some.injEq,Addr.mk.injEq,and_true] at hbo;obtain ⟨rfl,rfl⟩:=hbo;have hr:=Hc.out x (List.mem_of_getElem? hx);have hnext:=Bx.mk (zAC hx);have hsn:=Bx.mk (zHu hx);have b3:(0:Int)≤(k:Int):=by omega
    have b4:(k:Int)<64:=by omega
    have hwrap:IntKind.u8.wrap x=x:=by unfold IntKind.wrap;simp [IntKind.bits,IntKind.signed];omega
    have hle:=hbw.out.size;have Htl:=Bx.mk (show (xs.take k).length≤1000000000 by rw [List.length_take];omega)
    have Hcw:=Bx.mk hc;have Hcw0:=Bx.mk hc0;have HX:=Bx.mk hx;clear hx
    go_wp2_with (first
     | (at_builtin
        refine zO rfl _ _ 107 rfl 5 .u8 (.int .u8 0) 1 (by omega) Tryz.underlying107 (by kernel_rfl) rfl w.heap.size _ (xs.take k) rfl (hown.out.alloc _) x ⟨wr.heap.size,0,none⟩ 1 rfl (zn _ _ _) Htl.out (zb hle _) ?_
        intro v1 w1 hown1 hg1 _))
    have hown2:=Bx.mk hown1;rw [←hnext.out] at hown2;have hbw2:=Bx.mk ((hbw.out.alloc hle (.cells #[.int .u8 x] 5)).grown hg1 (zb hle _) (fun g hg=>(hown.out.lt g hg).1));have hc1:=(Hs.out.below hbw2.out) k x HX.out;have hc2:=(Hs.out.below hbw2.out) 0 x0 Hx0.out;obtain ⟨b3',off3,hbo3,hc1⟩:=hc1;simp only [Option.some.injEq,Addr.mk.injEq,and_true] at hbo3;obtain ⟨rfl,rfl⟩:=hbo3;obtain ⟨b4',off4,hbo4,hc2⟩:=hc2;simp only [Option.some.injEq,Addr.mk.injEq,and_true] at hbo4;obtain ⟨rfl,rfl⟩:=hbo4;rw [Nat.add_zero] at hc2;have Hc1:=Bx.mk hc1;have Hc2:=Bx.mk hc2;clear hown1 hg1 hc hc0 hc1 hc2 hown hbw hle Hcw Hcw0;cases hq:zFN xs k with
    | false =>
      refine wp_region_quiet_below (by kernel_rfl) (by kernel_rfl) ?_
      repeat (first | go_big_quiet_step ((fail)) | quiet_step (fail))
      refine wpQuiet_nil ?_;rintro _ ⟨⟨dq,osq⟩,rfl⟩;have hb0:=below_regrown w1 dq osq;replace hown2:=Bx.mk (hown2.out.below hb0);replace hbw2:=Bx.mk (hbw2.out.trans (hb0.mono hbw2.out.size));generalize grow (redrawn w1 dq) osq=w7 at *;go_wp2_with fail
      go_roundw
      case rel=>exact ⟨k+1,by omega,by go_num,by rw [hsn.out,hq];rfl,hown2,hbw2⟩
      case measure=>simp [intOf];omega
    | true =>
      have qc1 : ∀ dk osk,(grow (redrawn w1 dk) osk).cell? ⟨b,off+k,none⟩=some (.int .i64 x):=cell_regrown Hc1.out;have qc2 : ∀ dk osk,(grow (redrawn w1 dk) osk).cell? ⟨b,off,none⟩=some (.int .i64 x0):=cell_regrown Hc2.out;refine wp_region_quiet_below (by kernel_rfl) (by kernel_rfl) ?_
      repeat (first | go_big_quiet_step ((fail)) | quiet_step (fail))
      refine wpQuiet_nil ?_;rintro _ ⟨⟨dq,osq⟩,rfl⟩;have hb0:=below_regrown w1 dq osq;replace hown2:=Bx.mk (hown2.out.below hb0);replace hbw2:=Bx.mk (hbw2.out.trans (hb0.mono hbw2.out.size));generalize grow (redrawn w1 dq) osq=w7 at *;go_wp2_with fail
      go_roundw
      case rel=>exact ⟨k+1,by omega,by go_num,by rw [hsn.out,hq,Hd.out];rfl,hown2,hbw2⟩
      case measure=>simp [intOf];omega
  · obtain rfl:k=64:=by omega
    have hfull:=Bx.mk (show xs.take 64=xs from List.take_of_length_le (by rw [Hn.out];omega))
    cases hq:zFN xs 64 with
    | true =>
      have hm:Tr.mkBrick xs = .uni x0:=by unfold Tr.mkBrick;rw [if_pos ((zFM Hn.out).1 hq),Hd.out]
      have Hm:=Bx.mk hm;clear hm hq;go_wp2_with fail;refine (hu.out _).mono ?_;rintro _ w2 ⟨rfl,hb2⟩;go_wp2_with fail;go_ret;exact ⟨by rw [Hm.out];rfl,hbw.out.trans (hb2.mono hbw.out.size)⟩
    | false =>
      have hm:Tr.mkBrick xs = .brick xs:=by unfold Tr.mkBrick;rw [if_neg (fun e=>by rw [(zFM Hn.out).2 e] at hq;cases hq)]
      have Hm:=Bx.mk hm;have hown2:=hown.out;rw [hfull.out] at hown2;obtain ⟨pa,pc,rfl,hsl⟩:=hown2.form;have hcv:=zAJ (P:=Tryz.prog) 107 5 9 Tryz.underlying107 Tryz.underlying5 Tryz.underlying9 hsl xs.length pc rfl;have hsz:(strOfNums xs).size=64:=by rw [strOfNums_size,Hn.out]
      have hst:=Bx.mk (show (strOfNums [98])++strOfNums xs=strOfNums (Tr.enc (.brick xs)) from zBf [98] xs);clear hm hq hsl hown2 hown;go_wp2_with fail;go_ret;exact ⟨by rw [Hm.out,←hst.out];rfl,hbw.out⟩
theorem zNu (x:Nat→Int) (k:Nat) (hk:k<8) (W:World):(Instr.index 98 (.agg #[.int .i64 (x 0),.int .i64 (x 1),.int .i64 (x 2),.int .i64 (x 3),.int .i64 (x 4),.int .i64 (x 5),.int .i64 (x 6),.int .i64 (x 7)]) (.int .i64 (k:Int))).run Tryz.prog W = .ok (.int .i64 (x k)) W:=by
 have hu:=Tryz.underlying98;have h0:k=0∨k=1∨k=2∨k=3∨k=4∨k=5∨k=6∨k=7:=by omega
 have h1 : Tryz.prog.cellsOf 3=1:=by kernel_rfl
 rcases h0 with rfl | rfl | rfl | rfl | rfl | rfl | rfl | rfl
 all_goals
  simp [Instr.index,run_underlying hu,asIntOf,go_sem]
def depT:Tr→Int
 | .uni _=>0
 | .brick _=>2
 | .node d _=>d
def zH6 (t:Tr) (d:Int):Prop:=(∃ c,t = .uni c)∨depT t=d - 1
theorem zMY (w:World) (Far:Nat→Prop) (sb:Nat) (most:Int) (ts:List Tr) (d:Int) (hd:3≤d∧d≤14) (x:Nat→Int) (HK:Bx (∀ k,k<8 → ∃ t,t∈ts∧x k=idT ts t∧zH6 t d)) (_hlen:ts.length≤1000000000000) (hS:StoreIs w Far sb most ts) (R:Ending→World→Prop) (hR : ∀ e w',R e w' → ∃ i er,e=zAv i er)
 (hin:Bx (∀ W,Below w.heap.size w W→Calls Tryz.prog 51 #[.pointer (some ⟨sb,0,none⟩),d,.agg #[.int .i64 (x 0),.int .i64 (x 1),.int .i64 (x 2),.int .i64 (x 3),.int .i64 (x 4),.int .i64 (x 5),.int .i64 (x 6),.int .i64 (x 7)]] W R)) :
 Calls Tryz.prog 95 #[.pointer (some ⟨sb,0,none⟩),d,.agg #[.int .i64 (x 0),.int .i64 (x 1),.int .i64 (x 2),.int .i64 (x 3),.int .i64 (x 4),.int .i64 (x 5),.int .i64 (x 6),.int .i64 (x 7)]] w R:=by
 have t1:decide (d≤2)=false:=by simp;omega
 have t2:decide (14<d)=false:=by simp;omega
 have hsub:IntKind.i64.wrap (d - 1)=d - 1:=IntWalk.i64_in _ (by omega)
 go_enter Tryz.func95,Tryz.ntmps95;go_wp2_with fail;generalize hW:World.alloc w _=W;have hSz:=sz1 hW;have hB:=bl1 hW;have ka:Bk W (w.heap.size) #[.int .i64 (x 0),.int .i64 (x 1),.int .i64 (x 2),.int .i64 (x 3),.int .i64 (x 4),.int .i64 (x 5),.int .i64 (x 6),.int .i64 (x 7)] 98:=bk0 hW;clear hW;have HS:Bx (StoreIs W Far sb most ts):=⟨hS.later hB⟩;obtain ⟨ca0,ca1,ca2,ca3,ca4,ca5,ca6,ca7⟩:=ka.c8;go_wp2_with fail;clear ca0 ca1 ca2 ca3 ca4 ca5 ca6 ca7
 go_loopw [17] (fun v wr => ∃ k:Nat,k≤8∧v = .int .i64 k∧wr=W) (fun i _=>8 - (intOf i).toNat)
 case atStart=>exact ⟨0,Nat.zero_le _,rfl,rfl⟩
 case round =>
  obtain ⟨k,hk,rfl,rfl⟩:=hrel;by_cases hlt:k<8
  · have t3:decide ((k:Int)<8)=true:=by simp;omega
    have hidx:=fun V=>zNu x k (by omega) V
    obtain ⟨t,hm,hx,hok⟩:=HK.out k hlt;cases t with
    | uni c =>
      clear hok;obtain ⟨g,cap,mb,ks,hi,hc⟩:=Bx.node HS.out hm (k:=1) (c:=c) rfl;have cs1:=ks.cell 1 rfl;have d0:=hc.out 0 _ (by omega) rfl
      have d3:=hc.out 3 _ (by omega) rfl
      rw [Nat.add_zero] at d0;have b1:(0:Int)≤(idT ts (.uni c):Int):=by omega
      have b2:(idT ts (.uni c):Int)<(ts.length:Int):=by omega
      have b3:decide ((idT ts (.uni c):Int)<0)=false:=by simp
      have b4:decide ((ts.length:Int)≤(idT ts (.uni c):Int))=false:=by simp;omega
      rw [hx] at hidx;clear ks hc hm hx;go_wp2_with fail
      go_roundw
      case rel=>exact ⟨k+1,by omega,by go_num,trivial⟩
      case measure=>simp [intOf];omega
    | brick l =>
      have e1:(2:Int)=d - 1:=hok.elim (fun ⟨c,h⟩=>by cases h) (fun h=>h)
      have e2:((2:Int) != d - 1)=false:=by simp;omega
      clear hok;obtain ⟨g,cap,mb,ks,hi,hc⟩:=Bx.node HS.out hm (k:=2) (s:=strOfNums l) rfl;have cs1:=ks.cell 1 rfl;have d0:=hc.out 0 _ (by omega) rfl
      have d3:=hc.out 3 _ (by omega) rfl
      rw [Nat.add_zero] at d0;have b1:(0:Int)≤(idT ts (.brick l):Int):=by omega
      have b2:(idT ts (.brick l):Int)<(ts.length:Int):=by omega
      have b3:decide ((idT ts (.brick l):Int)<0)=false:=by simp
      have b4:decide ((ts.length:Int)≤(idT ts (.brick l):Int))=false:=by simp;omega
      rw [hx] at hidx;clear ks hc hm hx;go_wp2_with fail
      go_roundw
      case rel=>exact ⟨k+1,by omega,by go_num,trivial⟩
      case measure=>simp [intOf];omega
    | node dk ch =>
      have e1:(dk:Int)=d - 1:=hok.elim (fun ⟨c,h⟩=>by cases h) (fun h=>h)
      have e2:((dk:Int) != d - 1)=false:=by simp;omega
      clear hok;obtain ⟨g,cap,mb,ks,hi,hc⟩:=Bx.node HS.out hm (k:=3) (s:=ByteArray.empty) rfl;have cs1:=ks.cell 1 rfl;have d0:=hc.out 0 _ (by omega) rfl
      have d3:=hc.out 3 _ (by omega) rfl
      rw [Nat.add_zero] at d0;have b1:(0:Int)≤(idT ts (.node dk ch):Int):=by omega
      have b2:(idT ts (.node dk ch):Int)<(ts.length:Int):=by omega
      have b3:decide ((idT ts (.node dk ch):Int)<0)=false:=by simp
      have b4:decide ((ts.length:Int)≤(idT ts (.node dk ch):Int))=false:=by simp;omega
      rw [hx] at hidx;clear ks hc hm hx;go_wp2_with fail
      go_roundw
      case rel=>exact ⟨k+1,by omega,by go_num,trivial⟩
      case measure=>simp [intOf];omega
  · obtain rfl:k=8:=by omega
    have t3:decide (((8:Nat):Int)<8)=false:=by decide
    obtain ⟨ca0,ca1,ca2,ca3,ca4,ca5,ca6,ca7⟩:=ka.c8;go_wp2_with fail;refine (hin.out _ hB).mono ?_;intro e7 w7 hr;have Hr:=Bx.mk hr;obtain ⟨i7,er7,rfl⟩:=hR _ _ hr;clear hr;go_wp2_with fail;exact Hr.out
end
section
open Go.RowKit Go.Sort Go.Maps
open Oct
attribute [local go_sem ↓] Go.wp_at_zero Go.wp_at_succ
theorem zIR (w:World) (Far:Nat→Prop) (sb:Nat) (most:Int) (ts:List Tr) (n:Nat) (hn:n≤11) (ch:Nat→Tr) (hch : ∀ i:Fin 8,ch i.val∈ts) (hok : ∀ i:Nat,zH6 (ch i) ((n:Int)+3)) (hG:Good ts) (hlen:ts.length≤4000000) (hFar : ∀ k,Far k→k<w.heap.size) (hS:StoreIs w Far sb most ts) :
 Calls Tryz.prog 95 #[.pointer (some ⟨sb,0,none⟩),.int .i64 ((n:Int)+3),.agg #[(idT ts (ch 0):Int),(idT ts (ch 1):Int),(idT ts (ch 2):Int),(idT ts (ch 3):Int),(idT ts (ch 4):Int),(idT ts (ch 5):Int),(idT ts (ch 6):Int),(idT ts (ch 7):Int)]] w (Grew Far sb most ts (Tr.add (Tr.mkInner (n+3) (fun i=>ch i.val)) ts) (Tr.mkInner (n+3) (fun i=>ch i.val)) w):=by
 refine zMY w Far sb most ts ((n:Int)+3) (by omega) (fun k=>(idT ts (ch k):Int)) ⟨fun k hk=>⟨ch k,hch ⟨k,hk⟩,rfl,hok k⟩⟩ (by omega) hS _ (fun e w' h=>by obtain ⟨i,er,h,-⟩:=h.ends;exact ⟨i,er,h⟩) ⟨fun W hb=>?_⟩
 have h:=zCG W Far sb most ts (n+3) (by omega) (fun i:Fin 8=>ch i.val) hch hG (by omega) (fun k hk=>Nat.lt_of_lt_of_le (hFar k hk) hb.size) (hS.later hb)
 rw [show ((n+3:Nat):Int)=(n:Int)+3 by omega] at h
 exact h.mono fun e w' hg=>⟨(Keeps.below hb).trans hg.keeps,Nat.le_trans hb.size hg.size,hg.way⟩
theorem zKB (w:World) (Far:Nat→Prop) (pe ps pb sb:Nat) (nfid:FuncId) (ncaps:Array Value) (bf:Value) (P:World→Prop) (HC:Bx (ECtx w Far pe ps pb sb (.func (.func nfid) #[] ncaps) bf P)) (HP:Bx (zDv Far P)) (n:Nat) (hn:n≤11) (ax ay az h2:Int) (hh:h2=2 ^ (n+2)) (hx:0≤ax∧ax≤16384) (hy:0≤ay∧ay≤16384) (hz:0≤az∧az≤16384) (most:Int) (ts:List Tr) (t0:Tr) (ch:Nat→Tr) (hW : ∀ i,Tr.WF (ch i)) (HK8:Bx (∀ i:Nat,zH6 (ch i) ((n:Int)+3))) (ht:t0∈ts) (U:Prop)
 (HE:Bx (∀ (args:Array Value) (W:World),(callFunc nfid args).run Tryz.prog W = .ok (.enter nfid args) W))
 (HN:Bx (∀ W,Below w.heap.size w W→Calls Tryz.prog nfid (#[zH ax ay az ((n:Int)+3),(idT ts t0:Int)]++ncaps) W (NodeSays Far sb most ts (Tr.mkInner (n+3) (fun i=>ch i.val)) U W)))
 (IH:Bx (∀ (W:World) (Far':Nat→Prop) (us:List Tr) (i:Nat),i<8→U→ECtx W Far' pe ps pb sb (.func (.func nfid) #[] ncaps) bf P→(∀ k,Far k→Far' k)→Good us→ts <+: us→(Tr.add (ch i) us).length≤4000000→(∀ k,Far' k→k<W.heap.size)→StoreIs W Far' sb most us→Calls Tryz.prog 93 #[zH (ax+chX i h2) (ay+chY i h2) (az+chZ i h2) ((n:Int)+2),(idT us (zDx t0 i):Int),.pointer (some ⟨pe,0,none⟩),.pointer (some ⟨ps,0,none⟩),.pointer (some ⟨pb,0,none⟩)] W (Grew Far' sb most us (Tr.add (ch i) us) (ch i) W)))
 (hG:Good ts) (hlen:(Tr.add (Tr.mkInner (n+3) (fun i=>ch i.val)) ts).length≤4000000) (hFar : ∀ k,Far k→k<w.heap.size) (hS:StoreIs w Far sb most ts) :
 Calls Tryz.prog 93 #[zH ax ay az ((n:Int)+3),(idT ts t0:Int),.pointer (some ⟨pe,0,none⟩),.pointer (some ⟨ps,0,none⟩),.pointer (some ⟨pb,0,none⟩)] w (Grew Far sb most ts (Tr.add (Tr.mkInner (n+3) (fun i=>ch i.val)) ts) (Tr.mkInner (n+3) (fun i=>ch i.val)) w):=by
 have hd:(((n:Int)+3) == 2)=false:=by simp;omega
 have hcor:=Bx.mk (fun W i hi=>zDl (n+2) (by omega) ax ay az i hi (by omega) (by omega) (by omega) W)
 rw [show ((n+2+1:Nat):Int)=(n:Int)+3 by omega,show ((n+2:Nat):Int)=(n:Int)+2 by omega,←hh] at hcor
 have hlt:=(Tr.add_prefix (Tr.mkInner (n+3) (fun i:Fin 8=>ch i.val)) ts).length_le;have hkids:=Bx.mk (fun W (hs:StoreIs W Far sb most ts)=>zEl Far sb most ts t0 ht (by omega) W hs)
 have HG:=Bx.mk hG;have HW:=Bx.mk hW;have HL:=Bx.mk hlen;have HF:=Bx.mk hFar;have HS:=Bx.mk hS;have HT:=Bx.mk ht;clear hx hy hz hG hlen hFar hS hh hW hlt ht;have ce0 : ∀ o,(w.alloc o).cell? ⟨pe,0,none⟩=some (.func (.func nfid) #[] ncaps):=fun o=>(HC.out.ke.alloc o).cell 0 rfl;have kn:Bk (w.alloc (.cells #[ax,ay,az,.int .i64 ((n:Int)+3)] 52)) w.heap.size #[ax,ay,az,.int .i64 ((n:Int)+3)] 52:=Bk.new _ _ _;have c0:(w.alloc (.cells #[ax,ay,az,.int .i64 ((n:Int)+3)] 52)).cell? ⟨w.heap.size,0,none⟩=some (.int .i64 ax):=kn.cell 0 rfl;have c1:(w.alloc (.cells #[ax,ay,az,.int .i64 ((n:Int)+3)] 52)).cell? ⟨w.heap.size,1,none⟩=some (.int .i64 ay):=kn.cell 1 rfl;have c2:(w.alloc (.cells #[ax,ay,az,.int .i64 ((n:Int)+3)] 52)).cell? ⟨w.heap.size,2,none⟩=some (.int .i64 az):=kn.cell 2 rfl;have c3:(w.alloc (.cells #[ax,ay,az,.int .i64 ((n:Int)+3)] 52)).cell? ⟨w.heap.size,3,none⟩=some (.int .i64 ((n:Int)+3)):=kn.cell 3 rfl;go_enter Tryz.func93,Tryz.ntmps93;go_wp2_with fail;generalize hW:World.alloc w _=W at *;have hB:=bl1 hW;clear hW ce0 c0 c1 c2 c3;rw [HE.out _ _];refine (HN.out W hB).mono ?_;intro e1 w1 hs;have HB:=Bx.mk hB;have hkeep:=hs.keeps;have KN:=Bx.mk kn;clear hB kn;rcases hs.way with ⟨hf,rfl,hst⟩ | ⟨hf,⟨kn,rfl⟩,vs,v1,v2,v3,hst⟩ | ⟨hu,⟨i1,rfl⟩,hb⟩
 · have Hg:Bx (Grew Far sb most ts (Tr.add (Tr.mkInner (n+3) (fun i=>ch i.val)) ts) (Tr.mkInner (n+3) (fun i=>ch i.val)) w (zAv (idT (Tr.add (Tr.mkInner (n+3) (fun i=>ch i.val)) ts) (Tr.mkInner (n+3) (fun i=>ch i.val)):Int) 0) w1):=⟨(Keeps.below HB.out).trans hkeep,Nat.le_trans HB.out.size hkeep.size,.inl ⟨hf,rfl,hst⟩⟩;clear hs hf hst hkeep;go_wp2_with fail
   go_ret2
   exact Hg.out
 · have Hg:Bx (Grew Far sb most ts (Tr.add (Tr.mkInner (n+3) (fun i=>ch i.val)) ts) (Tr.mkInner (n+3) (fun i=>ch i.val)) w (zAv 0 14) w1):=⟨(Keeps.below HB.out).trans hkeep,Nat.le_trans HB.out.size hkeep.size,.inr ⟨hf,rfl,vs,v1,v2,v3,hst⟩⟩;clear hs hf hst hkeep v1 v2 v3;cases kn
   all_goals
    go_wp2_with fail
    go_ret2
    exact Hg.out
 · clear hs;have hB1:=HB.out.trans (hb.mono HB.out.size);have kp1:=KN.out.later hb;have hC1:=HC.out.far HP.out (Keeps.below hB1);have c3:=kp1.cell 3 rfl;have cr:=hC1.kr.cell 0 rfl;have hkd:=Bx.mk (hkids.out w1 (HS.out.later hB1));have HB1:=Bx.mk hB1;have KP1:=Bx.mk kp1;clear hb hkeep hB1 kp1 hC1 KN HB hkids;go_wp2_with fail;refine hkd.out.mono ?_;rintro _ w2 ⟨rfl,hb⟩;have HB2:=Bx.mk (HB1.out.trans (hb.mono HB1.out.size));have KP2:=Bx.mk (KP1.out.later hb);have hgk:w.heap.size<w2.heap.size:=KP2.out.lt;clear c3 cr hkd hb HB1 KP1;go_wp2_with fail;generalize hW4:World.alloc w2 _=W4;have hb8:Below w2.heap.size w2 W4:=by rw [←hW4];exact zW _ _
   have KR:Bk W4 w2.heap.size #[(idT ts (t0.kid 0):Int),(idT ts (t0.kid 1):Int),(idT ts (t0.kid 2):Int),(idT ts (t0.kid 3):Int),(idT ts (t0.kid 4):Int),(idT ts (t0.kid 5):Int),(idT ts (t0.kid 6):Int),(idT ts (t0.kid 7):Int)] 98:=by rw [←hW4];exact Bk.new _ _ _
   clear hW4
   have HI:Bx (EI Far sb most ts t0 ch w2.heap.size ax ay az ((n:Int)+3) w 0 W4):=⟨by
    refine ⟨?_,.inl rfl,⟨_,KR,rfl,fun i hi=>?_⟩,KP2.out.later hb8,Keeps.below (HB2.out.trans (hb8.mono HB2.out.size)),KR.lt⟩
    · exact (HS.out.widen (Far':=fun x=>Far x∨(w.heap.size≤x∧x≤w2.heap.size)) (fun k hk=>hk.imp id (fun h=>h.1))).later (HB2.out.trans (hb8.mono HB2.out.size))
    · have hi8:i<8:=hi
      show _=some (Value.int .i64 (if i<0 then _ else (idT ts (zDx t0 i):Int)))
      rw [if_neg (Nat.not_lt_zero i),zBI t0 hi8];rcases i with _ | _ | _ | _ | _ | _ | _ | _ | i
      all_goals first | rfl | omega⟩
   clear KR hb8 HB2 KP2;generalize w2.heap.size=gk at *
   go_loopw [52] (fun i wr => ∃ k:Nat,k≤8∧i = .int .i64 k∧Bx (EI Far sb most ts t0 ch gk ax ay az ((n:Int)+3) w k wr)) (fun i _=>8 - (intOf i).toNat)
   case atStart=>exact ⟨0,Nat.zero_le _,rfl,HI⟩
   case round =>
    clear HI;obtain ⟨k,hk,rfl,hI⟩:=hrel;have hcx:=Bx.mk (HC.out.far HP.out hI.out.keeps);by_cases hlt:k<8
    · have hstep:Tr.addK (fun i:Fin 8=>ch i.val) (k+1) ts=Tr.add (ch k) (Tr.addK (fun i:Fin 8=>ch i.val) k ts):=Tr.addK_succ _ hlt _;have hGk:Good (Tr.addK (fun i=>ch i.val) k ts):=zA8 HG.out (fun i=>HW.out _) k hk;have hle1:=(zA4 (ch:=fun i:Fin 8=>ch i.val) (ts:=ts) (show k+1≤8 by omega) (Nat.le_refl _)).length_le
      have hle2:=(zAU (d:=n+3) (ch:=fun i:Fin 8=>ch i.val) HG.out).length_le;have hpk:=Tr.addK_prefix (fun i:Fin 8=>ch i.val) k (by omega) ts
      have hIH:=Bx.mk (fun W (hb:Below wr.heap.size wr W)=>IH.out W (fun x=>Far x∨(w.heap.size≤x∧x≤gk)) (Tr.addK (fun i=>ch i.val) k ts) k hlt hu ((hcx.out.far HP.out (Keeps.below hb)).wider (fun k hk=>.inl hk)) (fun k hk=>.inl hk) hGk hpk (by have:=HL.out;rw [←hstep];omega) (fun x hx=>by have h1:=hI.out.size;have h2:=hb.size;have h3:=hI.out.keeps.size;rcases hx with hx | hx;exact Nat.lt_of_lt_of_le (HF.out x hx) (Nat.le_trans h3 h2);omega) (hI.out.store.later hb))
      rw [←hstep,zi hpk (zNp HG.out HT.out k)] at hIH;replace hstep:=Bx.mk hstep;clear hGk hle1 hle2 hpk;have cb0:wr.cell? ⟨pb,0,none⟩=some (.func (.func 93) #[] #[.pointer (some ⟨pe,0,none⟩),.pointer (some ⟨ps,0,none⟩),.pointer (some ⟨pb,0,none⟩)]):=hcx.out.kb.cell 0 rfl;obtain ⟨cp0,cp1,cp2,cp3⟩:=hI.out.kp.c4;have hcell0:=hI.out.row.cell hlt;rw [if_neg (Nat.lt_irrefl k)] at hcell0;have b1:(0:Int)≤(k:Int):=by omega
      have b2:(k:Int)<8:=by omega
      go_wp2_with fail
      go_region_held3 (fun w'=>w'.cell? ⟨pb,0,none⟩=some (.func (.func 93) #[] #[.pointer (some ⟨pe,0,none⟩),.pointer (some ⟨ps,0,none⟩),.pointer (some ⟨pb,0,none⟩)])∧w'.cell? ⟨w.heap.size,0,none⟩=some (.int .i64 ax)∧w'.cell? ⟨w.heap.size,1,none⟩=some (.int .i64 ay)∧w'.cell? ⟨w.heap.size,2,none⟩=some (.int .i64 az)∧w'.cell? ⟨w.heap.size,3,none⟩=some (.int .i64 ((n:Int)+3))∧w'.cell? ⟨gk,k,none⟩=some (.int .i64 (idT ts (zDx t0 k):Int)))
       (first | go_keep | (dsimp only;and_intros <;> assumption))
       (first
        | (go_at_call 93;refine (hIH.out _ hB4).mono ?_;rintro e5 w5 hg;obtain ⟨id,er,rfl,hres⟩:=hg.ends;have hkp:=hg.keeps;have hc5:=(hcx.out.far HP.out (Keeps.below hB4)).far HP.out (hkp.less (fun k hk=>.inl hk));have kp5:=(hI.out.kp.later hB4).keeps hkp (.inr ⟨Nat.le_refl _,by omega⟩);have cb5:=hc5.kb.cell 0 rfl;have c50:=kp5.cell 0 rfl;have c51:=kp5.cell 1 rfl;have c52:=kp5.cell 2 rfl;have c53:=kp5.cell 3 rfl;have c5r:=(zAQ (hI.out.row.of_block (hB4.block gk hI.out.size)) hkp (.inr ⟨by omega,Nat.le_refl _⟩)).cell hlt;rw [if_neg (Nat.lt_irrefl k)] at c5r)
        | (go_at_call 74;refine (hcor.out _ k hlt).mono ?_;rintro e4 w4 ⟨rfl,hb4⟩;have hB4:=(Below.refl wr.heap.size wr).drew.trans hb4;have cb4:=(hcx.out.far HP.out (Keeps.below hB4)).kb.cell 0 rfl;have c40:=(hI.out.kp.later hB4).cell 0 rfl;have c41:=(hI.out.kp.later hB4).cell 1 rfl;have c42:=(hI.out.kp.later hB4).cell 2 rfl;have c43:=(hI.out.kp.later hB4).cell 3 rfl;have c4r:=(hI.out.row.of_block (hB4.block gk hI.out.size)).cell hlt;rw [if_neg (Nat.lt_irrefl k)] at c4r))
      clear cb0 cp0 cp1 cp2 cp3 hcell0;have HB4:=Bx.mk hB4;have HK:=Bx.mk hkp;clear cb5 c50 c51 c52 c53 c5r cb4 c40 c41 c42 c43 c4r hB4 hb4 hc5 kp5 hkp hg hIH;obtain ⟨way⟩:=hres;rcases way with ⟨rfl,hf,rfl,hs⟩ | ⟨rfl,rfl,hnf,us,hu1,hu2,hu3,hs⟩
      · have hI2:=Bx.mk (zN6 HF.out hlt hgk hI.out HB4.out HK.out hf hs);have hrow5:=zAQ (hI.out.row.of_block (HB4.out.block gk hI.out.size)) HK.out (.inr ⟨by omega,Nat.le_refl _⟩)
        have hcell:=hrow5.cell hlt;have hfr:=hrow5.frozen k;clear hs hf hrow5 HK HB4 hI;go_wp2_with fail
        go_roundw
        case rel=>exact ⟨k+1,by omega,by go_num,hI2⟩
        case measure=>simp [intOf];omega
      · have Hg:Bx (Grew Far sb most ts (Tr.add (Tr.mkInner (n+3) (fun i=>ch i.val)) ts) (Tr.mkInner (n+3) (fun i=>ch i.val)) w (zAv 0 14) w5):=⟨by
         have hp1:=Tr.addK_prefix (fun i:Fin 8=>ch i.val) k (by omega) ts
         have hp2:Tr.addK (fun i:Fin 8=>ch i.val) k ts <+: Tr.addK (fun i:Fin 8=>ch i.val) (k+1) ts:=zA4 (by omega) (by omega)
         have hp3:Tr.addK (fun i:Fin 8=>ch i.val) (k+1) ts <+: Tr.add (Tr.mkInner (n+3) (fun i=>ch i.val)) ts:=(zA4 (by omega) (Nat.le_refl _)).trans (zAU HG.out)
         refine ⟨(hI.out.keeps.trans (Keeps.below HB4.out)).trans (HK.out.less (fun k hk=>.inl hk)),Nat.le_trans (Nat.le_trans hI.out.keeps.size HB4.out.size) HK.out.size,.inr ⟨?_,rfl,us,hu1,hp1.trans hu2,hu3.trans hp3,hs.less (fun k hk=>.inl hk)⟩⟩;exact Tr.not_fits_mono (hp1.trans hp2) hp3 (Tr.not_fits_later hp1 hp2 hnf)⟩
        clear hs hnf hu1 hu2 hu3 HK HB4 hI;go_wp2_with fail
        go_ret2
        exact Hg.out
    · obtain rfl:k=8:=by omega
      have hm8 : ∀ i:Fin 8,(fun i:Fin 8=>ch i.val) i∈Tr.addK (fun i=>ch i.val) 8 ts:=fun i=>Tr.addK_mem _ ts 8 (Nat.le_refl _) i i.isLt;have hG8:Good (Tr.addK (fun i=>ch i.val) 8 ts):=zA8 HG.out (fun i=>HW.out _) 8 (Nat.le_refl _);have hp8:=zAU (d:=n+3) (ch:=fun i:Fin 8=>ch i.val) HG.out;have hl8:=hp8.length_le;have hin:=zIR wr (fun x=>Far x∨(w.heap.size≤x∧x≤gk)) sb most (Tr.addK (fun i=>ch i.val) 8 ts) n hn ch hm8 (fun i=>HK8.out i) hG8 (by have:=HL.out;omega) (fun x hx=>by have:=hI.out.size;rcases hx with hx | hx;exact Nat.lt_of_lt_of_le (HF.out x hx) hI.out.keeps.size;omega) hI.out.store
      rw [zBJ HG.out (fun i=>HW.out _)] at hin;have hin:=Bx.mk hin;clear hm8 hG8 hl8;have hr:=hI.out.row;have d0:wr.cell? ⟨gk,0,none⟩=some (.int .i64 (idT (Tr.addK (fun i=>ch i.val) 8 ts) (ch 0):Int)):=by have:=hr.cell (i:=0) (by omega);simpa using this
      have d1:wr.cell? ⟨gk,1,none⟩=some (.int .i64 (idT (Tr.addK (fun i=>ch i.val) 8 ts) (ch 1):Int)):=by have:=hr.cell (i:=1) (by omega);simpa using this
      have d2:wr.cell? ⟨gk,2,none⟩=some (.int .i64 (idT (Tr.addK (fun i=>ch i.val) 8 ts) (ch 2):Int)):=by have:=hr.cell (i:=2) (by omega);simpa using this
      have d3:wr.cell? ⟨gk,3,none⟩=some (.int .i64 (idT (Tr.addK (fun i=>ch i.val) 8 ts) (ch 3):Int)):=by have:=hr.cell (i:=3) (by omega);simpa using this
      have d4:wr.cell? ⟨gk,4,none⟩=some (.int .i64 (idT (Tr.addK (fun i=>ch i.val) 8 ts) (ch 4):Int)):=by have:=hr.cell (i:=4) (by omega);simpa using this
      have d5:wr.cell? ⟨gk,5,none⟩=some (.int .i64 (idT (Tr.addK (fun i=>ch i.val) 8 ts) (ch 5):Int)):=by have:=hr.cell (i:=5) (by omega);simpa using this
      have d6:wr.cell? ⟨gk,6,none⟩=some (.int .i64 (idT (Tr.addK (fun i=>ch i.val) 8 ts) (ch 6):Int)):=by have:=hr.cell (i:=6) (by omega);simpa using this
      have d7:wr.cell? ⟨gk,7,none⟩=some (.int .i64 (idT (Tr.addK (fun i=>ch i.val) 8 ts) (ch 7):Int)):=by have:=hr.cell (i:=7) (by omega);simpa using this
      have cr:=hcx.out.kr.cell 0 rfl;have cp3:=hI.out.kp.cell 3 rfl;have hp8:=Bx.mk hp8;clear hr;go_wp2_with fail;refine hin.out.mono ?_;rintro e5 w5 hg
      have Hg:Bx (Grew Far sb most ts (Tr.add (Tr.mkInner (n+3) (fun i=>ch i.val)) ts) (Tr.mkInner (n+3) (fun i=>ch i.val)) w e5 w5):=⟨by
       refine ⟨hI.out.keeps.trans (hg.keeps.less (fun k hk=>.inl hk)),Nat.le_trans hI.out.keeps.size hg.size,?_⟩;have hpre:=Tr.addK_prefix (fun i:Fin 8=>ch i.val) 8 (Nat.le_refl _) ts;rcases hg.way with ⟨h1,h2,h3⟩ | ⟨h1,h2,us,h3,h4,h5,h6⟩
       · exact .inl ⟨Tr.fits_trans hpre hp8.out hI.out.fits h1,h2,h3.less (fun k hk=>.inl hk)⟩
       · exact .inr ⟨Tr.not_fits_later hpre hp8.out h1,h2,us,h3,hpre.trans h4,h5,h6.less (fun k hk=>.inl hk)⟩⟩
      obtain ⟨-,-,(⟨hf,rfl,hs⟩ | ⟨hf,rfl,us,hs⟩)⟩:=hg
      all_goals
       clear hf hs d0 d1 d2 d3 d4 d5 d6 d7;go_wp2_with fail
       go_ret2
       exact Hg.out
end
section
open Go.RowKit Go.Sort Go.Maps
open Oct
attribute [local go_sem ↓] Go.wp_at_zero Go.wp_at_succ
theorem zIS (w:World) (Far:Nat→Prop) (pe ps pb sb:Nat) (nfid bfid:FuncId) (ncaps bcaps:Array Value) (P:World→Prop) (bf:Value) (HC:Bx (ECtx w Far pe ps pb sb (.func (.func nfid) #[] ncaps) bf P)) (HP:Bx (zDv Far P)) (ax ay az:Int) (most:Int) (ts:List Tr) (t0:Tr) (hd0 : ∀ d ch,t0 ≠ .node d ch) (hW:Tr.WF t0) (zs:List Int) (hz:zs.length=64) (hcell:zs.all Pal.cell=true) (ht:t0∈ts) (U:Prop) (Hbf:Bx (U→bf = .func (.func bfid) #[] bcaps))
 (HE:Bx (∀ (args:Array Value) (W:World),(callFunc nfid args).run Tryz.prog W = .ok (.enter nfid args) W))
 (HE2:Bx (U → ∀ (args:Array Value) (W:World),(callFunc bfid args).run Tryz.prog W = .ok (.enter bfid args) W))
 (HN:Bx (∀ W,Below w.heap.size w W→Calls Tryz.prog nfid (#[zH ax ay az 2,(idT ts t0:Int)]++ncaps) W (NodeSays Far sb most ts (Tr.mkBrick zs) U W)))
 (HR:Bx (U → ∀ W B v,w.heap.size≤B→P W→Own W B 3 .i64 v (zKT t0)→Calls Tryz.prog bfid (#[zH ax ay az 2,v]++bcaps) W (fun e w'=>e = .returned (.tuple #[])∧Own w' B 3 .i64 v zs∧Keeps (fun k=>k<B) W w')))
 (hG:Good ts) (hlen:(Tr.add (Tr.mkBrick zs) ts).length≤4000000) (hFar : ∀ k,Far k→k<w.heap.size) (hS:StoreIs w Far sb most ts) :
 Calls Tryz.prog 93 #[zH ax ay az 2,(idT ts t0:Int),.pointer (some ⟨pe,0,none⟩),.pointer (some ⟨ps,0,none⟩),.pointer (some ⟨pb,0,none⟩)] w (Grew Far sb most ts (Tr.add (Tr.mkBrick zs) ts) (Tr.mkBrick zs) w):=by
 have hlt:=(Tr.add_prefix (Tr.mkBrick zs) ts).length_le;have hcells:=Bx.mk (fun W (hs:StoreIs W Far sb most ts)=>zIl W Far sb most ts t0 hd0 ht hW hG (by omega) hs)
 have hbrick:=Bx.mk (fun W (hb:w.heap.size≤W.heap.size) (hs:StoreIs W Far sb most ts) a cap (h:Sl W .i64 a zs)=>zCP W Far sb most ts a cap zs hz hcell h hG (by omega) (fun k hk=>Nat.lt_of_lt_of_le (hFar k hk) hb) hs)
 have HF:=Bx.mk hFar;have HS:=Bx.mk hS;have HZ:=Bx.mk hz;clear hcell hG hlen hFar hS hW hlt ht hd0 hz;have ce0 : ∀ o,(w.alloc o).cell? ⟨pe,0,none⟩=some (.func (.func nfid) #[] ncaps):=fun o=>(HC.out.ke.alloc o).cell 0 rfl;have kn:Bk (w.alloc (.cells #[ax,ay,az,(2:Int)] 52)) w.heap.size #[ax,ay,az,(2:Int)] 52:=Bk.new _ _ _;have c0:(w.alloc (.cells #[ax,ay,az,(2:Int)] 52)).cell? ⟨w.heap.size,0,none⟩=some (.int .i64 ax):=kn.cell 0 rfl;have c1:(w.alloc (.cells #[ax,ay,az,(2:Int)] 52)).cell? ⟨w.heap.size,1,none⟩=some (.int .i64 ay):=kn.cell 1 rfl;have c2:(w.alloc (.cells #[ax,ay,az,(2:Int)] 52)).cell? ⟨w.heap.size,2,none⟩=some (.int .i64 az):=kn.cell 2 rfl;have c3:(w.alloc (.cells #[ax,ay,az,(2:Int)] 52)).cell? ⟨w.heap.size,3,none⟩=some (.int .i64 2):=kn.cell 3 rfl;go_enter Tryz.func93,Tryz.ntmps93;go_wp2_with fail;generalize hW:World.alloc w _=W at *;have hB:=bl1 hW;clear hW ce0 c0 c1 c2 c3;rw [HE.out _ _];refine (HN.out W hB).mono ?_;intro e1 w1 hs;have HB:=Bx.mk hB;have hkeep:=hs.keeps;have KN:=Bx.mk kn;clear hB kn;rcases hs.way with ⟨hf,rfl,hst⟩ | ⟨hf,⟨kn,rfl⟩,vs,v1,v2,v3,hst⟩ | ⟨hu,⟨i1,rfl⟩,hb⟩
 · have Hg:Bx (Grew Far sb most ts (Tr.add (Tr.mkBrick zs) ts) (Tr.mkBrick zs) w (zAv (idT (Tr.add (Tr.mkBrick zs) ts) (Tr.mkBrick zs):Int) 0) w1):=⟨(Keeps.below HB.out).trans hkeep,Nat.le_trans HB.out.size hkeep.size,.inl ⟨hf,rfl,hst⟩⟩;clear hs hf hst hkeep;go_wp2_with fail
   go_ret2
   exact Hg.out
 · have Hg:Bx (Grew Far sb most ts (Tr.add (Tr.mkBrick zs) ts) (Tr.mkBrick zs) w (zAv 0 14) w1):=⟨(Keeps.below HB.out).trans hkeep,Nat.le_trans HB.out.size hkeep.size,.inr ⟨hf,rfl,vs,v1,v2,v3,hst⟩⟩;clear hs hf hst hkeep v1 v2 v3;cases kn
   all_goals
    go_wp2_with fail
    go_ret2
    exact Hg.out
 · clear hs;have hB1:=HB.out.trans (hb.mono HB.out.size);have kp1:=KN.out.later hb;have hC1:=HC.out.far HP.out (Keeps.below hB1);have c3:=kp1.cell 3 rfl;have cr:=hC1.kr.cell 0 rfl;have hkd:=Bx.mk (hcells.out w1 (HS.out.later hB1));have hs1:=Bx.mk (HS.out.later hB1);have HC1:=Bx.mk hC1;have HB1:=Bx.mk hB1;have KP1:=Bx.mk kp1;clear hb hkeep hB1 kp1 hC1 KN HB hcells;go_wp2_with fail;refine hkd.out.mono ?_;rintro _ w2 ⟨v,rfl,hv,hb⟩;have HB2:=Bx.mk (HB1.out.trans (hb.mono HB1.out.size));have hC2:=HC1.out.far HP.out (Keeps.below hb);have kp2:=KP1.out.later hb;have hR:=Bx.mk (HR.out hu w2 w1.heap.size v HB1.out.size hC2.hp hv);have he1:w2.cell? ⟨pe,1,none⟩=some (.func (.func bfid) #[] bcaps):=by rw [←Hbf.out hu];exact hC2.ke.cell 1 rfl
   obtain ⟨d0,d1,d2,d3⟩:=kp2.c4;have Hb:=Bx.mk hb;clear c3 cr hkd hb hC2 kp2 hv;go_wp2_with fail;rw [HE2.out hu _ _];refine hR.out.mono ?_;rintro _ w3 ⟨rfl,hv,hk⟩;have hK:=(Keeps.below (Far:=fun k=>k<w1.heap.size) Hb.out).trans hk;have hst:=hs1.out.other hK (fun k _ hl=>hl);have hkF:=hK.less (Far:=Far) (fun k hk=>Nat.lt_of_lt_of_le (HF.out k hk) HB1.out.size);have cr3:=(HC1.out.far HP.out hkF).kr.cell 0 rfl;obtain ⟨a,cap,rfl,hsl⟩:=hv.form;have hbr:=Bx.mk (hbrick.out w3 (Nat.le_trans HB1.out.size hK.size) hst a cap hsl);rw [HZ.out];have HK:=Bx.mk (((Keeps.below HB1.out).trans hkF:Keeps Far w w3));clear he1 d0 d1 d2 d3 hv hk hK hst hkF hsl hR;go_wp2_with fail;refine hbr.out.mono ?_;rintro e5 w5 hg;have Hg:Bx (Grew Far sb most ts (Tr.add (Tr.mkBrick zs) ts) (Tr.mkBrick zs) w e5 w5):=⟨⟨HK.out.trans hg.keeps,Nat.le_trans HK.out.size hg.size,hg.way⟩⟩;obtain ⟨-,-,(⟨hf,rfl,hs⟩ | ⟨hf,rfl,us,hs⟩)⟩:=hg
   all_goals
    clear hf hs;go_wp2_with fail
    go_ret2
    exact Hg.out
end
section
open Go.RowKit Go.Sort Go.Maps
open Oct
theorem zJd (f:Pt→Int) (n:Nat) (a:Pt):zH6 (Tr.can f n a) ((n:Int)+3):=by
 cases n with
 | zero =>
   show zH6 (Tr.mkBrick _) _
   unfold Tr.mkBrick;split
   · exact .inl ⟨_,rfl⟩
   · right;show (2:Int)=_;omega
 | succ n =>
   show zH6 (Tr.mkInner (n+3) _) _
   unfold Tr.mkInner;split
   · rename_i h;obtain ⟨⟨c,hc⟩,-⟩:=h;exact .inl ⟨c,hc⟩
   · right;show ((n+3:Nat):Int)=_;omega
theorem zF1 {l:List Int} (hl:l.length=64):zKT (Tr.mkBrick l)=l:=by
 unfold Tr.mkBrick;split
 · rename_i h
   show List.replicate 64 _=l
   rw [←hl];exact (List.eq_replicate_iff.2 ⟨rfl,h⟩).symm
 · rfl
theorem zD3 (l:List Int) : ∀ d ch,Tr.mkBrick l ≠ .node d ch:=by
 intro d ch;unfold Tr.mkBrick;split <;> exact fun h=>by cases h
def zz (f:Pt→Int) (a:Pt):List Int:=(List.range 64).map fun k=>f (Tr.cellAt a k)
theorem zAG (f:Pt→Int) (a:Pt):(zz f a).length=64:=by unfold zz;simp
theorem zGp (f:Pt→Int) (a:Pt):Tr.can f 0 a=Tr.mkBrick (zz f a):=rfl
structure InT (N n:Nat) (a:Pt):Prop where
 le:n≤N
 al:Tr.Al n a
 x:0≤a.x∧a.x+2 ^ (n+2)≤2 ^ (N+2)
 y:0≤a.y∧a.y+2 ^ (n+2)≤2 ^ (N+2)
 z:0≤a.z∧a.z+2 ^ (n+2)≤2 ^ (N+2)
theorem InT.top (N:Nat):InT N N ⟨0,0,0⟩:=⟨Nat.le_refl _,zB5 N,by simp,by simp,by simp⟩
theorem InT.kid {N n:Nat} {a:Pt} (h:InT N (n+1) a) {i:Nat} (hi:i<8):InT N n (Tr.cor a n i):=by
 have hp:=Tr.pow_pos2 n;have hp2:=Tr.pow_succ2 n;obtain ⟨c1,c2,c3⟩:=zMJ hi (m:=2 ^ (n+2)) (by omega)
 obtain ⟨h1,h2,h3,h4,h5⟩:=h;refine ⟨by omega,Tr.al_cor h2 i,?_,?_,?_⟩
 all_goals
  rw [zMo];simp only [];omega
theorem InT.bd {N n:Nat} {a:Pt} (hN:N≤12) (h:InT N n a):(0≤a.x∧a.x≤16384)∧(0≤a.y∧a.y≤16384)∧(0≤a.z∧a.z≤16384):=by
 have hp:=(zV (show N+2≤14 by omega)).2
 have hp2:=Tr.pow_pos2 n;obtain ⟨h1,h2,h3,h4,h5⟩:=h;omega
structure EditC (T0:List Tr) (F:Nat→Prop) (P:World→Prop) (sb:Nat) (most:Int) (N:Nat) (f f':Pt→Int) (V U:Nat→Pt→Prop) (nfid bfid:FuncId) (ncaps bcaps:Array Value) (bf:Value):Prop where
 stays:zDv F P
 vtop:V N ⟨0,0,0⟩
 vkid : ∀ n a i,i<8→InT N (n+1) a→V (n+1) a→U (n+1) a→V n (Tr.cor a n i)
 en : ∀ (args:Array Value) (W:World),(callFunc nfid args).run Tryz.prog W = .ok (.enter nfid args) W
 eb : ∀ a,U 0 a→bf = .func (.func bfid) #[] bcaps ∧ ∀ (args:Array Value) (W:World),(callFunc bfid args).run Tryz.prog W = .ok (.enter bfid args) W
 node : ∀ (W:World) (Far:Nat→Prop) (us:List Tr) (n:Nat) (a:Pt),(∀ k,F k→Far k)→T0 <+: us→InT N n a→V n a→P W→Good us→Tr.can f n a∈us→(Tr.add (Tr.can f' n a) us).length≤4000000→(∀ k,Far k→k<W.heap.size)→StoreIs W Far sb most us →
  Calls Tryz.prog nfid (#[zH a.x a.y a.z ((n:Int)+2),(idT us (Tr.can f n a):Int)]++ncaps) W (NodeSays Far sb most us (Tr.can f' n a) (U n a) W)
 brick : ∀ (W:World) (B:Nat) (v:Value) (a:Pt),InT N 0 a→U 0 a→P W→(∀ k,F k→k<B)→Own W B 3 .i64 v (zz f a) →
  Calls Tryz.prog bfid (#[zH a.x a.y a.z 2,v]++bcaps) W (fun e w'=>e = .returned (.tuple #[])∧Own w' B 3 .i64 v (zz f' a)∧Keeps (fun k=>k<B) W w')
theorem zL6 {T0:List Tr} {F:Nat→Prop} {P:World→Prop} {sb:Nat} {most:Int} {N:Nat} {f f':Pt→Int} {V U:Nat→Pt→Prop} {nfid bfid:FuncId} {ncaps bcaps:Array Value} {bf:Value} (hN:N≤12) (EC:EditC T0 F P sb most N f f' V U nfid bfid ncaps bcaps bf) (hf : ∀ p,0≤f p∧f p≤255) (hf' : ∀ p,0≤f' p∧f' p≤255) :
 ∀ (n:Nat) (w:World) (Far:Nat→Prop) (pe ps pb:Nat) (_HC:ECtx w Far pe ps pb sb (.func (.func nfid) #[] ncaps) bf P) (_hFF : ∀ k,F k→Far k) (a:Pt) (_hin:InT N n a) (_hV:V n a) (ts:List Tr) (_h0:T0 <+: ts) (_hG:Good ts) (_ht:Tr.can f n a∈ts) (_hlen:(Tr.add (Tr.can f' n a) ts).length≤4000000) (_hFar : ∀ k,Far k→k<w.heap.size) (_hS:StoreIs w Far sb most ts),
 Calls Tryz.prog 93 #[zH a.x a.y a.z ((n:Int)+2),(idT ts (Tr.can f n a):Int),.pointer (some ⟨pe,0,none⟩),.pointer (some ⟨ps,0,none⟩),.pointer (some ⟨pb,0,none⟩)] w (Grew Far sb most ts (Tr.add (Tr.can f' n a) ts) (Tr.can f' n a) w):=by
 intro n
 induction n with
 | zero =>
   intro w Far pe ps pb HC hFF a hin hV ts h0 hG ht hlen hFar hS;have HP:zDv Far P:=fun x y hk hp=>EC.stays x y (hk.less hFF) hp;have hW:Tr.WF (Tr.can f 0 a):=zAm hf 0 a (by omega)
   have hcell:(zz f' a).all Pal.cell=true:=by
    rw [List.all_eq_true];intro x hx;unfold zz at hx;obtain ⟨k,-,rfl⟩:=List.mem_map.1 hx;have:=hf' (Tr.cellAt a k);rw [Pal.cell_eq];simpa using this
   have h:=zIS w Far pe ps pb sb nfid bfid ncaps bcaps P bf ⟨HC⟩ ⟨HP⟩ a.x a.y a.z most ts (Tr.can f 0 a) (zD3 _) hW (zz f' a) (zAG _ _) hcell ht (U 0 a) ⟨fun hu=>(EC.eb a hu).1⟩ ⟨EC.en⟩ ⟨fun hu=>(EC.eb a hu).2⟩
    ⟨fun W hb=>by
     have:=EC.node W Far ts 0 a hFF h0 hin hV (HP _ _ (Keeps.below hb) HC.hp) hG ht hlen (fun k hk=>Nat.lt_of_lt_of_le (hFar k hk) hb.size) (hS.later hb);rw [show (((0:Nat):Int)+2)=2 from rfl] at this;exact this⟩
    ⟨fun hu W B v hB hP hv=>by
     rw [zGp,zF1 (zAG _ _)] at hv;exact EC.brick W B v a hin hu hP (fun k hk=>Nat.lt_of_lt_of_le (hFar k (hFF k hk)) hB) hv⟩
    hG hlen hFar hS
   rw [show (((0:Nat):Int)+2)=2 from rfl];exact h
 | succ n ih =>
   intro w Far pe ps pb HC hFF a hin hV ts h0 hG ht hlen hFar hS;have HP:zDv Far P:=fun x y hk hp=>EC.stays x y (hk.less hFF) hp;obtain ⟨b1,b2,b3⟩:=hin.bd hN;have hle:=hin.le;have e3:(((n+1:Nat):Int)+2)=(n:Int)+3:=by omega
   have hW : ∀ i,Tr.WF (Tr.can f' n (Tr.cor a n i)):=fun i=>zAm hf' n _ (by omega)
   have h:=zKB w Far pe ps pb sb nfid ncaps bf P ⟨HC⟩ ⟨HP⟩ n (by omega) a.x a.y a.z (2 ^ (n+2)) rfl b1 b2 b3 most ts (Tr.can f (n+1) a) (fun i=>Tr.can f' n (Tr.cor a n i)) hW ⟨fun i=>zJd f' n _⟩ ht (U (n+1) a) ⟨EC.en⟩
    ⟨fun W hb=>by
     have:=EC.node W Far ts (n+1) a hFF h0 hin hV (HP _ _ (Keeps.below hb) HC.hp) hG ht hlen (fun k hk=>Nat.lt_of_lt_of_le (hFar k hk) hb.size) (hS.later hb);rw [e3] at this;exact this⟩
    ⟨fun W Far' us i hi hU hC hFF' hGu hpre hlu hFu hSu=>by
     rw [zBI _ hi,zKW];have hk:=zIm hG ht ⟨i,hi⟩;exact ih W Far' pe ps pb hC (fun k hk=>hFF' k (hFF k hk)) (Tr.cor a n i) (hin.kid hi) (EC.vkid n a i hi hin hV hU) us (h0.trans hpre) hGu (hpre.subset hk) hlu hFu hSu⟩
    hG hlen hFar hS
   rw [e3];exact h
attribute [local go_sem ↓] Go.wp_at_zero Go.wp_at_succ
theorem zCn {T0:List Tr} {F:Nat→Prop} {P:World→Prop} {sb:Nat} {most:Int} {N:Nat} {f f':Pt→Int} {V U:Nat→Pt→Prop} {nfid bfid:FuncId} {ncaps bcaps:Array Value} {bf:Value} (hN:N≤12) (EC:EditC T0 F P sb most N f f' V U nfid bfid ncaps bcaps bf) (hf : ∀ p,0≤f p∧f p≤255) (hf' : ∀ p,0≤f' p∧f' p≤255)
 (w:World) (Far:Nat→Prop) (hFF : ∀ k,F k→Far k) (hP:P w) (ts:List Tr) (h0:T0 <+: ts) (hG:Good ts) (ht:Tr.can f N ⟨0,0,0⟩∈ts) (hlen:(Tr.add (Tr.can f' N ⟨0,0,0⟩) ts).length≤4000000) (hFar : ∀ k,Far k→k<w.heap.size) (hS:StoreIs w Far sb most ts) :
 Calls Tryz.prog 39 #[.pointer (some ⟨sb,0,none⟩),(idT ts (Tr.can f N ⟨0,0,0⟩):Int),.int .i64 ((N:Int)+2),.agg #[.func (.func nfid) #[] ncaps,bf]] w (Done Far sb most ts (Tr.add (Tr.can f' N ⟨0,0,0⟩) ts) (Tr.can f' N ⟨0,0,0⟩) w):=by
 have hgr:=Bx.mk (zBN (Tr.can f' N ⟨0,0,0⟩) hG (zAm hf' N ⟨0,0,0⟩ (by omega)))
 have hlenc:=Bx.mk (fun W (h:StoreIs W Far sb most ts)=>zDc Far sb most ts W h);have hwh:=Bx.mk (fun W=>zAY ((N:Int)+2) W);have hbuild:=Bx.mk (fun W Far' pe ps pb HC h1 h2 h3=>zL6 hN EC hf hf' N W Far' pe ps pb HC h1 ⟨0,0,0⟩ (InT.top N) EC.vtop ts h0 hG ht hlen h2 h3);have hst:zDv Far P:=fun x y hk hp=>EC.stays x y (hk.less hFF) hp;have HP:=Bx.mk hst;have hp0:=Bx.mk hP;have HL:=Bx.mk hlen;have HF:=Bx.mk hFar;have HFF:=Bx.mk hFF;have HS:=Bx.mk hS;have HG:=Bx.mk hG;clear EC hf hf' hG ht hlen hFar hS hFF hP hst;generalize Tr.can f' N ⟨0,0,0⟩=T at *;generalize Tr.can f N ⟨0,0,0⟩=T0 at *;go_enter Tryz.func39,Tryz.ntmps39;go_upto_region 1 with fail;generalize hW:World.alloc (World.alloc w _) _=W;have hSz:W.heap.size=w.heap.size+1+1:=by rw [←hW];simp
 have hB:=bl2 hW;have kr:Bk W (w.heap.size) #[.pointer (some ⟨sb,0,none⟩)] 33:=bk1 hW;have ke:Bk W (w.heap.size+1) #[.func (.func nfid) #[] ncaps,bf] 91:=bk0 hW;clear hW;have cr:=kr.cell 0 rfl;go_wp2_with fail;refine (hlenc.out W (HS.out.later hB)).mono ?_;rintro _ _ ⟨rfl,rfl⟩;go_wp2_with fail;generalize hW5:World.alloc W _=W5;have hb5:Below W.heap.size W W5:=by rw [←hW5];exact zW _ _
 have hs5:W5.heap.size=W.heap.size+1:=by rw [←hW5];simp
 have kb:Bk W5 (w.heap.size+1+1) #[.func (.func 93) #[] #[.pointer (some ⟨w.heap.size+1,0,none⟩),.pointer (some ⟨w.heap.size,0,none⟩),.pointer (some ⟨w.heap.size+1+1,0,none⟩)]] 138:=by rw [←hW5];have h:=Bk.new W #[.func (.func 93) #[] #[.pointer (some ⟨w.heap.size+1,0,none⟩),.pointer (some ⟨w.heap.size,0,none⟩),.pointer (some ⟨w.heap.size+1+1,0,none⟩)]] 138;rw [hSz] at h;exact h
 have HB5:=Bx.mk (hB.trans (hb5.mono hB.size));have hpb:w.heap.size+1<w.heap.size+1+1:=by omega
 rw [hSz] at hs5;have HC5:Bx (ECtx W5 (fun x=>Far x∨(w.heap.size≤x∧x≤w.heap.size+1+1)) (w.heap.size+1) w.heap.size (w.heap.size+1+1) sb (.func (.func nfid) #[] ncaps) bf P):=⟨⟨ke.later hb5,kr.later hb5,kb,.inr ⟨by omega,by omega⟩,.inr ⟨by omega,by omega⟩,.inr ⟨by omega,Nat.le_refl _⟩,HP.out _ _ (Keeps.below HB5.out) hp0.out⟩⟩
 have HS5:Bx (StoreIs W5 (fun x=>Far x∨(w.heap.size≤x∧x≤w.heap.size+1+1)) sb most ts):=⟨(HS.out.widen (Far':=fun x=>Far x∨(w.heap.size≤x∧x≤w.heap.size+1+1)) (fun k hk=>hk.imp id (fun h=>h.1))).later HB5.out⟩;have HP':Bx (zDv (fun x=>Far x∨(w.heap.size≤x∧x≤w.heap.size+1+1)) P):=⟨fun x y hk hp=>HP.out x y (hk.less (fun k hk=>.inl hk)) hp⟩;clear hW5 cr kr ke kb hSz hb5 hB;generalize w.heap.size+1+1=pb at *;have hIH:=Bx.mk (fun V (hb:Below W5.heap.size W5 V)=>hbuild.out V (fun x=>Far x∨(w.heap.size≤x∧x≤pb)) (w.heap.size+1) w.heap.size pb (HC5.out.far HP'.out (Keeps.below hb)) (fun k hk=>.inl (HFF.out k hk)) (fun k hk=>by have h1:=hb.size;rcases hk with hk | hk;exact Nat.lt_of_lt_of_le (HF.out k hk) (Nat.le_trans HB5.out.size h1);omega) (HS5.out.later hb))
 have cb0:=HC5.out.kb.cell 0 rfl;go_wp2_with fail
 go_region_held3 (fun w'=>w'.cell? ⟨pb,0,none⟩=some (.func (.func 93) #[] #[.pointer (some ⟨w.heap.size+1,0,none⟩),.pointer (some ⟨w.heap.size,0,none⟩),.pointer (some ⟨pb,0,none⟩)]))
  (first | go_keep | (dsimp only;and_intros <;> assumption))
  (first
   | (go_at_call 93;refine (hIH.out _ hB4).mono ?_;rintro e5 w5 hg;obtain ⟨id,er,rfl,hres⟩:=hg.ends;have hkp:=hg.keeps;have cb5:=((HC5.out.far HP'.out (Keeps.below hB4)).far HP'.out hkp).kb.cell 0 rfl)
   | (go_at_call 37;refine (hwh.out _).mono ?_;rintro e4 w4 ⟨rfl,hb4⟩;have hB4:=(Below.refl W5.heap.size W5).drew.trans hb4;have cb4:=(HC5.out.far HP'.out (Keeps.below hB4)).kb.cell 0 rfl))
 clear cb0;have hkk:=Keeps.trans (Keeps.below hB4) hkp;have hC7:=HC5.out.far HP'.out hkk;have cr:=hC7.kr.cell 0 rfl;have HK:=Bx.mk (((Keeps.below HB5.out).trans (hkk.less (fun k hk=>.inl hk)):Keeps Far w w5));clear cb5 cb4 hB4 hb4 hC7 hkp hg hIH hkk;obtain ⟨way⟩:=hres;rcases way with ⟨rfl,hf,rfl,hs⟩ | ⟨rfl,rfl,hnf,us,hu1,hu2,hu3,hs⟩
 · have Hd:Bx (Done Far sb most ts (T.add ts) T w (zAv (idT (T.add ts) T:Int) 0) w5):=⟨⟨HK.out,HK.out.size,.inl ⟨hf,rfl,hs.less (fun k hk=>.inl hk)⟩⟩⟩;clear hs hf cr;go_wp2_with fail
   go_ret2
   exact Hd.out
 · have hl:=hu3.length_le;have htrim:=Bx.mk (zEV w5 Far sb most ts us hu2 (fun vs h1 h2=>hgr.out vs h1 (h2.trans hu3)) (by have:=HL.out;omega) (hs.less (fun k hk=>.inl hk)))
   have hfit:=Bx.mk hnf;clear hs hnf hu1 hu2 hu3 hl;go_wp2_with fail;refine htrim.out.mono ?_;rintro e w6 ⟨rfl,hs2,hk2⟩;have hd:Bx (Done Far sb most ts (T.add ts) T w (zAv 0 14) w6):=⟨⟨HK.out.trans hk2,Nat.le_trans HK.out.size hk2.size,.inr ⟨hfit.out,rfl,hs2⟩⟩⟩;clear hs2 hk2 htrim hfit;go_wp2_with fail
   go_ret2
   exact hd.out
end
end Go.Proofs.YtfcbajmjaifjlaaGreatDoor
