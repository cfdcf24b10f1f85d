/- M22, M23, M24: joined by program. -/
import Derived.Test.YtfcbajmjaifjlaaGreatM7
import Derived.Shelf.Abstract
set_option maxHeartbeats 2000000
set_option maxRecDepth 100000
set_option linter.all false
attribute [local simp] Go.Op.operands Go.Call.operands
namespace Go.Proofs.YtfcbajmjaifjlaaGreat
section
open Go.RowKit Go.Sort Go.Maps
open Oct
attribute [local go_sem ↓] Go.wp_at_zero Go.wp_at_succ
theorem zEg (w:World) (Far:Nat→Prop) (sb:Nat) (UA:Int) (ts:List Tr) (n:Nat) (hn:n≤11) (ch:Nat→Tr) (LT : ∀ i:Fin 8,ch i.val∈ts) (QE : ∀ i:Nat,zJI (ch i) ((n:Int)+3)) (hG:Good ts) (Od:ts.length≤4000000) (IV : ∀ k,Far k→k<w.heap.size) (hS:StoreIs w Far sb UA ts) :
 Calls Tryz.prog 159 #[.pointer (some ⟨sb,0,none⟩),((n:Int)+3:Int),.agg #[(idT ts (ch 0):Int),(idT ts (ch 1):Int),(idT ts (ch 2):Int),(idT ts (ch 3):Int),(idT ts (ch 4):Int),(idT ts (ch 5):Int),(idT ts (ch 6):Int),(idT ts (ch 7):Int)]] w (Grew Far sb UA ts (Tr.add (Tr.mkInner (n+3) (fun i=>ch i.val)) ts) (Tr.mkInner (n+3) (fun i=>ch i.val)) w):=by
 refine zAR w Far sb UA ts ((n:Int)+3) (by omega) (fun k=>(idT ts (ch k):Int)) ⟨fun k hk=>⟨ch k,LT ⟨k,hk⟩,rfl,QE k⟩⟩ (by omega) hS _ (fun e w' h=>by obtain ⟨i,er,h,-⟩:=h.ends;exact ⟨i,er,h⟩) ⟨fun W hb=>?_⟩
 have h:=zGj W Far sb UA ts (n+3) (by omega) (fun i:Fin 8=>ch i.val) LT hG (by omega) (fun k hk=>nll (IV k hk) hb.size) (hS.la hb)
 rw [show ((n+3:Nat):Int)=(n:Int)+3 by omega] at h
 exact h.mono fun e w' hg=>⟨(Keeps.below hb).trans hg.keeps,nlt hb.size hg.size,hg.way⟩
theorem zEh (w:World) (Far:Nat→Prop) (pe ps pb sb:Nat) (UD:FuncId) (UB:Array Value) (bf:Value) (P:World→Prop) (HC:Bx (ECtx w Far pe ps pb sb (.func (.func UD) #[] UB) bf P)) (HP:Bx (zAg Far P)) (n:Nat) (hn:n≤11) (ax ay az h2:Int) (hh:h2=2 ^ (n+2)) (hx:0≤ax∧ax≤16384) (hy:0≤ay∧ay≤16384) (hz:0≤az∧az≤16384) (UA:Int) (ts:List Tr) (t0:Tr) (ch:Nat→Tr) (hW : ∀ i,Tr.WF (ch i)) (B2:Bx (∀ i:Nat,zJI (ch i) ((n:Int)+3))) (ht:t0∈ts) (U:Prop)
 (HE:Bx (∀ (args:Array Value) (W:World),(callFunc UD args).run Tryz.prog W = .ok (.enter UD args) W))
 (HN:Bx (∀ W,Below w.heap.size w W→Calls Tryz.prog UD (#[zO ax ay az ((n:Int)+3),(idT ts t0:Int)]++UB) W (NodeSays Far sb UA ts (Tr.mkInner (n+3) (fun i=>ch i.val)) U W)))
 (IH:Bx (∀ (W:World) (Far':Nat→Prop) (us:List Tr) (i:Nat),i<8→U→ECtx W Far' pe ps pb sb (.func (.func UD) #[] UB) bf P→(∀ k,Far k→Far' k)→Good us→ts <+: us→(Tr.add (ch i) us).length≤4000000→(∀ k,Far' k→k<W.heap.size)→StoreIs W Far' sb UA us→Calls Tryz.prog 157 #[zO (ax+chX i h2) (ay+chY i h2) (az+chZ i h2) ((n:Int)+2),(idT us (zG9 t0 i):Int),.pointer (some ⟨pe,0,none⟩),.pointer (some ⟨ps,0,none⟩),.pointer (some ⟨pb,0,none⟩)] W (Grew Far' sb UA us (Tr.add (ch i) us) (ch i) W)))
 (hG:Good ts) (Od:(Tr.add (Tr.mkInner (n+3) (fun i=>ch i.val)) ts).length≤4000000) (IV : ∀ k,Far k→k<w.heap.size) (hS:StoreIs w Far sb UA ts) :
 Calls Tryz.prog 157 #[zO ax ay az ((n:Int)+3),(idT ts t0:Int),.pointer (some ⟨pe,0,none⟩),.pointer (some ⟨ps,0,none⟩),.pointer (some ⟨pb,0,none⟩)] w (Grew Far sb UA ts (Tr.add (Tr.mkInner (n+3) (fun i=>ch i.val)) ts) (Tr.mkInner (n+3) (fun i=>ch i.val)) w):=by
 have hd:(((n:Int)+3) == 2)=false:=by simp;omega
 have Lk:=Bx.mk (fun W i hi=>zCy (n+2) (by omega) ax ay az i hi (by omega) (by omega) (by omega) W)
 rw [show ((n+2+1:Nat):Int)=(n:Int)+3 by omega,show ((n+2:Nat):Int)=(n:Int)+2 by omega,←hh] at Lk
 have hlt:=(Tr.add_prefix (Tr.mkInner (n+3) (fun i:Fin 8=>ch i.val)) ts).length_le;have OJ:=Bx.mk (fun W (hs:StoreIs W Far sb UA ts)=>zHK Far sb UA ts t0 ht (by omega) W hs)
 have HG:=Bx.mk hG;have HW:=Bx.mk hW;have HL:=Bx.mk Od;have HF:=Bx.mk IV;have HS:=Bx.mk hS;have HT:=Bx.mk ht;clear hx hy hz hG Od IV hS hh hW hlt ht;have F1 : ∀ o,(w.alloc o).cell? ⟨pe,0,none⟩=some (.func (.func UD) #[] UB):=fun o=>(HC.o.ke.alloc o).cell 0 rfl;have kn:Bk (w.alloc (.cells #[ax,ay,az,((n:Int)+3:Int)] 39)) w.heap.size #[ax,ay,az,((n:Int)+3:Int)] 39:=Bk.new _ _ _;have c0:(w.alloc (.cells #[ax,ay,az,((n:Int)+3:Int)] 39)).cell? ⟨w.heap.size,0,none⟩=some (.int .i64 ax):=kn.cell 0 rfl;have c1:(w.alloc (.cells #[ax,ay,az,((n:Int)+3:Int)] 39)).cell? ⟨w.heap.size,1,none⟩=some (.int .i64 ay):=kn.cell 1 rfl;have c2:(w.alloc (.cells #[ax,ay,az,((n:Int)+3:Int)] 39)).cell? ⟨w.heap.size,2,none⟩=some (.int .i64 az):=kn.cell 2 rfl;have c3:(w.alloc (.cells #[ax,ay,az,((n:Int)+3:Int)] 39)).cell? ⟨w.heap.size,3,none⟩=some (.int .i64 ((n:Int)+3)):=kn.cell 3 rfl;go_enter Tryz.func157,Tryz.ntmps157;go_wp2_with fail;generalize hW:w.alloc _=W at *;have hB:=bl1 hW;clear hW F1 c0 c1 c2 c3;rw [HE.o _ _];refine (HN.o W hB).mono ?_;intro e1 w1 hs;have HB:=Bx.mk hB;have OF:=hs.keeps;have KN:=Bx.mk kn;clear hB kn;rcases hs.way with ⟨hf,rfl,S4⟩ | ⟨hf,⟨kn,rfl⟩,vs,v1,v2,v3,S4⟩ | ⟨hu,⟨i1,rfl⟩,hb⟩
 · have Hg:Bx (Grew Far sb UA ts (Tr.add (Tr.mkInner (n+3) (fun i=>ch i.val)) ts) (Tr.mkInner (n+3) (fun i=>ch i.val)) w (zLY (idT (Tr.add (Tr.mkInner (n+3) (fun i=>ch i.val)) ts) (Tr.mkInner (n+3) (fun i=>ch i.val)):Int) 0) w1):=⟨(Keeps.below HB.o).trans OF,nlt HB.o.size OF.size,.inl ⟨hf,rfl,S4⟩⟩;clear hs hf S4 OF;go_wp2_with fail
   go_ret2
   exact Hg.o
 · have Hg:Bx (Grew Far sb UA ts (Tr.add (Tr.mkInner (n+3) (fun i=>ch i.val)) ts) (Tr.mkInner (n+3) (fun i=>ch i.val)) w (zLY 0 14) w1):=⟨(Keeps.below HB.o).trans OF,nlt HB.o.size OF.size,.inr ⟨hf,rfl,vs,v1,v2,v3,S4⟩⟩;clear hs hf S4 OF v1 v2 v3;cases kn
   all_goals
    go_wp2_with fail
    go_ret2
    exact Hg.o
 · clear hs;have I1:=tr HB.o hb;have Tx:=KN.o.la hb;have IC:=HC.o.far HP.o (Keeps.below I1);have c3:=Tx.cell 3 rfl;have cr:=IC.kr.cell 0 rfl;have OE:=Bx.mk (OJ.o w1 (HS.o.la I1));have A3:=Bx.mk I1;have EA:=Bx.mk Tx;clear hb OF I1 Tx IC KN HB OJ;go_wp2_with fail;refine OE.o.mono ?_;rintro _ w2 ⟨rfl,hb⟩;have A4:=Bx.mk (tr A3.o hb);have EB:=Bx.mk (EA.o.la hb);have NJ:w.heap.size<w2.heap.size:=EB.o.lt;clear c3 cr OE hb A3 EA;go_wp2_with fail;generalize hW4:w2.alloc _=W4;have K6:Below w2.heap.size w2 W4:=by rw [←hW4];exact zB _ _
   have KR:Bk W4 w2.heap.size #[(idT ts (t0.kid 0):Int),(idT ts (t0.kid 1):Int),(idT ts (t0.kid 2):Int),(idT ts (t0.kid 3):Int),(idT ts (t0.kid 4):Int),(idT ts (t0.kid 5):Int),(idT ts (t0.kid 6):Int),(idT ts (t0.kid 7):Int)] 108:=by rw [←hW4];exact Bk.new _ _ _
   clear hW4
   have HI:Bx (EI Far sb UA ts t0 ch w2.heap.size ax ay az ((n:Int)+3) w 0 W4):=⟨by
    refine ⟨?_,.inl rfl,⟨_,KR,rfl,fun i hi=>?_⟩,EB.o.la K6,Keeps.below (tr A4.o K6),KR.lt⟩
    · exact (HS.o.widen (Far':=fun x=>Far x∨(w.heap.size≤x∧x≤w2.heap.size)) (fun k hk=>hk.imp id (fun h=>h.1))).la (tr A4.o K6)
    · have Nh:i<8:=hi
      show _=some (Value.int .i64 (if i<0 then _ else (idT ts (zG9 t0 i):Int)))
      rw [if_neg (Nat.not_lt_zero i),zHA t0 Nh];rcases i with _ | _ | _ | _ | _ | _ | _ | _ | i
      all_goals first | rfl | omega⟩
   clear KR K6 A4 EB;generalize w2.heap.size=gk at *
   go_loopw [52] (fun i wr => ∃ k:Nat,k≤8∧i = .int .i64 k∧Bx (EI Far sb UA ts t0 ch gk ax ay az ((n:Int)+3) w k wr)) (fun i _=>8 - (intOf i).toNat)
   case atStart=>exact ⟨0,Nat.zero_le _,rfl,HI⟩
   case round =>
    clear HI;obtain ⟨k,hk,rfl,hI⟩:=hrel;have Ly:=Bx.mk (HC.o.far HP.o hI.o.keeps);by_cases hlt:k<8
    · have S7:Tr.addK (fun i:Fin 8=>ch i.val) (k+1) ts=Tr.add (ch k) (Tr.addK (fun i:Fin 8=>ch i.val) k ts):=Tr.addK_succ _ hlt _;have Ic:Good (Tr.addK (fun i=>ch i.val) k ts):=zFo HG.o (fun i=>HW.o _) k hk;have OZ:=(zAn (ch:=fun i:Fin 8=>ch i.val) (ts:=ts) (show k+1≤8 by omega) nlr).length_le
      have Oa:=(zGo (d:=n+3) (ch:=fun i:Fin 8=>ch i.val) HG.o).length_le;have Qg:=Tr.addK_prefix (fun i:Fin 8=>ch i.val) k (by omega) ts
      have Ig:=Bx.mk (fun W (hb:Below wr.heap.size wr W)=>IH.o W (fun x=>Far x∨(w.heap.size≤x∧x≤gk)) (Tr.addK (fun i=>ch i.val) k ts) k hlt hu ((Ly.o.far HP.o (Keeps.below hb)).wider (fun k hk=>.inl hk)) (fun k hk=>.inl hk) Ic Qg (by have:=HL.o;rw [←S7];omega) (fun x hx=>by have h1:=hI.o.size;have h2:=hb.size;have h3:=hI.o.keeps.size;rcases hx with hx | hx;exact Nat.lt_of_lt_of_le (HF.o x hx) (Nat.le_trans h3 h2);omega) (hI.o.store.la hb))
      rw [←S7,zZ Qg (zHB HG.o HT.o k)] at Ig;replace S7:=Bx.mk S7;clear Ic OZ Oa Qg;have Ev:wr.cell? ⟨pb,0,none⟩=some (.func (.func 157) #[] #[.pointer (some ⟨pe,0,none⟩),.pointer (some ⟨ps,0,none⟩),.pointer (some ⟨pb,0,none⟩)]):=Ly.o.kb.cell 0 rfl;obtain ⟨cp0,cp1,cp2,Fc⟩:=hI.o.kp.c4;have LP:=hI.o.row.cell hlt;rw [if_neg (Nat.lt_irrefl k)] at LP;have b1:(0:Int)≤(k:Int):=by omega
      have b2:(k:Int)<8:=by omega
      go_wp2_with fail
      go_region_held3 (fun w'=>w'.cell? ⟨pb,0,none⟩=some (.func (.func 157) #[] #[.pointer (some ⟨pe,0,none⟩),.pointer (some ⟨ps,0,none⟩),.pointer (some ⟨pb,0,none⟩)])∧w'.cell? ⟨w.heap.size,0,none⟩=some (.int .i64 ax)∧w'.cell? ⟨w.heap.size,1,none⟩=some (.int .i64 ay)∧w'.cell? ⟨w.heap.size,2,none⟩=some (.int .i64 az)∧w'.cell? ⟨w.heap.size,3,none⟩=some (.int .i64 ((n:Int)+3))∧w'.cell? ⟨gk,k,none⟩=some (.int .i64 (idT ts (zG9 t0 k):Int)))
       (first | go_keep | (dsimp only;and_intros <;> assumption))
       (first
        | (go_at_call 157;refine (Ig.o _ I4).mono ?_;rintro e5 w5 hg;obtain ⟨id,er,rfl,RD⟩:=hg.ends;have OQ:=hg.keeps;have L9:=(Ly.o.far HP.o (Keeps.below I4)).far HP.o (OQ.less (fun k hk=>.inl hk));have Tz:=(hI.o.kp.la I4).keeps OQ (.inr ⟨Nat.le_refl _,by omega⟩);have Ex:=L9.kb.cell 0 rfl;have Eo:=Tz.cell 0 rfl;have Ep:=Tz.cell 1 rfl;have Er:=Tz.cell 2 rfl;have c53:=Tz.cell 3 rfl;have Es:=(zLh (hI.o.row.of_block (I4.block gk hI.o.size)) OQ (.inr ⟨by omega,Nat.le_refl _⟩)).cell hlt;rw [if_neg (Nat.lt_irrefl k)] at Es)
        | (go_at_call 69;refine (Lk.o _ k hlt).mono ?_;rintro e4 w4 ⟨rfl,Jz⟩;have I4:=(Below.refl wr.heap.size wr).drew.trans Jz;have Ew:=(Ly.o.far HP.o (Keeps.below I4)).kb.cell 0 rfl;have Ek:=(hI.o.kp.la I4).cell 0 rfl;have El:=(hI.o.kp.la I4).cell 1 rfl;have Em:=(hI.o.kp.la I4).cell 2 rfl;have c43:=(hI.o.kp.la I4).cell 3 rfl;have En:=(hI.o.row.of_block (I4.block gk hI.o.size)).cell hlt;rw [if_neg (Nat.lt_irrefl k)] at En))
      clear Ev cp0 cp1 cp2 Fc LP;have A7:=Bx.mk I4;have HK:=Bx.mk OQ;clear Ex Eo Ep Er c53 Es Ew Ek El Em c43 En I4 Jz L9 Tz OQ hg Ig;obtain ⟨way⟩:=RD;rcases way with ⟨rfl,hf,rfl,hs⟩ | ⟨rfl,rfl,Pp,us,SL,SM,SN,hs⟩
      · have If:=Bx.mk (zEi HF.o hlt NJ hI.o A7.o HK.o hf hs);have RM:=zLh (hI.o.row.of_block (A7.o.block gk hI.o.size)) HK.o (.inr ⟨by omega,nlr⟩)
        have LO:=RM.cell hlt;have Mu:=RM.frozen k;clear hs hf RM HK A7 hI;go_wp2_with fail
        go_roundw
        case rel=>exact ⟨k+1,by omega,by go_num,If⟩
        case measure=>simp [intOf];omega
      · have Hg:Bx (Grew Far sb UA ts (Tr.add (Tr.mkInner (n+3) (fun i=>ch i.val)) ts) (Tr.mkInner (n+3) (fun i=>ch i.val)) w (zLY 0 14) w5):=⟨by
         have QZ:=Tr.addK_prefix (fun i:Fin 8=>ch i.val) k (by omega) ts
         have Qb:Tr.addK (fun i:Fin 8=>ch i.val) k ts <+: Tr.addK (fun i:Fin 8=>ch i.val) (k+1) ts:=zAn (by omega) (by omega)
         have Qc:Tr.addK (fun i:Fin 8=>ch i.val) (k+1) ts <+: Tr.add (Tr.mkInner (n+3) (fun i=>ch i.val)) ts:=(zAn (by omega) nlr).trans (zGo HG.o)
         refine ⟨(hI.o.keeps.trans (Keeps.below A7.o)).trans (HK.o.less (fun k hk=>.inl hk)),nlt (nlt hI.o.keeps.size A7.o.size) HK.o.size,.inr ⟨?_,rfl,us,SL,QZ.trans SM,SN.trans Qc,hs.less (fun k hk=>.inl hk)⟩⟩;exact Tr.not_fits_mono (QZ.trans Qb) Qc (Tr.not_fits_later QZ Qb Pp)⟩
        clear hs Pp SL SM SN HK A7 hI;go_wp2_with fail
        go_ret2
        exact Hg.o
    · obtain rfl:k=8:=by omega
      have PJ : ∀ i:Fin 8,(fun i:Fin 8=>ch i.val) i∈Tr.addK (fun i=>ch i.val) 8 ts:=fun i=>Tr.addK_mem _ ts 8 nlr i i.isLt;have Ia:Good (Tr.addK (fun i=>ch i.val) 8 ts):=zFo HG.o (fun i=>HW.o _) 8 nlr;have Qd:=zGo (d:=n+3) (ch:=fun i:Fin 8=>ch i.val) HG.o;have OW:=Qd.length_le;have hin:=zEg wr (fun x=>Far x∨(w.heap.size≤x∧x≤gk)) sb UA (Tr.addK (fun i=>ch i.val) 8 ts) n hn ch PJ (fun i=>B2.o i) Ia (by have:=HL.o;omega) (fun x hx=>by have:=hI.o.size;rcases hx with hx | hx;exact nll (HF.o x hx) hI.o.keeps.size;omega) hI.o.store
      rw [zGi HG.o (fun i=>HW.o _)] at hin;have hin:=Bx.mk hin;clear PJ Ia OW;have hr:=hI.o.row;have d0:wr.cell? ⟨gk,0,none⟩=some (.int .i64 (idT (Tr.addK (fun i=>ch i.val) 8 ts) (ch 0):Int)):=by have:=hr.cell (i:=0) (by omega);simpa using this
      have d1:wr.cell? ⟨gk,1,none⟩=some (.int .i64 (idT (Tr.addK (fun i=>ch i.val) 8 ts) (ch 1):Int)):=by have:=hr.cell (i:=1) (by omega);simpa using this
      have d2:wr.cell? ⟨gk,2,none⟩=some (.int .i64 (idT (Tr.addK (fun i=>ch i.val) 8 ts) (ch 2):Int)):=by have:=hr.cell (i:=2) (by omega);simpa using this
      have d3:wr.cell? ⟨gk,3,none⟩=some (.int .i64 (idT (Tr.addK (fun i=>ch i.val) 8 ts) (ch 3):Int)):=by have:=hr.cell (i:=3) (by omega);simpa using this
      have d4:wr.cell? ⟨gk,4,none⟩=some (.int .i64 (idT (Tr.addK (fun i=>ch i.val) 8 ts) (ch 4):Int)):=by have:=hr.cell (i:=4) (by omega);simpa using this
      have d5:wr.cell? ⟨gk,5,none⟩=some (.int .i64 (idT (Tr.addK (fun i=>ch i.val) 8 ts) (ch 5):Int)):=by have:=hr.cell (i:=5) (by omega);simpa using this
      have d6:wr.cell? ⟨gk,6,none⟩=some (.int .i64 (idT (Tr.addK (fun i=>ch i.val) 8 ts) (ch 6):Int)):=by have:=hr.cell (i:=6) (by omega);simpa using this
      have d7:wr.cell? ⟨gk,7,none⟩=some (.int .i64 (idT (Tr.addK (fun i=>ch i.val) 8 ts) (ch 7):Int)):=by have:=hr.cell (i:=7) (by omega);simpa using this
      have cr:=Ly.o.kr.cell 0 rfl;have Fc:=hI.o.kp.cell 3 rfl;have Qd:=Bx.mk Qd;clear hr;go_wp2_with fail;refine hin.o.mono ?_;rintro e5 w5 hg
      have Hg:Bx (Grew Far sb UA ts (Tr.add (Tr.mkInner (n+3) (fun i=>ch i.val)) ts) (Tr.mkInner (n+3) (fun i=>ch i.val)) w e5 w5):=⟨by
       refine ⟨hI.o.keeps.trans (hg.keeps.less (fun k hk=>.inl hk)),nlt hI.o.keeps.size hg.size,?_⟩;have Qq:=Tr.addK_prefix (fun i:Fin 8=>ch i.val) 8 nlr ts;rcases hg.way with ⟨h1,h2,h3⟩ | ⟨h1,h2,us,h3,h4,h5,h6⟩
       · exact .inl ⟨Tr.fits_trans Qq Qd.o hI.o.fits h1,h2,h3.less (fun k hk=>.inl hk)⟩
       · exact .inr ⟨Tr.not_fits_later Qq Qd.o h1,h2,us,h3,Qq.trans h4,h5,h6.less (fun k hk=>.inl hk)⟩⟩
      obtain ⟨-,-,(⟨hf,rfl,hs⟩ | ⟨hf,rfl,us,hs⟩)⟩:=hg
      all_goals
       clear hf hs d0 d1 d2 d3 d4 d5 d6 d7;go_wp2_with fail
       go_ret2
       exact Hg.o
end
section
open Go.RowKit Go.Sort Go.Maps
open Oct
attribute [local go_sem ↓] Go.wp_at_zero Go.wp_at_succ
theorem zEf (w:World) (Far:Nat→Prop) (pe ps pb sb:Nat) (UD Ej:FuncId) (UB Ei:Array Value) (P:World→Prop) (bf:Value) (HC:Bx (ECtx w Far pe ps pb sb (.func (.func UD) #[] UB) bf P)) (HP:Bx (zAg Far P)) (ax ay az:Int) (UA:Int) (ts:List Tr) (t0:Tr) (M0 : ∀ d ch,t0 ≠ .node d ch) (hW:Tr.WF t0) (zs:List Int) (hz:zs.length=64) (LO:zs.all Pal.cell=true) (ht:t0∈ts) (U:Prop) (Hbf:Bx (U→bf = .func (.func Ej) #[] Ei))
 (HE:Bx (∀ (args:Array Value) (W:World),(callFunc UD args).run Tryz.prog W = .ok (.enter UD args) W))
 (HE2:Bx (U → ∀ (args:Array Value) (W:World),(callFunc Ej args).run Tryz.prog W = .ok (.enter Ej args) W))
 (HN:Bx (∀ W,Below w.heap.size w W→Calls Tryz.prog UD (#[zO ax ay az 2,(idT ts t0:Int)]++UB) W (NodeSays Far sb UA ts (Tr.mkBrick zs) U W)))
 (HR:Bx (U → ∀ W B v,w.heap.size≤B→P W→Own W B 3 .i64 v (zCE t0)→Calls Tryz.prog Ej (#[zO ax ay az 2,v]++Ei) W (fun e w'=>e = .returned (.tuple #[])∧Own w' B 3 .i64 v zs∧Keeps (fun k=>k<B) W w')))
 (hG:Good ts) (Od:(Tr.add (Tr.mkBrick zs) ts).length≤4000000) (IV : ∀ k,Far k→k<w.heap.size) (hS:StoreIs w Far sb UA ts) :
 Calls Tryz.prog 157 #[zO ax ay az 2,(idT ts t0:Int),.pointer (some ⟨pe,0,none⟩),.pointer (some ⟨ps,0,none⟩),.pointer (some ⟨pb,0,none⟩)] w (Grew Far sb UA ts (Tr.add (Tr.mkBrick zs) ts) (Tr.mkBrick zs) w):=by
 have hlt:=(Tr.add_prefix (Tr.mkBrick zs) ts).length_le;have LQ:=Bx.mk (fun W (hs:StoreIs W Far sb UA ts)=>zCF W Far sb UA ts t0 M0 ht hW hG (by omega) hs)
 have Kn:=Bx.mk (fun W (hb:w.heap.size≤W.heap.size) (hs:StoreIs W Far sb UA ts) a cap (h:Sl W .i64 a zs)=>zBp W Far sb UA ts a cap zs hz LO h hG (by omega) (fun k hk=>nll (IV k hk) hb) hs)
 have HF:=Bx.mk IV;have HS:=Bx.mk hS;have HZ:=Bx.mk hz;clear LO hG Od IV hS hW hlt ht M0 hz;have F1 : ∀ o,(w.alloc o).cell? ⟨pe,0,none⟩=some (.func (.func UD) #[] UB):=fun o=>(HC.o.ke.alloc o).cell 0 rfl;have kn:Bk (w.alloc (.cells #[ax,ay,az,(2:Int)] 39)) w.heap.size #[ax,ay,az,(2:Int)] 39:=Bk.new _ _ _;have c0:(w.alloc (.cells #[ax,ay,az,(2:Int)] 39)).cell? ⟨w.heap.size,0,none⟩=some (.int .i64 ax):=kn.cell 0 rfl;have c1:(w.alloc (.cells #[ax,ay,az,(2:Int)] 39)).cell? ⟨w.heap.size,1,none⟩=some (.int .i64 ay):=kn.cell 1 rfl;have c2:(w.alloc (.cells #[ax,ay,az,(2:Int)] 39)).cell? ⟨w.heap.size,2,none⟩=some (.int .i64 az):=kn.cell 2 rfl;have c3:(w.alloc (.cells #[ax,ay,az,(2:Int)] 39)).cell? ⟨w.heap.size,3,none⟩=some (.int .i64 2):=kn.cell 3 rfl;go_enter Tryz.func157,Tryz.ntmps157;go_wp2_with fail;generalize hW:w.alloc _=W at *;have hB:=bl1 hW;clear hW F1 c0 c1 c2 c3;rw [HE.o _ _];refine (HN.o W hB).mono ?_;intro e1 w1 hs;have HB:=Bx.mk hB;have OF:=hs.keeps;have KN:=Bx.mk kn;clear hB kn;rcases hs.way with ⟨hf,rfl,S4⟩ | ⟨hf,⟨kn,rfl⟩,vs,v1,v2,v3,S4⟩ | ⟨hu,⟨i1,rfl⟩,hb⟩
 · have Hg:Bx (Grew Far sb UA ts (Tr.add (Tr.mkBrick zs) ts) (Tr.mkBrick zs) w (zLY (idT (Tr.add (Tr.mkBrick zs) ts) (Tr.mkBrick zs):Int) 0) w1):=⟨(Keeps.below HB.o).trans OF,nlt HB.o.size OF.size,.inl ⟨hf,rfl,S4⟩⟩;clear hs hf S4 OF;go_wp2_with fail
   go_ret2
   exact Hg.o
 · have Hg:Bx (Grew Far sb UA ts (Tr.add (Tr.mkBrick zs) ts) (Tr.mkBrick zs) w (zLY 0 14) w1):=⟨(Keeps.below HB.o).trans OF,nlt HB.o.size OF.size,.inr ⟨hf,rfl,vs,v1,v2,v3,S4⟩⟩;clear hs hf S4 OF v1 v2 v3;cases kn
   all_goals
    go_wp2_with fail
    go_ret2
    exact Hg.o
 · clear hs;have I1:=tr HB.o hb;have Tx:=KN.o.la hb;have IC:=HC.o.far HP.o (Keeps.below I1);have c3:=Tx.cell 3 rfl;have cr:=IC.kr.cell 0 rfl;have OE:=Bx.mk (LQ.o w1 (HS.o.la I1));have RX:=Bx.mk (HS.o.la I1);have AM:=Bx.mk IC;have A3:=Bx.mk I1;have EA:=Bx.mk Tx;clear hb OF I1 Tx IC KN HB LQ;go_wp2_with fail;refine OE.o.mono ?_;rintro _ w2 ⟨v,rfl,hv,hb⟩;have A4:=Bx.mk (tr A3.o hb);have ID:=AM.o.far HP.o (Keeps.below hb);have Ty:=EA.o.la hb;have hR:=Bx.mk (HR.o hu w2 w1.heap.size v A3.o.size ID.hp hv);have MN:w2.cell? ⟨pe,1,none⟩=some (.func (.func Ej) #[] Ei):=by rw [←Hbf.o hu];exact ID.ke.cell 1 rfl
   obtain ⟨d0,d1,d2,d3⟩:=Ty.c4;have Hb:=Bx.mk hb;clear c3 cr OE hb ID Ty hv;go_wp2_with fail;rw [HE2.o hu _ _];refine hR.o.mono ?_;rintro _ w3 ⟨rfl,hv,hk⟩;have hK:=(Keeps.below (Far:=fun k=>k<w1.heap.size) Hb.o).trans hk;have S4:=RX.o.other hK (fun k _ hl=>hl);have OA:=hK.less (Far:=Far) (fun k hk=>nll (HF.o k hk) A3.o.size);have Fm:=(AM.o.far HP.o OA).kr.cell 0 rfl;obtain ⟨a,cap,rfl,Rn⟩:=hv.form;have Kl:=Bx.mk (Kn.o w3 (nlt A3.o.size hK.size) S4 a cap Rn);rw [HZ.o];have HK:=Bx.mk (((Keeps.below A3.o).trans OA:Keeps Far w w3));clear MN d0 d1 d2 d3 hv hk hK S4 OA Rn hR;go_wp2_with fail;refine Kl.o.mono ?_;rintro e5 w5 hg;have Hg:Bx (Grew Far sb UA ts (Tr.add (Tr.mkBrick zs) ts) (Tr.mkBrick zs) w e5 w5):=⟨⟨HK.o.trans hg.keeps,nlt HK.o.size hg.size,hg.way⟩⟩;obtain ⟨-,-,(⟨hf,rfl,hs⟩ | ⟨hf,rfl,us,hs⟩)⟩:=hg
   all_goals
    clear hf hs;go_wp2_with fail
    go_ret2
    exact Hg.o
end
section
open Go.RowKit Go.Sort Go.Maps
open Oct
theorem zJJ (f:Pt→Int) (n:Nat) (a:Pt):zJI (Tr.can f n a) ((n:Int)+3):=by
 cases n with
 | zero =>
   show zJI (Tr.mkBrick _) _
   unfold Tr.mkBrick;split
   · exact .inl ⟨_,rfl⟩
   · right;show (2:Int)=_;omega
 | succ n =>
   show zJI (Tr.mkInner (n+3) _) _
   unfold Tr.mkInner;split
   · rename_i h;obtain ⟨⟨c,hc⟩,-⟩:=h;exact .inl ⟨c,hc⟩
   · right;show ((n+3:Nat):Int)=_;omega
theorem zCG {l:List Int} (hl:l.length=64):zCE (Tr.mkBrick l)=l:=by
 unfold Tr.mkBrick;split
 · rename_i h
   show List.replicate 64 _=l
   rw [←hl];exact (List.eq_replicate_iff.2 ⟨rfl,h⟩).symm
 · rfl
theorem zBq (l:List Int) : ∀ d ch,Tr.mkBrick l ≠ .node d ch:=by
 intro d ch;unfold Tr.mkBrick;split <;> exact fun h=>by cases h
def zG (f:Pt→Int) (a:Pt):List Int:=(List.range 64).map fun k=>f (Tr.cellAt a k)
theorem zH (f:Pt→Int) (a:Pt):(zG f a).length=64:=by unfold zG;simp
theorem zB1 (f:Pt→Int) (a:Pt):Tr.can f 0 a=Tr.mkBrick (zG f a):=rfl
structure InT (N n:Nat) (a:Pt):Prop where
 le:n≤N
 al:Tr.Al n a
 x:0≤a.x∧a.x+2 ^ (n+2)≤2 ^ (N+2)
 y:0≤a.y∧a.y+2 ^ (n+2)≤2 ^ (N+2)
 z:0≤a.z∧a.z+2 ^ (n+2)≤2 ^ (N+2)
theorem InT.top (N:Nat):InT N N ⟨0,0,0⟩:=⟨Nat.le_refl _,zA3 N,by simp,by simp,by simp⟩
theorem InT.kid {N n:Nat} {a:Pt} (h:InT N (n+1) a) {i:Nat} (hi:i<8):InT N n (Tr.cor a n i):=by
 have hp:=Tr.pow_pos2 n;have Qb:=Tr.pow_succ2 n;obtain ⟨c1,c2,c3⟩:=zCg hi (m:=2 ^ (n+2)) (by omega)
 obtain ⟨h1,h2,h3,h4,h5⟩:=h;refine ⟨by omega,Tr.al_cor h2 i,?_,?_,?_⟩
 all_goals
  rw [zDR];simp only [];omega
theorem InT.bd {N n:Nat} {a:Pt} (hN:N≤12) (h:InT N n a):(0≤a.x∧a.x≤16384)∧(0≤a.y∧a.y≤16384)∧(0≤a.z∧a.z≤16384):=by
 have hp:=(zt (show N+2≤14 by omega)).2
 have Qb:=Tr.pow_pos2 n;obtain ⟨h1,h2,h3,h4,h5⟩:=h;omega
structure EditC (T0:List Tr) (F:Nat→Prop) (P:World→Prop) (sb:Nat) (UA:Int) (N:Nat) (f f':Pt→Int) (V U:Nat→Pt→Prop) (UD Ej:FuncId) (UB Ei:Array Value) (bf:Value):Prop where
 stays:zAg F P
 vtop:V N ⟨0,0,0⟩
 vkid : ∀ n a i,i<8→InT N (n+1) a→V (n+1) a→U (n+1) a→V n (Tr.cor a n i)
 en : ∀ (args:Array Value) (W:World),(callFunc UD args).run Tryz.prog W = .ok (.enter UD args) W
 eb : ∀ a,U 0 a→bf = .func (.func Ej) #[] Ei ∧ ∀ (args:Array Value) (W:World),(callFunc Ej args).run Tryz.prog W = .ok (.enter Ej args) W
 node : ∀ (W:World) (Far:Nat→Prop) (us:List Tr) (n:Nat) (a:Pt),(∀ k,F k→Far k)→T0 <+: us→InT N n a→V n a→P W→Good us→Tr.can f n a∈us→(Tr.add (Tr.can f' n a) us).length≤4000000→(∀ k,Far k→k<W.heap.size)→StoreIs W Far sb UA us →
  Calls Tryz.prog UD (#[zO a.x a.y a.z ((n:Int)+2),(idT us (Tr.can f n a):Int)]++UB) W (NodeSays Far sb UA us (Tr.can f' n a) (U n a) W)
 brick : ∀ (W:World) (B:Nat) (v:Value) (a:Pt),InT N 0 a→U 0 a→P W→(∀ k,F k→k<B)→Own W B 3 .i64 v (zG f a) →
  Calls Tryz.prog Ej (#[zO a.x a.y a.z 2,v]++Ei) W (fun e w'=>e = .returned (.tuple #[])∧Own w' B 3 .i64 v (zG f' a)∧Keeps (fun k=>k<B) W w')
theorem zEe {T0:List Tr} {F:Nat→Prop} {P:World→Prop} {sb:Nat} {UA:Int} {N:Nat} {f f':Pt→Int} {V U:Nat→Pt→Prop} {UD Ej:FuncId} {UB Ei:Array Value} {bf:Value} (hN:N≤12) (EC:EditC T0 F P sb UA N f f' V U UD Ej UB Ei bf) (hf : ∀ p,0≤f p∧f p≤255) (Me : ∀ p,0≤f' p∧f' p≤255) :
 ∀ (n:Nat) (w:World) (Far:Nat→Prop) (pe ps pb:Nat) (_HC:ECtx w Far pe ps pb sb (.func (.func UD) #[] UB) bf P) (_hFF : ∀ k,F k→Far k) (a:Pt) (_hin:InT N n a) (_hV:V n a) (ts:List Tr) (_h0:T0 <+: ts) (_hG:Good ts) (_ht:Tr.can f n a∈ts) (_hlen:(Tr.add (Tr.can f' n a) ts).length≤4000000) (_hFar : ∀ k,Far k→k<w.heap.size) (_hS:StoreIs w Far sb UA ts),
 Calls Tryz.prog 157 #[zO a.x a.y a.z ((n:Int)+2),(idT ts (Tr.can f n a):Int),.pointer (some ⟨pe,0,none⟩),.pointer (some ⟨ps,0,none⟩),.pointer (some ⟨pb,0,none⟩)] w (Grew Far sb UA ts (Tr.add (Tr.can f' n a) ts) (Tr.can f' n a) w):=by
 intro n
 induction n with
 | zero =>
   intro w Far pe ps pb HC IU a hin hV ts h0 hG ht Od IV hS;have HP:zAg Far P:=fun x y hk hp=>EC.stays x y (hk.less IU) hp;have hW:Tr.WF (Tr.can f 0 a):=zAF hf 0 a (by omega)
   have LO:(zG f' a).all Pal.cell=true:=by
    rw [List.all_eq_true];intro x hx;unfold zG at hx;obtain ⟨k,-,rfl⟩:=List.mem_map.1 hx;have:=Me (Tr.cellAt a k);rw [Pal.cell_eq];simpa using this
   have h:=zEf w Far pe ps pb sb UD Ej UB Ei P bf ⟨HC⟩ ⟨HP⟩ a.x a.y a.z UA ts (Tr.can f 0 a) (zBq _) hW (zG f' a) (zH _ _) LO ht (U 0 a) ⟨fun hu=>(EC.eb a hu).1⟩ ⟨EC.en⟩ ⟨fun hu=>(EC.eb a hu).2⟩
    ⟨fun W hb=>by
     have:=EC.node W Far ts 0 a IU h0 hin hV (HP _ _ (Keeps.below hb) HC.hp) hG ht Od (fun k hk=>nll (IV k hk) hb.size) (hS.la hb);rw [show (((0:Nat):Int)+2)=2 from rfl] at this;exact this⟩
    ⟨fun hu W B v hB hP hv=>by
     rw [zB1,zCG (zH _ _)] at hv;exact EC.brick W B v a hin hu hP (fun k hk=>nll (IV k (IU k hk)) hB) hv⟩
    hG Od IV hS
   rw [show (((0:Nat):Int)+2)=2 from rfl];exact h
 | succ n ih =>
   intro w Far pe ps pb HC IU a hin hV ts h0 hG ht Od IV hS;have HP:zAg Far P:=fun x y hk hp=>EC.stays x y (hk.less IU) hp;obtain ⟨b1,b2,b3⟩:=hin.bd hN;have OY:=hin.le;have e3:(((n+1:Nat):Int)+2)=(n:Int)+3:=by omega
   have hW : ∀ i,Tr.WF (Tr.can f' n (Tr.cor a n i)):=fun i=>zAF Me n _ (by omega)
   have h:=zEh w Far pe ps pb sb UD UB bf P ⟨HC⟩ ⟨HP⟩ n (by omega) a.x a.y a.z (2 ^ (n+2)) rfl b1 b2 b3 UA ts (Tr.can f (n+1) a) (fun i=>Tr.can f' n (Tr.cor a n i)) hW ⟨fun i=>zJJ f' n _⟩ ht (U (n+1) a) ⟨EC.en⟩
    ⟨fun W hb=>by
     have:=EC.node W Far ts (n+1) a IU h0 hin hV (HP _ _ (Keeps.below hb) HC.hp) hG ht Od (fun k hk=>nll (IV k hk) hb.size) (hS.la hb);rw [e3] at this;exact this⟩
    ⟨fun W Far' us i hi hU hC hFF' Ie Qq hlu hFu hSu=>by
     rw [zHA _ hi,zB3];have hk:=zB4 hG ht ⟨i,hi⟩;exact ih W Far' pe ps pb hC (fun k hk=>hFF' k (IU k hk)) (Tr.cor a n i) (hin.kid hi) (EC.vkid n a i hi hin hV hU) us (h0.trans Qq) Ie (Qq.subset hk) hlu hFu hSu⟩
    hG Od IV hS
   rw [e3];exact h
attribute [local go_sem ↓] Go.wp_at_zero Go.wp_at_succ
theorem zCh {T0:List Tr} {F:Nat→Prop} {P:World→Prop} {sb:Nat} {UA:Int} {N:Nat} {f f':Pt→Int} {V U:Nat→Pt→Prop} {UD Ej:FuncId} {UB Ei:Array Value} {bf:Value} (hN:N≤12) (EC:EditC T0 F P sb UA N f f' V U UD Ej UB Ei bf) (hf : ∀ p,0≤f p∧f p≤255) (Me : ∀ p,0≤f' p∧f' p≤255)
 (w:World) (Far:Nat→Prop) (IU : ∀ k,F k→Far k) (hP:P w) (ts:List Tr) (h0:T0 <+: ts) (hG:Good ts) (ht:Tr.can f N ⟨0,0,0⟩∈ts) (Od:(Tr.add (Tr.can f' N ⟨0,0,0⟩) ts).length≤4000000) (IV : ∀ k,Far k→k<w.heap.size) (hS:StoreIs w Far sb UA ts) :
 Calls Tryz.prog 112 #[.pointer (some ⟨sb,0,none⟩),(idT ts (Tr.can f N ⟨0,0,0⟩):Int),((N:Int)+2:Int),.agg #[.func (.func UD) #[] UB,bf]] w (Done Far sb UA ts (Tr.add (Tr.can f' N ⟨0,0,0⟩) ts) (Tr.can f' N ⟨0,0,0⟩) w):=by
 have NQ:=Bx.mk (zBh (Tr.can f' N ⟨0,0,0⟩) hG (zAF Me N ⟨0,0,0⟩ (by omega)))
 have Ol:=Bx.mk (fun W (h:StoreIs W Far sb UA ts)=>zHp Far sb UA ts W h);have Sv:=Bx.mk (fun W=>zOJ ((N:Int)+2) W);have Kq:=Bx.mk (fun W Far' pe ps pb HC h1 h2 h3=>zEe hN EC hf Me N W Far' pe ps pb HC h1 ⟨0,0,0⟩ (InT.top N) EC.vtop ts h0 hG ht Od h2 h3);have S4:zAg Far P:=fun x y hk hp=>EC.stays x y (hk.less IU) hp;have HP:=Bx.mk S4;have QY:=Bx.mk hP;have HL:=Bx.mk Od;have HF:=Bx.mk IV;have HFF:=Bx.mk IU;have HS:=Bx.mk hS;have HG:=Bx.mk hG;clear EC hf Me hG ht Od IV hS IU hP S4;generalize Tr.can f' N ⟨0,0,0⟩=T at *;generalize Tr.can f N ⟨0,0,0⟩=T0 at *;go_enter Tryz.func112,Tryz.ntmps112;go_upto_region 1 with fail;generalize hW:(w.alloc _).alloc _=W;have JE:W.heap.size=w.heap.size+1+1:=by rw [←hW];simp
 have hB:=bl2 hW;have kr:Bk W (w.heap.size) #[.pointer (some ⟨sb,0,none⟩)] 32:=bk1 hW;have ke:Bk W (w.heap.size+1) #[.func (.func UD) #[] UB,bf] 158:=bk0 hW;clear hW;have cr:=kr.cell 0 rfl;go_wp2_with fail;refine (Ol.o W (HS.o.la hB)).mono ?_;rintro _ _ ⟨rfl,rfl⟩;go_wp2_with fail;generalize hW5:W.alloc _=W5;have K3:Below W.heap.size W W5:=by rw [←hW5];exact zB _ _
 have Ra:W5.heap.size=W.heap.size+1:=by rw [←hW5];simp
 have kb:Bk W5 (w.heap.size+1+1) #[.func (.func 157) #[] #[.pointer (some ⟨w.heap.size+1,0,none⟩),.pointer (some ⟨w.heap.size,0,none⟩),.pointer (some ⟨w.heap.size+1+1,0,none⟩)]] 181:=by rw [←hW5];have h:=Bk.new W #[.func (.func 157) #[] #[.pointer (some ⟨w.heap.size+1,0,none⟩),.pointer (some ⟨w.heap.size,0,none⟩),.pointer (some ⟨w.heap.size+1+1,0,none⟩)]] 181;rw [JE] at h;exact h
 have A8:=Bx.mk (tr hB K3);have hpb:w.heap.size+1<w.heap.size+1+1:=by omega
 rw [JE] at Ra;have AP:Bx (ECtx W5 (fun x=>Far x∨(w.heap.size≤x∧x≤w.heap.size+1+1)) (w.heap.size+1) w.heap.size (w.heap.size+1+1) sb (.func (.func UD) #[] UB) bf P):=⟨⟨ke.la K3,kr.la K3,kb,.inr ⟨by omega,by omega⟩,.inr ⟨by omega,by omega⟩,.inr ⟨by omega,nlr⟩,HP.o _ _ (Keeps.below A8.o) QY.o⟩⟩
 have Bt:Bx (StoreIs W5 (fun x=>Far x∨(w.heap.size≤x∧x≤w.heap.size+1+1)) sb UA ts):=⟨(HS.o.widen (Far':=fun x=>Far x∨(w.heap.size≤x∧x≤w.heap.size+1+1)) (fun k hk=>hk.imp id (fun h=>h.1))).la A8.o⟩;have BX:Bx (zAg (fun x=>Far x∨(w.heap.size≤x∧x≤w.heap.size+1+1)) P):=⟨fun x y hk hp=>HP.o x y (hk.less (fun k hk=>.inl hk)) hp⟩;clear hW5 cr kr ke kb JE K3 hB;generalize w.heap.size+1+1=pb at *;have Ig:=Bx.mk (fun V (hb:Below W5.heap.size W5 V)=>Kq.o V (fun x=>Far x∨(w.heap.size≤x∧x≤pb)) (w.heap.size+1) w.heap.size pb (AP.o.far BX.o (Keeps.below hb)) (fun k hk=>.inl (HFF.o k hk)) (fun k hk=>by have h1:=hb.size;rcases hk with hk | hk;exact nll (HF.o k hk) (nlt A8.o.size h1);omega) (Bt.o.la hb))
 have Ev:=AP.o.kb.cell 0 rfl;go_wp2_with fail
 go_region_held3 (fun w'=>w'.cell? ⟨pb,0,none⟩=some (.func (.func 157) #[] #[.pointer (some ⟨w.heap.size+1,0,none⟩),.pointer (some ⟨w.heap.size,0,none⟩),.pointer (some ⟨pb,0,none⟩)]))
  (first | go_keep | (dsimp only;and_intros <;> assumption))
  (first
   | (go_at_call 157;refine (Ig.o _ I4).mono ?_;rintro e5 w5 hg;obtain ⟨id,er,rfl,RD⟩:=hg.ends;have OQ:=hg.keeps;have Ex:=((AP.o.far BX.o (Keeps.below I4)).far BX.o OQ).kb.cell 0 rfl)
   | (go_at_call 70;refine (Sv.o _).mono ?_;rintro e4 w4 ⟨rfl,Jz⟩;have I4:=(Below.refl W5.heap.size W5).drew.trans Jz;have Ew:=(AP.o.far BX.o (Keeps.below I4)).kb.cell 0 rfl))
 clear Ev;have OM:=Keeps.trans (Keeps.below I4) OQ;have IG:=AP.o.far BX.o OM;have cr:=IG.kr.cell 0 rfl;have HK:=Bx.mk (((Keeps.below A8.o).trans (OM.less (fun k hk=>.inl hk)):Keeps Far w w5));clear Ex Ew I4 Jz IG OQ hg Ig OM;obtain ⟨way⟩:=RD;rcases way with ⟨rfl,hf,rfl,hs⟩ | ⟨rfl,rfl,Pp,us,SL,SM,SN,hs⟩
 · have Hd:Bx (Done Far sb UA ts (T.add ts) T w (zLY (idT (T.add ts) T:Int) 0) w5):=⟨⟨HK.o,HK.o.size,.inl ⟨hf,rfl,hs.less (fun k hk=>.inl hk)⟩⟩⟩;clear hs hf cr;go_wp2_with fail
   go_ret2
   exact Hd.o
 · have hl:=SN.length_le;have SI:=Bx.mk (zNj w5 Far sb UA ts us SM (fun vs h1 h2=>NQ.o vs h1 (h2.trans SN)) (by have:=HL.o;omega) (hs.less (fun k hk=>.inl hk)))
   have Mq:=Bx.mk Pp;clear hs Pp SL SM SN hl;go_wp2_with fail;refine SI.o.mono ?_;rintro e w6 ⟨rfl,RY,O6⟩;have hd:Bx (Done Far sb UA ts (T.add ts) T w (zLY 0 14) w6):=⟨⟨HK.o.trans O6,nlt HK.o.size O6.size,.inr ⟨Mq.o,rfl,RY⟩⟩⟩;clear RY O6 SI Mq;go_wp2_with fail
   go_ret2
   exact hd.o
end
section
open Go.RowKit Go.Sort Go.Maps
open Oct
theorem zBN (n:Nat) (hn:n≤14) (ax ay az m:Int) (hm:m=2 ^ n) (hx : -100000≤ax∧ax≤100000) (hy : -100000≤ay∧ay≤100000) (hz : -100000≤az∧az≤100000) (pg:Nat) (a b c d e f i:Int) (w:World) (kb:Bk w pg #[a,b,c,d,e,f] 25) :
 Calls Tryz.prog 156 #[zO ax ay az (n:Int),i,.pointer (some ⟨pg,0,none⟩)] w fun e' w'=>e'=zLZ i (zS (zn ⟨⟨ax,ay,az⟩,⟨ax+m,ay+m,az+m⟩⟩ ⟨⟨a,b,c⟩,⟨d,e,f⟩⟩)) 0∧Below w.heap.size w w':=by
 have Ki:=Bx.mk (fun W=>zBo n hn ax ay az m hm hx hy hz W);have PP:=Bx.mk (fun W=>zIN ax ay az (ax+m) (ay+m) (az+m) a b c d e f W);generalize hM:zn ⟨⟨ax,ay,az⟩,⟨ax+m,ay+m,az+m⟩⟩ ⟨⟨a,b,c⟩,⟨d,e,f⟩⟩=M at *;have MX:=Bx.mk (fun W=>zU M.lo.x M.lo.y M.lo.z M.hi.x M.hi.y M.hi.z W);rw [show (⟨⟨M.lo.x,M.lo.y,M.lo.z⟩,⟨M.hi.x,M.hi.y,M.hi.z⟩⟩:Box)=M from rfl] at MX;clear hM hm hx hy hz;go_enter Tryz.func156,Tryz.ntmps156;go_wp2_with fail;generalize hW:w.alloc _=W;have JE:=sz1 hW;have hB:=bl1 hW;have kp:Bk W (w.heap.size) #[ax,ay,az,(n:Int)] 39:=bk0 hW;replace kb:=kb.la hB;clear hW;obtain ⟨cp0,cp1,cp2,Fc⟩:=kp.r4;obtain ⟨Ev,cb1,cb2,cb3,Ew,Ex⟩:=kb.r6;have q0:=Bx.mk fun dk osk=>rq (Ki.o (grow (redrawn W dk) osk));have q1:=Bx.mk fun dk osk=>rq (PP.o (grow (redrawn W dk) osk));have q2:=Bx.mk fun dk osk=>rq (MX.o (grow (redrawn W dk) osk));refine wg ?_
 repeat (first | go_big_quiet_step (with_reducible first | exact q0.o _ _ | exact q1.o _ _ | exact q2.o _ _) | quiet_step (with_reducible first | exact q0.o _ _ | exact q1.o _ _ | exact q2.o _ _))
 refine wq ?_;rintro _ ⟨⟨dq,osq⟩,rfl⟩;have hb:=bq W dq osq;clear cp0 cp1 cp2 Fc Ev cb1 cb2 cb3 Ew Ex;clear q0 q1 q2;replace hB:=tr hB hb;clear hb kp kb JE;generalize grow (redrawn W dq) osq=W1 at *;go_wp2_with fail
 go_ret3
 exact ⟨rfl,hB⟩
structure FillP (gb gs gc gk gd sb:Nat) (a b c d e f cell:Int) (w:World):Prop where
 kb:Bk w gb #[a,b,c,d,e,f] 25
 ks:Bk w gs #[.pointer (some ⟨sb,0,none⟩)] 32
 kc:Bk w gc #[cell] 3
 kk:Bk w gk #[.func (.func 156) #[] #[.pointer (some ⟨gd,0,none⟩)]] 152
 kd:Bk w gd #[a,b,c,d,e,f] 25
abbrev FillF (gb gs gc gk gd:Nat):Nat→Prop:=fun x=>x=gb∨x=gs∨x=gc∨x=gk∨x=gd
theorem FillP.stays (gb gs gc gk gd sb:Nat) (a b c d e f cell:Int):zAg (FillF gb gs gc gk gd) (FillP gb gs gc gk gd sb a b c d e f cell):=fun x y hk h =>
 ⟨h.kb.keeps hk (.inl rfl),h.ks.keeps hk (.inr (.inl rfl)),h.kc.keeps hk (.inr (.inr (.inl rfl))),h.kk.keeps hk (.inr (.inr (.inr (.inl rfl)))),h.kd.keeps hk (.inr (.inr (.inr (.inr rfl))))⟩
theorem FillP.la {gb gs gc gk gd sb:Nat} {a b c d e f cell:Int} {w w':World} (h:FillP gb gs gc gk gd sb a b c d e f cell w) (hb:Below w.heap.size w w'):FillP gb gs gc gk gd sb a b c d e f cell w':=FillP.stays gb gs gc gk gd sb a b c d e f cell _ _ (Keeps.below hb) h
theorem zE7 (n:Nat) (hn:n≤14) (ax ay az m:Int) (hm:m=2 ^ n) (hx : -100000≤ax∧ax≤100000) (hy : -100000≤ay∧ay≤100000) (hz : -100000≤az∧az≤100000) (gb gs gc gk gd sb:Nat) (a b c d e f cell i:Int) (w:World) (HP:FillP gb gs gc gk gd sb a b c d e f cell w) (Lh:zL ⟨⟨a,b,c⟩,⟨d,e,f⟩⟩ ⟨⟨ax,ay,az⟩,⟨ax+m,ay+m,az+m⟩⟩=true) (Far:Nat→Prop) (UA:Int) (ts:List Tr) (hc:0≤cell∧cell≤255) (hG:Good ts) (Od:ts.length≤1000000000000) (IV : ∀ k,Far k→k<w.heap.size) (hS:StoreIs w Far sb UA ts) :
 Calls Tryz.prog 113 #[zO ax ay az (n:Int),i,.pointer (some ⟨gb,0,none⟩),.pointer (some ⟨gs,0,none⟩),.pointer (some ⟨gc,0,none⟩),.pointer (some ⟨gk,0,none⟩)] w fun e' w' => ∃ i er:Int,e'=zLZ i true er∧Keeps Far w w'∧Ended Far sb UA ts (Tr.add (.uni cell) ts) (.uni cell) i er w':=by
 have Ki:=Bx.mk (fun W=>zBo n hn ax ay az m hm hx hy hz W);have Le:=Bx.mk (fun W=>zDF a b c d e f ax ay az (ax+m) (ay+m) (az+m) W);rw [Lh] at Le;have SP:=Bx.mk (fun W (hb:Below w.heap.size w W)=>zNx W Far sb UA ts cell hc hG Od (fun k hk=>nll (IV k hk) hb.size) (hS.la hb));clear Lh hm hx hy hz hG Od IV hS;go_enter Tryz.func113,Tryz.ntmps113;go_wp2_with fail;generalize hW:w.alloc _=W;have hB:=bl1 hW;have kp:Bk W (w.heap.size) #[ax,ay,az,(n:Int)] 39:=bk0 hW;have kb:=HP.kb.la hB;clear hW;obtain ⟨cp0,cp1,cp2,Fc⟩:=kp.r4;obtain ⟨Ev,cb1,cb2,cb3,Ew,Ex⟩:=kb.r6;have q0:=Bx.mk fun dk osk=>rq (Ki.o (grow (redrawn W dk) osk));have q1:=Bx.mk fun dk osk=>rq (Le.o (grow (redrawn W dk) osk));refine wg ?_
 repeat (first | go_big_quiet_step (with_reducible first | exact q0.o _ _ | exact q1.o _ _) | quiet_step (with_reducible first | exact q0.o _ _ | exact q1.o _ _))
 refine wq ?_;rintro _ ⟨⟨dq,osq⟩,rfl⟩;have hb:=bq W dq osq;clear cp0 cp1 cp2 Fc Ev cb1 cb2 cb3 Ew Ex;clear q0 q1;replace hB:=tr hB hb;replace kp:=kp.la hb;clear hb kb Le Ki;generalize grow (redrawn W dq) osq=W1 at *;have BY:=HP.la hB;have cs:=BY.ks.cell 0 rfl;have cc:=BY.kc.cell 0 rfl;go_wp2_with fail;refine (SP.o _ hB).mono ?_;rintro e2 w2 hg;obtain ⟨j,er,rfl,MY⟩:=hg.ends;have hk:=Bx.mk (((Keeps.below hB).trans hg.keeps:Keeps Far w w2));have Cp:=Bx.mk MY;clear cs cc hg MY;go_wp2_with fail
 go_ret3
 exact ⟨_,_,rfl,hk.o,Cp.o⟩
theorem zE8 (n:Nat) (hn:n≤14) (ax ay az m:Int) (hm:m=2 ^ n) (hx : -100000≤ax∧ax≤100000) (hy : -100000≤ay∧ay≤100000) (hz : -100000≤az∧az≤100000) (gb gs gc gk gd sb:Nat) (a b c d e f cell i:Int) (w:World) (HP:FillP gb gs gc gk gd sb a b c d e f cell w) (Lh:zL ⟨⟨a,b,c⟩,⟨d,e,f⟩⟩ ⟨⟨ax,ay,az⟩,⟨ax+m,ay+m,az+m⟩⟩=false):Calls Tryz.prog 113 #[zO ax ay az (n:Int),i,.pointer (some ⟨gb,0,none⟩),.pointer (some ⟨gs,0,none⟩),.pointer (some ⟨gc,0,none⟩),.pointer (some ⟨gk,0,none⟩)] w fun e' w'=>e'=zLZ i (zS (zn ⟨⟨ax,ay,az⟩,⟨ax+m,ay+m,az+m⟩⟩ ⟨⟨a,b,c⟩,⟨d,e,f⟩⟩)) 0∧Below w.heap.size w w':=by
 have Ki:=Bx.mk (fun W=>zBo n hn ax ay az m hm hx hy hz W);have Le:=Bx.mk (fun W=>zDF a b c d e f ax ay az (ax+m) (ay+m) (az+m) W);rw [Lh] at Le;have Jh:=Bx.mk (fun W (hb:Below w.heap.size w W)=>zBN n hn ax ay az m hm hx hy hz gd a b c d e f i W (HP.la hb).kd);generalize zS (zn ⟨⟨ax,ay,az⟩,⟨ax+m,ay+m,az+m⟩⟩ ⟨⟨a,b,c⟩,⟨d,e,f⟩⟩)=z at *;clear Lh hm hx hy hz;go_enter Tryz.func113,Tryz.ntmps113;go_wp2_with fail;generalize hW:w.alloc _=W;have hB:=bl1 hW;have kp:Bk W (w.heap.size) #[ax,ay,az,(n:Int)] 39:=bk0 hW;have kb:=HP.kb.la hB;clear hW;obtain ⟨cp0,cp1,cp2,Fc⟩:=kp.r4;obtain ⟨Ev,cb1,cb2,cb3,Ew,Ex⟩:=kb.r6;have q0:=Bx.mk fun dk osk=>rq (Ki.o (grow (redrawn W dk) osk));have q1:=Bx.mk fun dk osk=>rq (Le.o (grow (redrawn W dk) osk));refine wg ?_
 repeat (first | go_big_quiet_step (with_reducible first | exact q0.o _ _ | exact q1.o _ _) | quiet_step (with_reducible first | exact q0.o _ _ | exact q1.o _ _))
 refine wq ?_;rintro _ ⟨⟨dq,osq⟩,rfl⟩;have hb:=bq W dq osq;clear cp0 cp1 cp2 Fc Ev cb1 cb2 cb3 Ew Ex;clear q0 q1;replace hB:=tr hB hb;replace kp:=kp.la hb;clear hb kb Le Ki;generalize grow (redrawn W dq) osq=W1 at *;have BY:=HP.la hB;have ck:W1.cell? ⟨gk,0,none⟩=some (.func (.func 156) #[] #[.pointer (some ⟨gd,0,none⟩)]):=BY.kk.cell 0 rfl;obtain ⟨cp0,cp1,cp2,Fc⟩:=kp.c4;go_wp2_with fail;refine (Jh.o _ hB).mono ?_;rintro e2 w2 ⟨rfl,hb⟩;have I2:=Bx.mk (tr hB hb);clear ck cp0 cp1 cp2 Fc hb Jh;go_wp2_with fail
 go_ret3
 exact ⟨rfl,I2.o⟩
theorem zB8 {c:Int} : ∀ (n:Nat) (a:Pt) (f:Pt→Int),Tr.Al n a→(∀ p,Tr.InC n a p→f p=c)→Tr.can f n a = .uni c
 | 0, a, f, ha, h => by
   unfold Tr.can Tr.mkBrick
   have key : ∀ x∈(List.range 64).map fun k=>f (Tr.cellAt a k),x=c:=by
    intro x hx;obtain ⟨k,hk,rfl⟩:=List.mem_map.1 hx;exact h _ (Tr.inC_cell ha (List.mem_range.1 hk) rfl).1
   have h0:((List.range 64).map fun k=>f (Tr.cellAt a k)).headD 0=c:=by
    rw [show List.range 64=0::(List.range 63).map Nat.succ from List.range_succ_eq_map];simp only [List.map_cons,List.headD_cons];exact key _ (List.mem_map.2 ⟨0,by simp,rfl⟩)
   rw [h0,if_pos key]
 | n + 1, a, f, ha, h => by
   have key : ∀ i:Fin 8,Tr.can f n (Tr.cor a n i.val) = .uni c:=fun i=>zB8 n _ f (Tr.al_cor ha _) fun p hp=>h p (Tr.inC_other ha hp).2;unfold Tr.can Tr.mkInner;rw [if_pos ⟨⟨c,key 0⟩,fun i=>(key i).trans (key 0).symm⟩];exact key 0
theorem zDH {b1 b2:Box} (h:zL b1 b2=true) {p:Pt} (hp:inB p b2=true):inB p b1=true:=by
 unfold zL at h;rw [zc hp,Bool.false_or,decide_eq_true_eq] at h;unfold zn at h;split at h
 · rw [←h] at hp;exfalso;have:=zb.1 hp;simp only [Box.zero] at this;omega
 · rw [←h] at hp;exact (zGZ.1 hp).1
abbrev zM (n:Nat) (a:Pt):Box:=⟨⟨a.x,a.y,a.z⟩,⟨a.x+2 ^ (n+2),a.y+2 ^ (n+2),a.z+2 ^ (n+2)⟩⟩
theorem InT.cube {N n:Nat} {a:Pt} (h:InT N n a) {p:Pt} (hp:Tr.InC n a p):inB p (zM n a)=true:=zGU rfl (show Tr.Al n ⟨a.x,a.y,a.z⟩ from h.al) hp
theorem InT.whole {N n:Nat} {a:Pt} (h:InT N n a) {p:Pt} (hp:Tr.InC n a p):inB p (zOI N)=true:=by
 have h1:=zb.1 (h.cube hp);simp only [] at h1;obtain ⟨-,-,x,y,z⟩:=h;exact zb.2 ⟨by show (0:Int)≤_;omega,by show _<(2:Int) ^ (N+2);omega,by show (0:Int)≤_;omega,by show _<(2:Int) ^ (N+2);omega,by show (0:Int)≤_;omega,by show _<(2:Int) ^ (N+2);omega⟩
theorem zFN {N n:Nat} {a:Pt} (h:InT N n a) {b:Box} {c:Int} {f:Pt→Int} (hc:zL b (zM n a)=true):Tr.can (zE9 N b c f) n a = .uni c :=
 zB8 n a _ h.al fun p hp=>by
  unfold zE9;rw [zDH hc (h.cube hp),h.whole hp];rfl
theorem zIR {b1 b2:Box} (h:zS (zn b1 b2)=true) {p:Pt} (h1:inB p b1=true):inB p b2=false:=by
 cases h2:inB p b2 with
 | false=>rfl
 | true=>rw [zc (zGa h1 h2).1] at h;cases h
theorem zFR {N n:Nat} {a:Pt} (h:InT N n a) {b:Box} {c:Int} {f:Pt→Int} (hc:zS (zn (zM n a) b)=true):Tr.can (zE9 N b c f) n a=Tr.can f n a :=
 Tr.can_congr n a h.al fun p hp=>by
  unfold zE9;rw [zIR hc (h.cube hp)];rfl
theorem zKK {N n:Nat} {a:Pt} (h:InT N n a) {b:Box} {xs:List Int} {f:Pt→Int} (hc:zS (zn (zM n a) b)=true):Tr.can (zr N b xs f) n a=Tr.can f n a :=
 Tr.can_congr n a h.al fun p hp=>by
  unfold zr;rw [zIR hc (h.cube hp)];rfl
theorem zL8 {Far:Nat→Prop} {sb:Nat} {UA:Int} {us:List Tr} {t:Tr} {U:Prop} {w w':World} (ht:t∈us) (hS:StoreIs w Far sb UA us) (hb:Below w.heap.size w w'):NodeSays Far sb UA us t U w (zLZ (idT us t:Int) true 0) w':=by
 refine ⟨Keeps.below hb,.inl ?_⟩;rw [Tr.add_same _ _ ht];exact ⟨.inl rfl,rfl,hS.la hb⟩
theorem zL9 {Far:Nat→Prop} {sb:Nat} {UA:Int} {us:List Tr} {t:Tr} {U:Prop} {w w':World} {i er:Int} (hk:Keeps Far w w') (h:Ended Far sb UA us (Tr.add t us) t i er w'):NodeSays Far sb UA us t U w (zLZ i true er) w':=by
 refine ⟨hk,?_⟩;obtain ⟨way⟩:=h;rcases way with ⟨rfl,h1,rfl,h2⟩ | ⟨rfl,rfl,h1,Uz,h2,h3,h4,h5⟩
 · exact .inl ⟨h1,rfl,h2⟩
 · exact .inr (.inl ⟨h1,⟨true,rfl⟩,Uz,h2,h3,h4,h5⟩)
theorem InT.far {N n:Nat} {a:Pt} (hN:N≤12) (h:InT N n a):(-100000≤a.x∧a.x≤100000)∧(-100000≤a.y∧a.y≤100000)∧(-100000≤a.z∧a.z≤100000):=by
 have:=h.bd hN;omega
theorem zFQ {N:Nat} (hN:N≤12) (gb gs gc gk gd sb:Nat) (a b c d e f cell:Int) (hc:0≤cell∧cell≤255) (UA:Int) (g:Pt→Int) (W:World) (Far:Nat→Prop) (us:List Tr) (n:Nat) (p:Pt) (hin:InT N n p) (hP:FillP gb gs gc gk gd sb a b c d e f cell W) (hG:Good us) (ht:Tr.can g n p∈us) (Od:(Tr.add (Tr.can (zE9 N ⟨⟨a,b,c⟩,⟨d,e,f⟩⟩ cell g) n p) us).length≤4000000) (IV : ∀ k,Far k→k<W.heap.size) (hS:StoreIs W Far sb UA us) :
 Calls Tryz.prog 113 #[zO p.x p.y p.z ((n:Int)+2),(idT us (Tr.can g n p):Int),.pointer (some ⟨gb,0,none⟩),.pointer (some ⟨gs,0,none⟩),.pointer (some ⟨gc,0,none⟩),.pointer (some ⟨gk,0,none⟩)] W (NodeSays Far sb UA us (Tr.can (zE9 N ⟨⟨a,b,c⟩,⟨d,e,f⟩⟩ cell g) n p) True W):=by
 obtain ⟨b1,b2,b3⟩:=hin.far hN;have OY:=hin.le;have hl:=(Tr.add_prefix (Tr.can (zE9 N ⟨⟨a,b,c⟩,⟨d,e,f⟩⟩ cell g) n p) us).length_le;have e2:((n+2:Nat):Int)=(n:Int)+2:=by omega
 cases Lh:zL ⟨⟨a,b,c⟩,⟨d,e,f⟩⟩ (zM n p) with
 | true =>
   have h:=zE7 (n+2) (by omega) p.x p.y p.z _ rfl b1 b2 b3 gb gs gc gk gd sb a b c d e f cell (idT us (Tr.can g n p):Int) W hP Lh Far UA us hc hG (by omega) IV hS
   rw [e2] at h;refine h.mono ?_;rintro e' w' ⟨i,er,rfl,hk,MY⟩;rw [zFN hin Lh];exact zL9 hk MY
 | false =>
   have h:=zE8 (n+2) (by omega) p.x p.y p.z _ rfl b1 b2 b3 gb gs gc gk gd sb a b c d e f cell (idT us (Tr.can g n p):Int) W hP Lh
   rw [e2] at h;refine h.mono ?_;rintro e' w' ⟨rfl,hb⟩;cases MV:zS (zn (zM n p) ⟨⟨a,b,c⟩,⟨d,e,f⟩⟩) with
   | true =>
     rw [zFR hin MV];exact zL8 ht hS hb
   | false=>exact ⟨Keeps.below hb,.inr (.inr ⟨trivial,⟨_,rfl⟩,hb⟩)⟩
theorem zKJ {N:Nat} (hN:N≤12) (gd sb:Nat) (a b c d e f:Int) (xs:List Int) (UA:Int) (g:Pt→Int) (W:World) (Far:Nat→Prop) (us:List Tr) (n:Nat) (p:Pt) (hin:InT N n p) (hP:Bk W gd #[a,b,c,d,e,f] 25) (ht:Tr.can g n p∈us) (hS:StoreIs W Far sb UA us) :
 Calls Tryz.prog 156 #[zO p.x p.y p.z ((n:Int)+2),(idT us (Tr.can g n p):Int),.pointer (some ⟨gd,0,none⟩)] W (NodeSays Far sb UA us (Tr.can (zr N ⟨⟨a,b,c⟩,⟨d,e,f⟩⟩ xs g) n p) True W):=by
 obtain ⟨b1,b2,b3⟩:=hin.far hN;have OY:=hin.le;have e2:((n+2:Nat):Int)=(n:Int)+2:=by omega
 have h:=zBN (n+2) (by omega) p.x p.y p.z _ rfl b1 b2 b3 gd a b c d e f (idT us (Tr.can g n p):Int) W hP
 rw [e2] at h;refine h.mono ?_;rintro e' w' ⟨rfl,hb⟩;cases MV:zS (zn (zM n p) ⟨⟨a,b,c⟩,⟨d,e,f⟩⟩) with
 | true =>
   rw [zKK hin MV];exact zL8 ht hS hb
 | false=>exact ⟨Keeps.below hb,.inr (.inr ⟨trivial,⟨_,rfl⟩,hb⟩)⟩
end
section
open Go.RowKit Go.Sort
theorem zLt (GT:FuncId) (Eu:Array Value) (g:Nat) (a b c d e f a2 b2 c2 d2 e2 f2 la lb lc ld le lf:Int) (cs:Value) (hS:Small ⟨⟨a,b,c⟩,⟨d,e,f⟩⟩ 1048575)
 (hM:zn ⟨⟨a,b,c⟩,⟨d,e,f⟩⟩ ⟨⟨a2,b2,c2⟩,⟨d2,e2,f2⟩⟩=⟨⟨la,lb,lc⟩,⟨ld,le,lf⟩⟩) (KK : -1048576≤la ∧ -1048576≤lb ∧ -1048576≤lc∧ld≤1048576∧le≤1048576∧lf≤1048576∧la≤ld∧lb≤le∧lc≤lf)
 (HE:Bx (∀ (args:Array Value) (W:World),(callFunc GT args).run Tryz.prog W = .ok (.enter GT args) W)) (I:Int→Int→World→Prop) (w:World) (hg:g<w.heap.size) (hI : ∀ z y W W',I z y W→Below W.heap.size W W'→I z y W') (h0:I lc lb w)
 (LB : ∀ z y W,lc≤z→z<lf→lb≤y→y<le→I z y W→w.grownBy W (some g)→Calls Tryz.prog GT (#[.int .i64 (ze ⟨⟨a,b,c⟩,⟨d,e,f⟩⟩ ⟨la,y,z⟩),.agg #[la,y,z],.int .i64 (ld - la)]++Eu) W fun e' W'=>e' = .returned (.tuple #[])∧I z (y+1) W'∧W.grownBy W' (some g))
 (Po : ∀ z W,lc≤z→z<lf→I z le W→I (z+1) lb W) :
 Calls Tryz.prog 162 #[.agg #[a,b,c,d,e,f,cs],.agg #[a2,b2,c2,d2,e2,f2],.func (.func GT) #[] Eu] w fun e' w'=>e' = .returned (.tuple #[])∧I lf lb w'∧w.grownBy w' (some g):=by
 have HI:=Bx.mk hI;have H0:=Bx.mk h0;have Hc:=Bx.mk LB;have Hn:=Bx.mk Po;have PP:=Bx.mk fun W=>zIN a b c d e f a2 b2 c2 d2 e2 f2 W;rw [hM] at PP;have Nu:=Bx.mk fun y z W=>zGe a b c d e f la y z hS W;clear hI h0 LB Po hM hS;go_enter Tryz.func162,Tryz.ntmps162;go_wp2_with fail;generalize hW:(w.alloc _).alloc _=W;have JE:=sz2 hW;have hB:=bl2 hW;have kg:Bk W (w.heap.size) #[a,b,c,d,e,f,cs] 28:=bk1 hW;have kb:Bk W (w.heap.size+1) #[a2,b2,c2,d2,e2,f2] 25:=bk0 hW;clear hW;obtain ⟨F4,F5,F6,F7,F8,F9,FA⟩:=kg.c7;obtain ⟨Ev,cb1,cb2,cb3,Ew,Ex⟩:=kb.c6;go_wp2_with fail;refine (PP.o _).mono ?_;rintro e' w1 ⟨rfl,hb⟩;clear PP;clear F4 F5 F6 F7 F8 F9 FA Ev cb1 cb2 cb3 Ew Ex;replace hB:=tr hB hb;replace kg:=kg.la hb;replace kb:=kb.la hb;replace JE:=nlt JE hb.size;clear hb;obtain ⟨gm,NL⟩ : ∃ gm,gm=w1.heap.size:=⟨_,rfl⟩;clear kb;have b1:=KK.1;go_wp2_with fail;generalize hW2:w1.alloc _=W2;have km:Bk W2 gm #[la,lb,lc,ld,le,lf] 25:=by rw [NL,←hW2];exact zC _ _ _ rfl
 have hb:=bl1 hW2;rw [←NL];have NH:g<gm:=by omega
 replace hB:=tr hB hb;replace kg:=kg.la hb;have hG:w.grownBy W2 (some g):=⟨hB.os,hB.tape,hB.output,hB.size,fun k hk _=>hB.block k hk⟩;have hJ:=HI.o _ _ _ _ H0.o hB;clear hW2 hb hB H0 JE NL;have CU:=Bx.mk KK;clear KK b1
 go_loopw [7] (fun i wr => ∃ z:Int,lc≤z∧z≤lf∧i = .int .i64 z∧Bk wr w.heap.size #[a,b,c,d,e,f,cs] 28∧Bk wr gm #[la,lb,lc,ld,le,lf] 25∧I z lb wr∧w.grownBy wr (some g)) (fun i _=>(lf - intOf i).toNat)
 case atStart=>exact ⟨lc,by omega,CU.o.2.2.2.2.2.2.2.2,rfl,kg,km,hJ,hG⟩
 case round =>
  clear kg km hJ hG;obtain ⟨z,z1,z2,rfl,kg,km,hJ,hG⟩:=hrel;have Ih:=Bx.mk hJ;have IX:=Bx.mk hG;clear hJ hG;obtain ⟨cm0,cm1,cm2,cm3,cm4,cm5⟩:=km.c6;by_cases hz:z<lf
  · go_wp2_with fail;clear cm0 cm1 cm2 cm3 cm4 cm5;obtain ⟨wo,T3⟩ : ∃ wo:World,wo=wr:=⟨_,rfl⟩;rw [←T3] at kg km Ih IX;have EY:=Bx.mk kg;have EZ:=Bx.mk km;clear kg km
    go_loopw [8] (fun i wr => ∃ y:Int,lb≤y∧y≤le∧i = .int .i64 y∧Bk wr w.heap.size #[a,b,c,d,e,f,cs] 28∧Bk wr gm #[la,lb,lc,ld,le,lf] 25∧I z y wr∧w.grownBy wr (some g)) (fun i _=>(le - intOf i).toNat)
    case atStart=>subst T3;exact ⟨lb,by omega,CU.o.2.2.2.2.2.2.2.1,rfl,EY.o,EZ.o,Ih.o,IX.o⟩
    case round =>
     clear EY EZ Ih IX T3;obtain ⟨y,y1,y2,rfl,kg,km,hJ,hG⟩:=hrel;by_cases hy:y<le
     · have hB:=Below.refl wr.heap.size wr;have JE:=Nat.le_refl wr.heap.size;have NW:w.heap.size≤wr.heap.size:=hG.size;have Ih:=Bx.mk hJ;have IX:=Bx.mk hG;clear hJ hG;obtain ⟨cm0,cm1,cm2,cm3,cm4,cm5⟩:=km.c6;go_wp2_with fail;generalize hW:wr.alloc _=W;have hb:=bl1 hW;have kp:Bk W wr.heap.size #[la,y,z] 23:=bk0 hW rfl;clear hW JE cm0 cm1 cm2 cm3 cm4 cm5;replace hB:=hb;replace kg:=kg.la hb;replace km:=km.la hb;have JE:=hb.size;have i1:=wj (ld - la) (by have:=CU.o;omega)
       obtain ⟨F4,F5,F6,F7,F8,F9,FA⟩:=kg.r7;obtain ⟨cm0,cm1,cm2,cm3,cm4,cm5⟩:=km.r6;obtain ⟨cp0,cp1,cp2⟩:=kp.r3;have q0:=Bx.mk fun dk osk=>rq (Nu.o y z (grow (redrawn W dk) osk));refine zAJ 13 (by kernel_rfl) (by kernel_rfl) ?_
       simp only [List.take_succ_cons,List.take_zero,List.drop_succ_cons,List.drop_zero]
       repeat (first | go_big_quiet_step (with_reducible exact q0.o _ _) | quiet_step (with_reducible exact q0.o _ _))
       refine wq ?_;rintro _ ⟨⟨dq,osq⟩,rfl⟩;have hb:=bq W dq osq;replace hB:=tr hB hb;clear F4 F5 F6 F7 F8 F9 FA;clear cm0 cm1 cm2 cm3 cm4 cm5;clear cp0 cp1 cp2;clear q0;replace kg:=kg.la hb;replace km:=km.la hb;replace kp:=kp.la hb;replace JE:=nlt JE hb.size;clear hb;generalize grow (redrawn W dq) osq=W1 at *;go_wp2_with fail;rw [HE.o _ _];refine (Hc.o z y W1 z1 hz y1 hy (HI.o _ _ _ _ Ih.o hB) (zF3 IX.o hB)).mono ?_;rintro e' w3 ⟨rfl,hJ,hb⟩;replace kg:=kg.grown hb (by omega)
       replace km:=km.grown hb (by omega)
       have hG:=zF4 (zF3 IX.o hB) hb;have Ih:=Bx.mk hJ;have Kg:=Bx.mk kg;have Km:=Bx.mk km;have HG:=Bx.mk hG;clear hJ hG kg km hb IX hB kp;have i2:=wj (y+1) (by have:=CU.o;omega)
       go_wp2_with fail
       go_roundw
       case rel=>exact ⟨y+1,by omega,by omega,rfl,Kg.o,Km.o,Ih.o,HG.o⟩
       case measure=>simp [intOf];omega
     · obtain rfl:y=le:=by omega
       have hN:=HI.o _ _ _ _ (Hn.o z wr z1 hz hJ) br;have Kg:=Bx.mk kg;have Km:=Bx.mk km;have HN:=Bx.mk hN;have HG:=Bx.mk hG;clear hJ hG kg km hN;have cm:=Km.o;obtain ⟨cm0,cm1,cm2,cm3,cm4,cm5⟩:=cm.c6;clear cm;have i2:=wj (z+1) (by have:=CU.o;omega)
       go_wp2_with fail
       go_roundw
       case rel=>exact ⟨z+1,by omega,by omega,rfl,Kg.o,Km.o,HN.o,HG.o⟩
       case measure=>simp [intOf];omega
  · obtain rfl:z=lf:=by omega
    go_wp2_with fail
    go_end0
    exact ⟨rfl,Ih.o,IX.o⟩
theorem zCi (GT:FuncId) (Eu:Array Value) (HE:Bx (∀ (args:Array Value) (W:World),(callFunc GT args).run Tryz.prog W = .ok (.enter GT args) W)) (a b c d e f:Int) (ga:Option Addr) (Gj:Nat) (xs zs:List Int) (w:World) (JP:1≤xs.length) (hN:xs.length≤4194304) (hg:Sl w .i64 ga xs)
 (Lc:Bx (∀ Bd g N cap W,Below w.heap.size w W→w.heap.size≤g→N=xs.length→Own W Bd 3 .i64 (.slice (some ⟨g,0,none⟩) N cap) xs→Calls Tryz.prog GT (#[.slice (some ⟨g,0,none⟩) N cap]++Eu) W fun e' w'=>e' = .returned (.tuple #[])∧Own w' Bd 3 .i64 (.slice (some ⟨g,0,none⟩) N cap) zs∧W.grownBy w' (some g))) :
 Calls Tryz.prog 160 #[.agg #[a,b,c,d,e,f,.slice ga xs.length Gj],.func (.func GT) #[] Eu] w
  fun e' w' => ∃ v,e' = .returned (.agg #[a,b,c,d,e,f,v])∧Own w' w.heap.size 3 .i64 v zs∧Below w.heap.size w w':=by
 have LZ:=Bx.mk fun W h=>zMP ga Gj xs W (by omega) h
 have Hg:=Bx.mk hg;clear hg;go_enter Tryz.func160,Tryz.ntmps160;go_wp2_with fail;generalize hW:(w.alloc _).alloc _=W;have JE:=sz2 hW;have hB:=bl2 hW;have kr:Bk W (w.heap.size) #[a,b,c,d,e,f,.slice ga xs.length Gj] 28:=bk1 hW;have kq:Bk W (w.heap.size+1) #[(0:Int),(0:Int),(0:Int),(0:Int),(0:Int),(0:Int),.slice none 0 0] 28:=bk0 hW;clear hW;obtain ⟨Fj,Fk,Fl,Fm,Fn,Fo,Fp⟩:=kr.c7;go_wp2_with fail;refine (LZ.o _ (Hg.o.below hB)).mono ?_;rintro e' w1 ⟨v,rfl,ho,hb⟩;clear LZ;obtain ⟨Bd,I8⟩ : ∃ Bd,Bd=W.heap.size:=⟨_,rfl⟩;rw [←I8] at ho hb;have JA:w.heap.size+2≤Bd:=by omega
 replace hb:Below W.heap.size W w1:=I8 ▸ hb;clear Fj Fk Fl Fm Fn Fo Fp;replace hB:=tr hB hb;replace kr:=kr.la hb;replace kq:=kq.la hb;replace JE:=nlt JE hb.size;clear hb;obtain ⟨g,cap,rfl,N3,N4,-,-,-⟩:=ho.at (by omega)
 go_wp2_with fail;rw [HE.o _ _];refine (Lc.o Bd g xs.length cap w1 hB (by omega) rfl ho).mono ?_
 rintro e' w3 ⟨rfl,h1,NQ⟩;clear Lc;replace hB:=hB.grown NQ hB.size (fun k hk=>by injection hk;omega)
 replace kr:=kr.grown NQ (by omega)
 replace kq:=kq.grown NQ (by omega)
 have H1:=Bx.mk h1;clear h1 NQ ho N3 N4 Hg;obtain ⟨Fj,Fk,Fl,Fm,Fn,Fo,Fp⟩:=kr.c7;obtain ⟨Fd,Fe,Ff,Fg,Fh,Fi,cq6⟩:=kq.c7;obtain ⟨fq0,fq1,fq2,fq3,fq4,fq5,fq6⟩:=kq.f7;go_wp2_with fail;replace kq:=kq.put7 (.int .i64 a) (.int .i64 b) (.int .i64 c) (.int .i64 d) (.int .i64 e) (.int .i64 f) (.slice (some ⟨g,0,none⟩) xs.length cap);exact bodyPost_ret (v:=.agg #[a,b,c,d,e,f,.slice (some ⟨g,0,none⟩) xs.length cap]) (results_cell_row rfl _ _ _ 28 #[a,b,c,d,e,f,.slice (some ⟨g,0,none⟩) xs.length cap] (0,0) _ rfl kq Tryz.underlying28 rfl (by kernel_rfl)) rfl ⟨_,rfl,(((((((H1.o.setBelow (by simp;omega) _).setBelow (by simp;omega) _).setBelow (by simp;omega) _).setBelow (by simp;omega) _).setBelow (by simp;omega) _).setBelow (by simp;omega) _).setBelow (by simp;omega) _).base (by omega),zBn hB (by omega) _ _ _ _ _ _ _⟩
theorem zJW {ys cs:List Int} {k:Nat} (hk:k≤ys.length) (j:Nat):(over ys k cs)[j]? = if j<k then ys[j]? else if j<k+cs.length then cs[j - k]? else ys[j]? := by
 unfold over splice;by_cases h1:j<k
 · rw [if_pos h1,List.getElem?_append_left (by simp;omega),List.getElem?_take_of_lt h1]
 · rw [if_neg h1,List.getElem?_append_right (by simp;omega)]
   have e:(ys.take k).length=k:=by simp;omega
   rw [e];by_cases h2:j<k+cs.length
   · rw [if_pos h2,List.getElem?_append_left (by omega)]
   · rw [if_neg h2,List.getElem?_append_right (by omega),List.getElem?_drop]
     congr 1;omega
theorem zJY {ys:List Int} {k j:Nat} {c:Int} (hk:k+j<ys.length):(over ys k (List.replicate j c)).set (k+j) c=over ys k (List.replicate (j+1) c):=by
 apply List.ext_getElem?;intro i;rw [List.getElem?_set,zJW (by omega),zJW (by omega)]
 simp only [List.length_replicate];have hl:(over ys k (List.replicate j c)).length=ys.length:=zJX (by simp;omega)
 by_cases h1:k+j=i
 · subst h1;rw [if_pos rfl,if_pos (by omega),if_neg (by omega),if_pos (by omega)]
   simp
 · rw [if_neg h1];by_cases h2:i<k
   · rw [if_pos h2,if_pos h2]
   · rw [if_neg h2,if_neg h2];by_cases h3:i<k+j
     · rw [if_pos h3,if_pos (by omega)]
       rw [List.getElem?_replicate_of_lt (by omega),List.getElem?_replicate_of_lt (by omega)]
     · rw [if_neg h3,if_neg (by omega)]
theorem zFT (gc pb g k n N cap Bd:Nat) (px py pz c:Int) (ys:List Int) (w:World) (OP:k+n≤N) (hN:N≤4194304) (kc:Bk w gc #[c] 3) (kb:Bk w pb #[.slice (some ⟨g,0,none⟩) N cap] 26) (ho:Own w Bd 3 .i64 (.slice (some ⟨g,0,none⟩) N cap) ys) (NE:g ≠ gc) (ND:g ≠ pb) :
 Calls Tryz.prog 163 #[(k:Int),.agg #[px,py,pz],(n:Int),.pointer (some ⟨gc,0,none⟩),.pointer (some ⟨pb,0,none⟩)] w fun e w' =>
  e = .returned (.tuple #[])∧Own w' Bd 3 .i64 (.slice (some ⟨g,0,none⟩) N cap) (over ys k (List.replicate n c))∧w.grownBy w' (some g):=by
 have Ix:ys.length=N:=ho.raw.choose_spec.2.2.2.2.2.2.symm;have Kc:=Bx.mk kc;have Kb:=Bx.mk kb;have Ho:=Bx.mk ho;clear kc kb ho;go_enter Tryz.func163,Tryz.ntmps163;go_wp2_with fail;generalize hW:w.alloc _=W;have hb:=bl1 hW;clear hW
 have HI:Bx (Own W Bd 3 .i64 (.slice (some ⟨g,0,none⟩) N cap) (over ys k (List.replicate 0 c))∧Bk W gc #[c] 3∧Bk W pb #[.slice (some ⟨g,0,none⟩) N cap] 26∧w.grownBy W (some g)):=⟨by
  refine ⟨?_,Kc.o.la hb,Kb.o.la hb,⟨hb.os,hb.tape,hb.output,hb.size,fun k hk _=>hb.block k hk⟩⟩;have e:over ys k (List.replicate 0 c)=ys:=by unfold over splice;simp
  rw [e];exact Ho.o.below hb⟩
 clear Kc Kb Ho hb
 go_loopw [10] (fun i wr => ∃ j:Nat,j≤n∧i = .int .i64 j∧Bx (Own wr Bd 3 .i64 (.slice (some ⟨g,0,none⟩) N cap) (over ys k (List.replicate j c))∧Bk wr gc #[c] 3∧Bk wr pb #[.slice (some ⟨g,0,none⟩) N cap] 26∧w.grownBy wr (some g))) (fun i _=>n - (intOf i).toNat)
 case atStart=>exact ⟨0,Nat.zero_le _,rfl,HI⟩
 case round =>
  clear HI;obtain ⟨j,hj,rfl,hI⟩:=hrel;by_cases hlt:j<n
  · have hl:(over ys k (List.replicate j c)).length=N:=by rw [zJX (by simp;omega),Ix]
    obtain ⟨g',Et,hv,-,-,h3,h4,h5⟩:=hI.o.1.at (by omega)
    injection hv with SV SW SX;injection SV with SV;injection SV with SV;subst SV SX;obtain ⟨old,QI⟩ : ∃ x,(over ys k (List.replicate j c))[k+j]? = some x:=⟨_,lge (by omega)⟩
    have LO:=h3 (k+j) old QI;have Mu:=h4 (k+j);have h6:=h5 (k+j) c;rw [zJY (by omega),hl] at h6
    have hs:=Bx.mk (And.intro h6 (And.intro (hI.o.2.1.other ⟨g,k+j,none⟩ (.int .i64 c) (Ne.symm NE)) (And.intro (hI.o.2.2.1.other ⟨g,k+j,none⟩ (.int .i64 c) (Ne.symm ND)) (zW hI.o.2.2.2 (k+j) (.int .i64 c)))));have cc:=hI.o.2.1.cell 0 rfl;have cb:=hI.o.2.2.1.cell 0 rfl;have hw:IntKind.i64.wrap ((k:Int)+(j:Int))=((k+j:Nat):Int):=by rw [show (k:Int)+(j:Int)=((k+j:Nat):Int) by omega];exact wj _ (by omega)
    have b1:(0:Int)≤((k+j:Nat):Int):=by omega
    have b2:((k+j:Nat):Int)<(N:Int):=by omega
    have t0:decide ((j:Int)<(n:Int))=true:=by simp;omega
    clear hI h3 h4 h5 h6 hl QI;go_wp2_with fail
    go_roundw
    case rel=>exact ⟨j+1,by omega,by go_num,hs⟩
    case measure=>simp [intOf];omega
  · obtain rfl:j=n:=by omega
    have t0:decide ((j:Int)<(j:Int))=false:=by simp
    go_wp2_with fail
    go_end0
    exact ⟨rfl,hI.o.1,hI.o.2.2.2⟩
theorem zFL (pg pq pc g N cap Bd:Nat) (a b c d e f a2 b2 c2 d2 e2 f2 v:Int) (gc:Value) (xs:List Int) (w:World) (J7:Small ⟨⟨a,b,c⟩,⟨d,e,f⟩⟩ 1048575)
 (TF:xs.length=(zAE ⟨⟨a,b,c⟩,⟨d,e,f⟩⟩).toNat) (hN:N≤4194304)
 (kg:Bk w pg #[a,b,c,d,e,f,gc] 28) (kq:Bk w pq #[a2,b2,c2,d2,e2,f2] 25) (kc:Bk w pc #[v] 3) (ho:Own w Bd 3 .i64 (.slice (some ⟨g,0,none⟩) N cap) xs) (NP:g ≠ pc) :
 Calls Tryz.prog 161 #[.slice (some ⟨g,0,none⟩) N cap,.pointer (some ⟨pg,0,none⟩),.pointer (some ⟨pq,0,none⟩),.pointer (some ⟨pc,0,none⟩)] w fun e' w'=>e' = .returned (.tuple #[])∧Own w' Bd 3 .i64 (.slice (some ⟨g,0,none⟩) N cap) (zKA ⟨⟨a,b,c⟩,⟨d,e,f⟩⟩ ⟨⟨a2,b2,c2⟩,⟨d2,e2,f2⟩⟩ xs (List.replicate (zAE ⟨⟨a2,b2,c2⟩,⟨d2,e2,f2⟩⟩).toNat v))∧w.grownBy w' (some g):=by
 obtain ⟨⟨⟨la,lb,lc⟩,⟨ld,le,lf⟩⟩,hM⟩ : ∃ M,zn ⟨⟨a,b,c⟩,⟨d,e,f⟩⟩ ⟨⟨a2,b2,c2⟩,⟨d2,e2,f2⟩⟩=M:=⟨_,rfl⟩;have NK:=(ho.lt g rfl).2;have Ix:xs.length=N:=ho.raw.choose_spec.2.2.2.2.2.2.symm;have S9:=kg.lt;have SB:=kc.lt;have cg:=fun (j:Nat) u (h:(#[a,b,c,d,e,f,gc]:Array Value)[j]? = some u)=>(kg.alloc (.cells #[.slice (some ⟨g,0,none⟩) N cap] 26)).cell j h;have cq:=fun (j:Nat) u (h:(#[a2,b2,c2,d2,e2,f2]:Array Value)[j]? = some u)=>(kq.alloc (.cells #[.slice (some ⟨g,0,none⟩) N cap] 26)).cell j h;have F4:=cg 0 _ rfl;have F5:=cg 1 _ rfl;have F6:=cg 2 _ rfl;have F7:=cg 3 _ rfl;have F8:=cg 4 _ rfl;have F9:=cg 5 _ rfl;have FA:=cg 6 _ rfl;have Fd:=cq 0 _ rfl;have Fe:=cq 1 _ rfl;have Ff:=cq 2 _ rfl;have Fg:=cq 3 _ rfl;have Fh:=cq 4 _ rfl;have Fi:=cq 5 _ rfl;clear cg cq;go_enter Tryz.func161,Tryz.ntmps161;go_wp2_with fail;generalize hW:w.alloc _=W;have hb:=bl1 hW;have kb:Bk W w.heap.size #[.slice (some ⟨g,0,none⟩) N cap] 26:=bk0 hW rfl;clear hW F4 F5 F6 F7 F8 F9 FA Fd Fe Ff Fg Fh Fi;have Te:=kc.la hb;have Q6:=ho.below hb;have JE:=hb.size
 refine (zLt 163 #[.pointer (some ⟨pc,0,none⟩),.pointer (some ⟨w.heap.size,0,none⟩)] g a b c d e f a2 b2 c2 d2 e2 f2 la lb lc ld le lf gc J7 hM ?_ ⟨enters_of Tryz.func163 rfl rfl⟩
  (fun z y W'=>Own W' Bd 3 .i64 (.slice (some ⟨g,0,none⟩) N cap) (zJq ⟨⟨a,b,c⟩,⟨d,e,f⟩⟩ ⟨⟨a2,b2,c2⟩,⟨d2,e2,f2⟩⟩ xs (List.replicate (zAE ⟨⟨a2,b2,c2⟩,⟨d2,e2,f2⟩⟩).toNat v) z y)∧Bk W' pc #[v] 3∧Bk W' w.heap.size #[.slice (some ⟨g,0,none⟩) N cap] 26) W (by omega) ?_ ?_ ?_ ?_).mono ?_
 · exact zIO J7 hM
 · rintro z y W1 W2 ⟨h1,h2,h3⟩ hb;exact ⟨h1.below hb,h2.la hb,h3.la hb⟩
 · refine ⟨?_,Te,kb⟩;have:=zJu (A:=⟨⟨a,b,c⟩,⟨d,e,f⟩⟩) (B:=⟨⟨a2,b2,c2⟩,⟨d2,e2,f2⟩⟩) (ys:=(List.replicate (zAE ⟨⟨a2,b2,c2⟩,⟨d2,e2,f2⟩⟩).toNat v)) TF;rw [hM] at this;rw [this];exact Q6
 · rintro z y W1 z1 z2 y1 y2 ⟨h1,h2,h3⟩ NQ;obtain ⟨hlt,RJ⟩:=zLo hM ⟨z1,z2⟩ ⟨y1,y2⟩;have R7:=RJ 0 (by omega) (by omega)
   rw [Int.add_zero] at R7;obtain ⟨k,hk⟩ : ∃ k:Nat,ze ⟨⟨a,b,c⟩,⟨d,e,f⟩⟩ ⟨la,y,z⟩=(k:Int):=⟨_,(Int.toNat_of_nonneg (zf R7.1).1).symm⟩;obtain ⟨from_,hf⟩ : ∃ k:Nat,ze ⟨⟨a2,b2,c2⟩,⟨d2,e2,f2⟩⟩ ⟨la,y,z⟩=(k:Int):=⟨_,(Int.toNat_of_nonneg (zf R7.2).1).symm⟩;obtain ⟨n,hn⟩ : ∃ n:Nat,ld - la=(n:Int):=⟨(ld - la).toNat,by omega⟩
   obtain ⟨p1,p2,p3,p4⟩:=zJt (xs:=xs) (ys:=(List.replicate (zAE ⟨⟨a2,b2,c2⟩,⟨d2,e2,f2⟩⟩).toNat v)) hM ⟨z1,z2⟩ ⟨y1,y2⟩ hk hf hn (by simp)
   have er:(((List.replicate (zAE ⟨⟨a2,b2,c2⟩,⟨d2,e2,f2⟩⟩).toNat v)).drop from_).take n=List.replicate n v:=by
    rw [List.length_replicate] at p2;rw [List.drop_replicate,List.take_replicate]
    congr 1;omega
   rw [er] at p4;rw [hk,hn];refine (zFT pc w.heap.size g k n N cap Bd la y z v _ W1 (by omega) hN h2 h3 h1 NP (by omega)).mono ?_
   rintro e' w3 ⟨rfl,h5,h6⟩;rw [p4] at h5;exact ⟨rfl,⟨h5,h2.grown h6 (Ne.symm NP),h3.grown h6 (by omega)⟩,h6⟩
 · rintro z W1 z1 z2 ⟨h1,h2,h3⟩;have:=zJs (A:=⟨⟨a,b,c⟩,⟨d,e,f⟩⟩) (B:=⟨⟨a2,b2,c2⟩,⟨d2,e2,f2⟩⟩) (xs:=xs) (ys:=(List.replicate (zAE ⟨⟨a2,b2,c2⟩,⟨d2,e2,f2⟩⟩).toNat v)) (z:=z);rw [hM] at this;rw [this] at h1;exact ⟨h1,h2,h3⟩
 · rintro e' w2 ⟨rfl,⟨h1,h2,h3⟩,h5⟩;have:=zJr (A:=⟨⟨a,b,c⟩,⟨d,e,f⟩⟩) (B:=⟨⟨a2,b2,c2⟩,⟨d2,e2,f2⟩⟩) (xs:=xs) (ys:=(List.replicate (zAE ⟨⟨a2,b2,c2⟩,⟨d2,e2,f2⟩⟩).toNat v));rw [hM] at this;rw [this] at h1;go_wp2_with fail
   go_end0
   exact ⟨rfl,h1,(zF4 ⟨hb.os,hb.tape,hb.output,hb.size,fun k hk _=>hb.block k hk⟩ h5)⟩
theorem zF0 (a b c d e f a2 b2 c2 d2 e2 f2 v:Int) (ga:Option Addr) (Gj:Nat) (xs:List Int) (w:World) (J7:Small ⟨⟨a,b,c⟩,⟨d,e,f⟩⟩ 1048575) (TF:xs.length=(zAE ⟨⟨a,b,c⟩,⟨d,e,f⟩⟩).toNat) (JP:1≤xs.length) (hN:xs.length≤4194304) (hg:Sl w .i64 ga xs) :
 Calls Tryz.prog 115 #[.agg #[a,b,c,d,e,f,.slice ga xs.length Gj],.agg #[a2,b2,c2,d2,e2,f2],v] w (zAc a b c d e f xs.length (zKA ⟨⟨a,b,c⟩,⟨d,e,f⟩⟩ ⟨⟨a2,b2,c2⟩,⟨d2,e2,f2⟩⟩ xs (List.replicate (zAE ⟨⟨a2,b2,c2⟩,⟨d2,e2,f2⟩⟩).toNat v)) w):=by
 have LT:=Bx.mk fun pg pq pc W (h1:Bk W pg #[a,b,c,d,e,f,.slice ga xs.length Gj] 28) (h2:Bk W pq #[a2,b2,c2,d2,e2,f2] 25) (h3:Bk W pc #[v] 3) (h4:Sl W .i64 ga xs) =>
  zCi 161 #[.pointer (some ⟨pg,0,none⟩),.pointer (some ⟨pq,0,none⟩),.pointer (some ⟨pc,0,none⟩)] ⟨enters_of Tryz.func161 rfl rfl⟩ a b c d e f ga Gj xs (zKA ⟨⟨a,b,c⟩,⟨d,e,f⟩⟩ ⟨⟨a2,b2,c2⟩,⟨d2,e2,f2⟩⟩ xs (List.replicate (zAE ⟨⟨a2,b2,c2⟩,⟨d2,e2,f2⟩⟩).toNat v)) W JP hN h4
   ⟨fun Bd g N cap V hb NT hNe ho=>zFL pg pq pc g N cap Bd a b c d e f a2 b2 c2 d2 e2 f2 v (.slice ga xs.length Gj) xs V J7 TF (by omega) (h1.la hb) (h2.la hb) (h3.la hb) ho (by have:=h3.lt;omega)⟩
 have Od:=Bx.mk (TF.trans (zKB ⟨⟨a,b,c⟩,⟨d,e,f⟩⟩ ⟨⟨a2,b2,c2⟩,⟨d2,e2,f2⟩⟩ xs (List.replicate (zAE ⟨⟨a2,b2,c2⟩,⟨d2,e2,f2⟩⟩).toNat v)).symm);have Hg:=Bx.mk hg;clear J7 TF JP hN hg;go_enter Tryz.func115,Tryz.ntmps115;go_wp2_with fail;generalize hW:(((w.alloc _).alloc _).alloc _).alloc _=W;have JE:w.heap.size+1+1+1+1≤W.heap.size:=by rw [←hW];simp
 have hB:Below w.heap.size w W:=by rw [←hW];exact ((bf.alloc (by simp) _).alloc (by simp;omega) _).alloc (by simp;omega) _
 have kg:Bk W (w.heap.size) #[a,b,c,d,e,f,.slice ga xs.length Gj] 28:=by rw [←hW];exact zD (zD (zD (zC _ _ _ (by simp))))
 have kq:Bk W (w.heap.size+1) #[a2,b2,c2,d2,e2,f2] 25:=bk2 hW;have kc:Bk W (w.heap.size+1+1) #[v] 3:=bk1 hW;have kr:Bk W (w.heap.size+1+1+1) #[(0:Int),(0:Int),(0:Int),(0:Int),(0:Int),(0:Int),.slice none 0 0] 28:=bk0 hW;clear hW;obtain ⟨F4,F5,F6,F7,F8,F9,FA⟩:=kg.c7;go_wp2_with fail;refine (LT.o _ _ _ _ kg kq kc (Hg.o.below hB)).mono ?_;rintro e' w1 ⟨u,rfl,ho,hb⟩;obtain ⟨Bd,I8⟩ : ∃ Bd,Bd=W.heap.size:=⟨_,rfl⟩;rw [←I8] at ho hb;have JA:w.heap.size+4≤Bd:=by omega
 replace hb:Below W.heap.size W w1:=I8 ▸ hb;clear LT Hg;clear F4 F5 F6 F7 F8 F9 FA;replace hB:=tr hB hb;replace kg:=kg.la hb;replace kr:=kr.la hb;replace JE:=nlt JE hb.size;clear hb;obtain ⟨pa,pe,rfl,-⟩:=ho.form;rw [←Od.o] at ho;rw [←Od.o];have Ho:=Bx.mk ho;clear ho;obtain ⟨Fj,Fk,Fl,Fm,Fn,Fo,Fp⟩:=kr.c7;obtain ⟨GU,GV,GW,GX,GY,GZ,Ga⟩:=kr.f7;go_wp2_with fail;replace kr:=kr.put7 (.int .i64 a) (.int .i64 b) (.int .i64 c) (.int .i64 d) (.int .i64 e) (.int .i64 f) (.slice pa xs.length pe);exact bodyPost_ret (v:=.agg #[a,b,c,d,e,f,.slice pa xs.length pe]) (results_cell_row rfl _ _ _ 28 #[a,b,c,d,e,f,.slice pa xs.length pe] (0,0) _ rfl kr Tryz.underlying28 rfl (by kernel_rfl)) rfl ⟨_,_,rfl,Od.o,(((((((Ho.o.setBelow (by simp;omega) _).setBelow (by simp;omega) _).setBelow (by simp;omega) _).setBelow (by simp;omega) _).setBelow (by simp;omega) _).setBelow (by simp;omega) _).setBelow (by simp;omega) _).base (by omega),zBn hB (by omega) _ _ _ _ _ _ _⟩
end
section
open Go.RowKit Go.Sort Go.Maps
open Oct
theorem copied {w:World} {g Bd n cap:Nat} {xs zs:List Int} {cur:List Value} (h1:w.heap[g]? = some (.cells cur.toArray 3 (0,0))) (h2:cur.length=cap) (h4:n≤cap) (h5:cap≤maxLen) (h6:Bd≤g) (hz:zs.length=n) :
 Own (w.setRow g (zs.map (Value.int .i64)++cur.drop zs.length).toArray) Bd 3 .i64 (.slice (some ⟨g,0,none⟩) n cap) zs∧Keeps (fun k=>k<Bd) w (w.setRow g (zs.map (Value.int .i64)++cur.drop zs.length).toArray):=by
 refine ⟨Own.mk' (cur:=zs.map (Value.int .i64)++cur.drop n) ?_ ?_ ?_ h4 h5 h6 hz.symm,⟨rfl,rfl,rfl,by simp [World.setRow],fun k hk _=>setRow_other w g k _ (by omega)⟩⟩
 · rw [setRow_heap w g _ _ 3 _ h1,hz]
 · simp;omega
 · rw [List.take_append_of_le_length (by simp;omega),List.take_of_length_le (by simp;omega)]
theorem zJM (zs:List Int) : ∀ v∈zs.map (Value.int .i64),v.oneCell'=true:=by
 intro v hv;obtain ⟨x,_,rfl⟩:=List.mem_map.1 hv;rfl
theorem zMl {w:World} {b off:Nat} {zs:List Int} (h:Sl w .i64 (some ⟨b,off,none⟩) zs) : ∀ j v,(zs.map (Value.int .i64))[j]? = some v→w.cell? ((⟨b,off,none⟩:Addr).add j)=some v:=by
 intro j v hj;rw [List.getElem?_map] at hj;cases hz:zs[j]? with
 | none=>rw [hz] at hj;cases hj
 | some x =>
   rw [hz] at hj;obtain rfl:=osi hj;obtain ⟨b',off',e,hc⟩:=h j x hz;injection e with e;injection e with e1 e2;subst e1 e2
   have e3:(⟨b,off,none⟩:Addr).add j=⟨b,off+j,none⟩:=by
    by_cases hj:j=0
    · subst hj;simp [Addr.add]
    · simp [Addr.add,hj]
   rw [e3];exact hc
theorem zFJ (ax ay az:Int) (hx:0≤ax∧ax≤16384) (hy:0≤ay∧ay≤16384) (hz:0≤az∧az≤16384) (gb gc g Bd cap:Nat) (a b c d e f cell:Int) (xs:List Int) (hl:xs.length=64) (w:World) (kb:Bk w gb #[a,b,c,d,e,f] 25) (kc:Bk w gc #[cell] 3) (ho:Own w Bd 3 .i64 (.slice (some ⟨g,0,none⟩) xs.length cap) xs) :
 Calls Tryz.prog 114 #[zO ax ay az 2,.slice (some ⟨g,0,none⟩) xs.length cap,.pointer (some ⟨gb,0,none⟩),.pointer (some ⟨gc,0,none⟩)] w fun e' w'=>e' = .returned (.tuple #[])∧Own w' Bd 3 .i64 (.slice (some ⟨g,0,none⟩) xs.length cap) (zKA ⟨⟨ax,ay,az⟩,⟨ax+4,ay+4,az+4⟩⟩ ⟨⟨a,b,c⟩,⟨d,e,f⟩⟩ xs (List.replicate (zAE ⟨⟨a,b,c⟩,⟨d,e,f⟩⟩).toNat cell))∧Keeps (fun k=>k<Bd) w w':=by
 have Ki:=Bx.mk (fun W=>zBo 2 (by omega) ax ay az 4 (by decide) (by omega) (by omega) (by omega) W)
 rw [show ((2:Nat):Int)=2 from rfl] at Ki;have J7:Small ⟨⟨ax,ay,az⟩,⟨ax+4,ay+4,az+4⟩⟩ 1048575:=⟨by simp only [];omega,by simp only [];omega,by simp only [];omega,by simp only [];omega,by simp only [];omega,by simp only [];omega⟩
 have TF:xs.length=(zAE ⟨⟨ax,ay,az⟩,⟨ax+4,ay+4,az+4⟩⟩).toNat:=by rw [hl,(zDm ax ay az).2.2];rfl
 have hg:=Bx.mk (fun W h=>zF0 ax ay az (ax+4) (ay+4) (az+4) a b c d e f cell (some ⟨g,0,none⟩) cap xs W J7 TF (by omega) (by omega) h)
 unfold zAc at hg;have TY:(zKA ⟨⟨ax,ay,az⟩,⟨ax+4,ay+4,az+4⟩⟩ ⟨⟨a,b,c⟩,⟨d,e,f⟩⟩ xs (List.replicate (zAE ⟨⟨a,b,c⟩,⟨d,e,f⟩⟩).toNat cell)).length=64:=by rw [zKB,←TF,hl]
 have Dr:=Bx.mk TY;generalize (zKA ⟨⟨ax,ay,az⟩,⟨ax+4,ay+4,az+4⟩⟩ ⟨⟨a,b,c⟩,⟨d,e,f⟩⟩ xs (List.replicate (zAE ⟨⟨a,b,c⟩,⟨d,e,f⟩⟩).toNat cell))=zs at *;have HL:=Bx.mk hl;clear hl;clear J7 TF hx hy hz TY;go_enter Tryz.func114,Tryz.ntmps114;go_upto_region 1 with fail;generalize hW:w.alloc _=W;have hB:=bl1 hW;have kp:Bk W (w.heap.size) #[ax,ay,az,(2:Int)] 39:=bk0 hW;clear hW;have KP:=Bx.mk kp;have KB:=Bx.mk (kb.la hB);have KC:=Bx.mk (kc.la hB);have HO:=Bx.mk (ho.below hB);have HB:=Bx.mk hB;have NK:=(ho.lt g rfl);have JO:=hB.size;clear kp kb kc ho hB
 refine zOh 8 (fun i v w'=>match i with
  | 0=>v=zO ax ay az 2
  | 1=>v = .agg #[ax,ay,az,(ax+4:Int),(ay+4:Int),(az+4:Int)]
  | 2=>v = .slice (some ⟨g,0,none⟩) xs.length cap
  | 3=>v = .agg #[ax,ay,az,(ax+4:Int),(ay+4:Int),(az+4:Int),.slice (some ⟨g,0,none⟩) xs.length cap]
  | 4=>v = .agg #[a,b,c,d,e,f]
  | 5=>v = .int .i64 cell
  | 6 => ∃ pa pc,v = .agg #[ax,ay,az,(ax+4:Int),(ay+4:Int),(az+4:Int),.slice pa xs.length pc]∧Own w' W.heap.size 3 .i64 (.slice pa xs.length pc) zs
  | _ => ∃ g2,v = .pointer (some ⟨g2,0,none⟩)∧W.heap.size≤g2∧Bk w' g2 #[(0:Int),(0:Int),(0:Int),(0:Int),(0:Int),(0:Int),.slice none 0 0] 28) (by kernel_rfl) (by kernel_rfl) 18 (by kernel_rfl) (by rfl) ?_ ?_ ?_
 · intro i hi v u1 u2 hb h
   match i,hi with
   | 0,_=>exact h
   | 1,_=>exact h
   | 2,_=>exact h
   | 3,_=>exact h
   | 4,_=>exact h
   | 5,_=>exact h
   | 6,_=>obtain ⟨pa,pc,h1,h2⟩:=h;exact ⟨pa,pc,h1,h2.below hb⟩
   | 7,_=>obtain ⟨g2,h1,h2,h3⟩:=h;exact ⟨g2,h1,h2,h3.la hb⟩
 · intro i o hi ho ρ w1 hb L3 L5 L6 hk
   match i,hi with
   | 0, _ =>
     obtain rfl:=osi ho;have h2:ρ (.tmp 4) = .pointer (some ⟨w.heap.size,0,none⟩):=hk 4 (by simp)
     have k1:=KP.o.la hb;obtain ⟨c0,c1,c2,c3⟩:=k1.c4;clear hk hb Ki hg;go_simp;exact br
   | 1, _ =>
     obtain rfl:=osi ho;have h2:ρ (.tmp 7)=zO ax ay az 2:=hk 7 (by simp)
     have h4:=Ki.o w1;have H4:=Bx.mk h4;clear hk hb h4 Ki hg;go_simp
     all_goals exact H4.o
   | 2, _ =>
     obtain rfl:=osi ho;have h2:ρ (.tmp 1) = .slice (some ⟨g,0,none⟩) xs.length cap:=hk 1 (by simp)
     clear hk hb Ki hg;go_simp;exact br
   | 3, _ =>
     obtain rfl:=osi ho;have h2:ρ (.tmp 8) = .agg #[ax,ay,az,(ax+4:Int),(ay+4:Int),(az+4:Int)]:=hk 8 (by simp)
     have h3:ρ (.tmp 9) = .slice (some ⟨g,0,none⟩) xs.length cap:=hk 9 (by simp)
     clear hk hb Ki hg;go_simp;exact br
   | 4, _ =>
     obtain rfl:=osi ho;have h2:ρ (.tmp 2) = .pointer (some ⟨gb,0,none⟩):=hk 2 (by simp)
     have k1:=KB.o.la hb;obtain ⟨c0,c1,c2,c3,c4,c5⟩:=k1.c6;clear hk hb Ki hg;go_simp;exact br
   | 5, _ =>
     obtain rfl:=osi ho;have h2:ρ (.tmp 3) = .pointer (some ⟨gc,0,none⟩):=hk 3 (by simp)
     have k1:=KC.o.la hb;have c0:=k1.cell 0 rfl;clear hk hb Ki hg;go_simp;exact br
   | 6, _ =>
     obtain rfl:=osi ho;have h2:ρ (.tmp 10) = .agg #[ax,ay,az,(ax+4:Int),(ay+4:Int),(az+4:Int),.slice (some ⟨g,0,none⟩) xs.length cap]:=hk 10 (by simp)
     have h3:ρ (.tmp 11) = .agg #[a,b,c,d,e,f]:=hk 11 (by simp)
     have h5:ρ (.tmp 12) = .int .i64 cell:=hk 12 (by simp)
     have h4:=(hg.o w1 (by obtain ⟨a1,c1,e1,h1⟩:=(HO.o.below hb).form;injection e1 with e1 _ _;subst e1;exact h1)).mono (R':=fun e' V0 => ∃ v,e' = .returned v∧Below w1.heap.size w1 V0 ∧ ∃ pa pc,v = .agg #[ax,ay,az,(ax+4:Int),(ay+4:Int),(az+4:Int),.slice pa xs.length pc]∧Own V0 W.heap.size 3 .i64 (.slice pa xs.length pc) zs) (fun e' V0 ⟨pa,pc,x,_,y,z⟩=>⟨_,x,z,pa,pc,rfl,y.base hb.size⟩)
     have H4:=Bx.mk h4;clear hk hb h4 Ki hg;go_simp
     all_goals exact H4.o
   | 7, _ =>
     obtain rfl:=osi ho;have Ko:=hb.size;have Pm:Bk (w1.alloc (.cells #[(0:Int),(0:Int),(0:Int),(0:Int),(0:Int),(0:Int),.slice none 0 0] 28)) w1.heap.size #[(0:Int),(0:Int),(0:Int),(0:Int),(0:Int),(0:Int),.slice none 0 0] 28:=Bk.new _ _ _;have Hn:=Bx.mk Pm;clear hk hb Ki hg Pm;go_simp;exact ⟨bf,Hn.o⟩
 · intro vs W1 Od hb hR
   match vs,Od with
   | [v0, v1, v2, v3, v4, v5, v6, v7], _ =>
     have r0:v0=zO ax ay az 2:=hR 0 v0 rfl;have r1:v1 = .agg #[ax,ay,az,(ax+4:Int),(ay+4:Int),(az+4:Int)]:=hR 1 v1 rfl;have r2:v2 = .slice (some ⟨g,0,none⟩) xs.length cap:=hR 2 v2 rfl;have r3:v3 = .agg #[ax,ay,az,(ax+4:Int),(ay+4:Int),(az+4:Int),.slice (some ⟨g,0,none⟩) xs.length cap]:=hR 3 v3 rfl;have r4:v4 = .agg #[a,b,c,d,e,f]:=hR 4 v4 rfl;have r5:v5 = .int .i64 cell:=hR 5 v5 rfl;obtain ⟨pa,pc,r6,QQ⟩ : ∃ pa pc,v6 = .agg #[ax,ay,az,(ax+4:Int),(ay+4:Int),(az+4:Int),.slice pa xs.length pc]∧Own W1 W.heap.size 3 .i64 (.slice pa xs.length pc) zs:=hR 6 v6 rfl;obtain ⟨g2,r7,N4,kg⟩ : ∃ g2,v7 = .pointer (some ⟨g2,0,none⟩)∧W.heap.size≤g2∧Bk W1 g2 #[(0:Int),(0:Int),(0:Int),(0:Int),(0:Int),(0:Int),.slice none 0 0] 28:=hR 7 v7 rfl;subst r0 r1 r2 r3 r4 r5 r6 r7;clear hR Ki hg;obtain ⟨g3,c3,SX,-,-,-,-,-⟩:=QQ.at (by rw [Dr.o];decide)
     injection SX with e1 e2 e3;subst e1;clear e2 e3
     have Ph:g3 ≠ g2:=fun e=>by
      obtain ⟨cur3,q1,-⟩:=QQ.raw;rw [e] at q1;have q2:W1.heap[g2]? = _:=kg;rw [q1] at q2;injection q2 with q2;injection q2 with _ q2;exact absurd q2 (by decide)
     have DK:=Bx.mk QQ;have Hb:=Bx.mk hb;clear QQ hb;have F4:=kg.cell 0 rfl;have GM:=kg.frozen 0;have F5:=kg.cell 1 rfl;have GN:=kg.frozen 1;have F6:=kg.cell 2 rfl;have GO:=kg.frozen 2;have F7:=kg.cell 3 rfl;have GP:=kg.frozen 3;have F8:=kg.cell 4 rfl;have GQ:=kg.frozen 4;have F9:=kg.cell 5 rfl;have GR:=kg.frozen 5;have FA:=kg.cell 6 rfl;have GS:=kg.frozen 6;simp only [zKg,List.take_succ_cons,List.take_zero,List.drop_succ_cons,List.drop_zero,List.map_cons,List.map_nil,List.zip_cons_cons,List.zip_nil_right,List.foldl_cons,List.foldl_nil];go_upto_region 2 with fail;have Tm:=kg.put7 (.int .i64 ax) (.int .i64 ay) (.int .i64 az) (.int .i64 (ax+4)) (.int .i64 (ay+4)) (.int .i64 (az+4)) (.slice (some ⟨g3,0,none⟩) xs.length pc);have NQ:W1.grownBy _ (some g2):=zW (zW (zW (zW (zW (zW (zW (World.grownBy.refl W1 (some g2)) 0 (.int .i64 ax)) 1 (.int .i64 ay)) 2 (.int .i64 az)) 3 (.int .i64 (ax+4))) 4 (.int .i64 (ay+4))) 5 (.int .i64 (az+4))) 6 (.slice (some ⟨g3,0,none⟩) xs.length pc);clear F4 GM F5 GN F6 GO F7 GP F8 GQ F9 GR FA GS kg;generalize World.setCell _ ⟨g2,6,none⟩ _=W5 at *;have N5:Bd≤g2∧g ≠ g2:=by omega
     have QU:Own W5 W.heap.size 3 .i64 (.slice (some ⟨g3,0,none⟩) xs.length pc) zs:=World.ownsRow.kept DK.o NQ (.inr (fun e=>by injection e with e;exact Ph e))
     have Q8:Own W5 Bd 3 .i64 (.slice (some ⟨g,0,none⟩) xs.length cap) xs:=World.ownsRow.kept (HO.o.below Hb.o) NQ (.inr (fun e=>by injection e with e;exact N5.2 e))
     obtain ⟨a3,c3',SX,Rq⟩:=QU.form;injection SX with e1 e2 e3;subst e1;clear e2 e3;obtain ⟨cur,q1,q2,q3,q4,q5,q6,q7⟩:=Q8.raw;have HK:=Bx.mk ((((Keeps.below HB.o).trans (Keeps.below Hb.o)).trans (Keeps.grown NQ (fun k e hk=>by injection e with e;subst e;have:g2<Bd:=hk;omega))):Keeps (fun k=>k<Bd) w W5)
     have Lj:=Bx.mk (copied q1 q2 q4 q5 q6 (zs:=zs) (by rw [Dr.o,HL.o]) (xs:=xs))
     have Ey:W5.cell? ⟨g2,6,none⟩=some (.slice (some ⟨g3,0,none⟩) xs.length pc):=Tm.cell 6 rfl;have Q1:=Bx.mk q1;have Bv:=Bx.mk Rq;have PZ:(zs.map (Value.int .i64)).length=Nat.min xs.length xs.length:=by rw [List.length_map,Dr.o,HL.o];rfl
     have Mq:0+(zs.map (Value.int .i64)).length≤cur.toArray.size:=by rw [List.length_map,Dr.o,List.size_toArray,q2];have:=HL.o;omega
     have BL:=Bx.mk PZ;have Af:=Bx.mk Mq;clear QU Q8 Rq Tm NQ q1 q3 DK q2 q4 q5 q6 q7 PZ Mq N5 NK JO N4 Ph;go_wp2_with (refine wpList_copy_own rfl (.tmp 14) (.tmp 16) 26 26 rfl 3 Tryz.underlying26 (by kernel_rfl) g 0 xs.length cap ⟨g3,0,none⟩ xs.length pc rfl rfl cur.toArray 3 Q1.o (zs.map (Value.int .i64)) BL.o (zMl Bv.o) Af.o (zJM zs) ?_)
     go_end0
     exact ⟨rfl,Lj.o.1,HK.o.trans Lj.o.2⟩
theorem zKD (ax ay az:Int) (hx:0≤ax∧ax≤16384) (hy:0≤ay∧ay≤16384) (hz:0≤az∧az≤16384) (gb g Bd cap:Nat) (a b c d e f:Int) (ha:Option Addr) (hcp:Nat) (xs ys:List Int) (hl:xs.length=64) (J9:Small ⟨⟨a,b,c⟩,⟨d,e,f⟩⟩ 1048575) (TN:ys.length=(zAE ⟨⟨a,b,c⟩,⟨d,e,f⟩⟩).toNat) (hY:ys.length≤4194304) (LF:ys.length≤hcp) (w:World) (kb:Bk w gb #[a,b,c,d,e,f,.slice ha ys.length hcp] 28) (hs:Sl w .i64 ha ys) (ho:Own w Bd 3 .i64 (.slice (some ⟨g,0,none⟩) xs.length cap) xs) :
 Calls Tryz.prog 121 #[zO ax ay az 2,.slice (some ⟨g,0,none⟩) xs.length cap,.pointer (some ⟨gb,0,none⟩)] w fun e' w'=>e' = .returned (.tuple #[])∧Own w' Bd 3 .i64 (.slice (some ⟨g,0,none⟩) xs.length cap) (zKA ⟨⟨ax,ay,az⟩,⟨ax+4,ay+4,az+4⟩⟩ ⟨⟨a,b,c⟩,⟨d,e,f⟩⟩ xs ys)∧Keeps (fun k=>k<Bd) w w':=by
 have Ki:=Bx.mk (fun W=>zBo 2 (by omega) ax ay az 4 (by decide) (by omega) (by omega) (by omega) W)
 rw [show ((2:Nat):Int)=2 from rfl] at Ki;have J7:Small ⟨⟨ax,ay,az⟩,⟨ax+4,ay+4,az+4⟩⟩ 1048575:=⟨by simp only [];omega,by simp only [];omega,by simp only [];omega,by simp only [];omega,by simp only [];omega,by simp only [];omega⟩
 have TF:xs.length=(zAE ⟨⟨ax,ay,az⟩,⟨ax+4,ay+4,az+4⟩⟩).toNat:=by rw [hl,(zDm ax ay az).2.2];rfl
 have hg:=Bx.mk (fun W h1 h2=>zKC ax ay az (ax+4) (ay+4) (az+4) a b c d e f (some ⟨g,0,none⟩) ha cap hcp xs ys W J7 J9 TF TN (by omega) (by omega) hY LF h1 h2)
 unfold zAc at hg;have TY:(zKA ⟨⟨ax,ay,az⟩,⟨ax+4,ay+4,az+4⟩⟩ ⟨⟨a,b,c⟩,⟨d,e,f⟩⟩ xs ys).length=64:=by rw [zKB,←TF,hl]
 have Dr:=Bx.mk TY;generalize (zKA ⟨⟨ax,ay,az⟩,⟨ax+4,ay+4,az+4⟩⟩ ⟨⟨a,b,c⟩,⟨d,e,f⟩⟩ xs ys)=zs at *;have HL:=Bx.mk hl;clear hl;clear J7 TF hx hy hz TY J9 TN hY LF;go_enter Tryz.func121,Tryz.ntmps121;go_upto_region 1 with fail;generalize hW:w.alloc _=W;have hB:=bl1 hW;have kp:Bk W (w.heap.size) #[ax,ay,az,(2:Int)] 39:=bk0 hW;clear hW;have KP:=Bx.mk kp;have KB:=Bx.mk (kb.la hB);have HS:=Bx.mk (hs.below hB);have HO:=Bx.mk (ho.below hB);have HB:=Bx.mk hB;have NK:=(ho.lt g rfl);have JO:=hB.size;clear kp kb hs ho hB
 refine zOh 7 (fun i v w'=>match i with
  | 0=>v=zO ax ay az 2
  | 1=>v = .agg #[ax,ay,az,(ax+4:Int),(ay+4:Int),(az+4:Int)]
  | 2=>v = .slice (some ⟨g,0,none⟩) xs.length cap
  | 3=>v = .agg #[ax,ay,az,(ax+4:Int),(ay+4:Int),(az+4:Int),.slice (some ⟨g,0,none⟩) xs.length cap]
  | 4=>v = .agg #[a,b,c,d,e,f,.slice ha ys.length hcp]
  | 5 => ∃ pa pc,v = .agg #[ax,ay,az,(ax+4:Int),(ay+4:Int),(az+4:Int),.slice pa xs.length pc]∧Own w' W.heap.size 3 .i64 (.slice pa xs.length pc) zs
  | _ => ∃ g2,v = .pointer (some ⟨g2,0,none⟩)∧W.heap.size≤g2∧Bk w' g2 #[(0:Int),(0:Int),(0:Int),(0:Int),(0:Int),(0:Int),.slice none 0 0] 28) (by kernel_rfl) (by kernel_rfl) 16 (by kernel_rfl) (by rfl) ?_ ?_ ?_
 · intro i hi v u1 u2 hb h
   match i,hi with
   | 0,_=>exact h
   | 1,_=>exact h
   | 2,_=>exact h
   | 3,_=>exact h
   | 4,_=>exact h
   | 5,_=>obtain ⟨pa,pc,h1,h2⟩:=h;exact ⟨pa,pc,h1,h2.below hb⟩
   | 6,_=>obtain ⟨g2,h1,h2,h3⟩:=h;exact ⟨g2,h1,h2,h3.la hb⟩
 · intro i o hi ho ρ w1 hb L3 L5 L6 hk
   match i,hi with
   | 0, _ =>
     obtain rfl:=osi ho;have h2:ρ (.tmp 3) = .pointer (some ⟨w.heap.size,0,none⟩):=hk 3 (by simp)
     have k1:=KP.o.la hb;obtain ⟨c0,c1,c2,c3⟩:=k1.c4;clear hk hb Ki hg;go_simp;exact br
   | 1, _ =>
     obtain rfl:=osi ho;have h2:ρ (.tmp 6)=zO ax ay az 2:=hk 6 (by simp)
     have h4:=Ki.o w1;have H4:=Bx.mk h4;clear hk hb h4 Ki hg;go_simp
     all_goals exact H4.o
   | 2, _ =>
     obtain rfl:=osi ho;have h2:ρ (.tmp 1) = .slice (some ⟨g,0,none⟩) xs.length cap:=hk 1 (by simp)
     clear hk hb Ki hg;go_simp;exact br
   | 3, _ =>
     obtain rfl:=osi ho;have h2:ρ (.tmp 7) = .agg #[ax,ay,az,(ax+4:Int),(ay+4:Int),(az+4:Int)]:=hk 7 (by simp)
     have h3:ρ (.tmp 8) = .slice (some ⟨g,0,none⟩) xs.length cap:=hk 8 (by simp)
     clear hk hb Ki hg;go_simp;exact br
   | 4, _ =>
     obtain rfl:=osi ho;have h2:ρ (.tmp 2) = .pointer (some ⟨gb,0,none⟩):=hk 2 (by simp)
     have k1:=KB.o.la hb;obtain ⟨c0,c1,c2,c3,c4,c5,c6⟩:=k1.c7;clear hk hb Ki hg;go_simp;exact br
   | 5, _ =>
     obtain rfl:=osi ho;have h2:ρ (.tmp 9) = .agg #[ax,ay,az,(ax+4:Int),(ay+4:Int),(az+4:Int),.slice (some ⟨g,0,none⟩) xs.length cap]:=hk 9 (by simp)
     have h3:ρ (.tmp 10) = .agg #[a,b,c,d,e,f,.slice ha ys.length hcp]:=hk 10 (by simp)
     have h4:=(hg.o w1 (HS.o.below hb) (by obtain ⟨a1,c1,e1,h1⟩:=(HO.o.below hb).form;injection e1 with e1 _ _;subst e1;exact h1)).mono (R':=fun e' V0 => ∃ v,e' = .returned v∧Below w1.heap.size w1 V0 ∧ ∃ pa pc,v = .agg #[ax,ay,az,(ax+4:Int),(ay+4:Int),(az+4:Int),.slice pa xs.length pc]∧Own V0 W.heap.size 3 .i64 (.slice pa xs.length pc) zs) (fun e' V0 ⟨pa,pc,x,_,y,z⟩=>⟨_,x,z,pa,pc,rfl,y.base hb.size⟩)
     have H4:=Bx.mk h4;clear hk hb h4 Ki hg;go_simp
     all_goals exact H4.o
   | 6, _ =>
     obtain rfl:=osi ho;have Ko:=hb.size;have Pm:Bk (w1.alloc (.cells #[(0:Int),(0:Int),(0:Int),(0:Int),(0:Int),(0:Int),.slice none 0 0] 28)) w1.heap.size #[(0:Int),(0:Int),(0:Int),(0:Int),(0:Int),(0:Int),.slice none 0 0] 28:=Bk.new _ _ _;have Hn:=Bx.mk Pm;clear hk hb Ki hg Pm;go_simp;exact ⟨bf,Hn.o⟩
 · intro vs W1 Od hb hR
   match vs,Od with
   | [v0, v1, v2, v3, v4, v5, v6], _ =>
     have r0:v0=zO ax ay az 2:=hR 0 v0 rfl;have r1:v1 = .agg #[ax,ay,az,(ax+4:Int),(ay+4:Int),(az+4:Int)]:=hR 1 v1 rfl;have r2:v2 = .slice (some ⟨g,0,none⟩) xs.length cap:=hR 2 v2 rfl;have r3:v3 = .agg #[ax,ay,az,(ax+4:Int),(ay+4:Int),(az+4:Int),.slice (some ⟨g,0,none⟩) xs.length cap]:=hR 3 v3 rfl;have r4:v4 = .agg #[a,b,c,d,e,f,.slice ha ys.length hcp]:=hR 4 v4 rfl;obtain ⟨pa,pc,r5,QQ⟩ : ∃ pa pc,v5 = .agg #[ax,ay,az,(ax+4:Int),(ay+4:Int),(az+4:Int),.slice pa xs.length pc]∧Own W1 W.heap.size 3 .i64 (.slice pa xs.length pc) zs:=hR 5 v5 rfl;obtain ⟨g2,r6,N4,kg⟩ : ∃ g2,v6 = .pointer (some ⟨g2,0,none⟩)∧W.heap.size≤g2∧Bk W1 g2 #[(0:Int),(0:Int),(0:Int),(0:Int),(0:Int),(0:Int),.slice none 0 0] 28:=hR 6 v6 rfl;subst r0 r1 r2 r3 r4 r5 r6;clear hR Ki hg;obtain ⟨g3,c3,SX,-,-,-,-,-⟩:=QQ.at (by rw [Dr.o];decide)
     injection SX with e1 e2 e3;subst e1;clear e2 e3
     have Ph:g3 ≠ g2:=fun e=>by
      obtain ⟨cur3,q1,-⟩:=QQ.raw;rw [e] at q1;have q2:W1.heap[g2]? = _:=kg;rw [q1] at q2;injection q2 with q2;injection q2 with _ q2;exact absurd q2 (by decide)
     have DK:=Bx.mk QQ;have Hb:=Bx.mk hb;clear QQ hb;have F4:=kg.cell 0 rfl;have GM:=kg.frozen 0;have F5:=kg.cell 1 rfl;have GN:=kg.frozen 1;have F6:=kg.cell 2 rfl;have GO:=kg.frozen 2;have F7:=kg.cell 3 rfl;have GP:=kg.frozen 3;have F8:=kg.cell 4 rfl;have GQ:=kg.frozen 4;have F9:=kg.cell 5 rfl;have GR:=kg.frozen 5;have FA:=kg.cell 6 rfl;have GS:=kg.frozen 6;simp only [zKg,List.take_succ_cons,List.take_zero,List.drop_succ_cons,List.drop_zero,List.map_cons,List.map_nil,List.zip_cons_cons,List.zip_nil_right,List.foldl_cons,List.foldl_nil];go_upto_region 2 with fail;have Tm:=kg.put7 (.int .i64 ax) (.int .i64 ay) (.int .i64 az) (.int .i64 (ax+4)) (.int .i64 (ay+4)) (.int .i64 (az+4)) (.slice (some ⟨g3,0,none⟩) xs.length pc);have NQ:W1.grownBy _ (some g2):=zW (zW (zW (zW (zW (zW (zW (World.grownBy.refl W1 (some g2)) 0 (.int .i64 ax)) 1 (.int .i64 ay)) 2 (.int .i64 az)) 3 (.int .i64 (ax+4))) 4 (.int .i64 (ay+4))) 5 (.int .i64 (az+4))) 6 (.slice (some ⟨g3,0,none⟩) xs.length pc);clear F4 GM F5 GN F6 GO F7 GP F8 GQ F9 GR FA GS kg;generalize World.setCell _ ⟨g2,6,none⟩ _=W5 at *;have N5:Bd≤g2∧g ≠ g2:=by omega
     have QU:Own W5 W.heap.size 3 .i64 (.slice (some ⟨g3,0,none⟩) xs.length pc) zs:=World.ownsRow.kept DK.o NQ (.inr (fun e=>by injection e with e;exact Ph e))
     have Q8:Own W5 Bd 3 .i64 (.slice (some ⟨g,0,none⟩) xs.length cap) xs:=World.ownsRow.kept (HO.o.below Hb.o) NQ (.inr (fun e=>by injection e with e;exact N5.2 e))
     obtain ⟨a3,c3',SX,Rq⟩:=QU.form;injection SX with e1 e2 e3;subst e1;clear e2 e3;obtain ⟨cur,q1,q2,q3,q4,q5,q6,q7⟩:=Q8.raw;have HK:=Bx.mk ((((Keeps.below HB.o).trans (Keeps.below Hb.o)).trans (Keeps.grown NQ (fun k e hk=>by injection e with e;subst e;have:g2<Bd:=hk;omega))):Keeps (fun k=>k<Bd) w W5)
     have Lj:=Bx.mk (copied q1 q2 q4 q5 q6 (zs:=zs) (by rw [Dr.o,HL.o]) (xs:=xs))
     have Ey:W5.cell? ⟨g2,6,none⟩=some (.slice (some ⟨g3,0,none⟩) xs.length pc):=Tm.cell 6 rfl;have Q1:=Bx.mk q1;have Bv:=Bx.mk Rq;have PZ:(zs.map (Value.int .i64)).length=Nat.min xs.length xs.length:=by rw [List.length_map,Dr.o,HL.o];rfl
     have Mq:0+(zs.map (Value.int .i64)).length≤cur.toArray.size:=by rw [List.length_map,Dr.o,List.size_toArray,q2];have:=HL.o;omega
     have BL:=Bx.mk PZ;have Af:=Bx.mk Mq;clear QU Q8 Rq Tm NQ q1 q3 DK q2 q4 q5 q6 q7 PZ Mq N5 NK JO N4 Ph;go_wp2_with (refine wpList_copy_own rfl (.tmp 12) (.tmp 14) 26 26 rfl 3 Tryz.underlying26 (by kernel_rfl) g 0 xs.length cap ⟨g3,0,none⟩ xs.length pc rfl rfl cur.toArray 3 Q1.o (zs.map (Value.int .i64)) BL.o (zMl Bv.o) Af.o (zJM zs) ?_)
     go_end0
     exact ⟨rfl,Lj.o.1,HK.o.trans Lj.o.2⟩
abbrev zDn (a:Pt):Box:=⟨⟨a.x,a.y,a.z⟩,⟨a.x+4,a.y+4,a.z+4⟩⟩
theorem zCL (f:Pt→Int) (a:Pt):zG f a=cellsOf (zDn a) f:=(zCd a.x a.y a.z f).symm
theorem zOH {N:Nat} {a:Pt} (h:InT N 0 a) {p:Pt} (hp:inB p (zDn a)=true):inB p (zOI N)=true:=by
 have h1:=zb.1 hp;simp only [] at h1;obtain ⟨-,-,x,y,z⟩:=h;have e4:(2:Int) ^ (0+2)=4:=by decide
 rw [e4] at x y z;exact zb.2 ⟨by show (0:Int)≤_;omega,by show _<(2:Int) ^ (N+2);omega,by show (0:Int)≤_;omega,by show _<(2:Int) ^ (N+2);omega,by show (0:Int)≤_;omega,by show _<(2:Int) ^ (N+2);omega⟩
theorem zKE {N:Nat} {a:Pt} (h:InT N 0 a) (b:Box) (ys:List Int) (g:Pt→Int):zKA (zDn a) b (zG g a) ys=zG (zr N b ys g) a:=by
 rw [zCL,zCL];refine zI fun p hp=>?_;unfold zr;rw [zOH h hp,Bool.and_true,zCC hp]
theorem zCD {b:Box} {c:Int} {p:Pt} (hp:inB p b=true):zE b (List.replicate (zAE b).toNat c) p=c:=by
 unfold zE;rw [if_pos hp];have:=zf hp;rw [List.getD_eq_getElem?_getD,List.getElem?_replicate_of_lt (by omega)];rfl
theorem zFK {N:Nat} {a:Pt} (h:InT N 0 a) (b:Box) (c:Int) (g:Pt→Int):zKA (zDn a) b (zG g a) (List.replicate (zAE b).toNat c)=zG (zE9 N b c g) a:=by
 rw [zCL,zCL];refine zI fun p hp=>?_;unfold zE9;rw [zOH h hp,Bool.and_true,zCC hp];by_cases hb:inB p b=true
 · rw [if_pos hb,if_pos hb,zCD hb]
 · rw [if_neg hb,if_neg hb]
end
end Go.Proofs.YtfcbajmjaifjlaaGreat