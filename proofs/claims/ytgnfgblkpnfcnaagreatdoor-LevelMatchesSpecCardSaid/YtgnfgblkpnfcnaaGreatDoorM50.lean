/- Lrt, Lnw, Lsn: joined by program, for one claim. -/
import Derived.Test.YtgnfgblkpnfcnaaGreatDoorM49
set_option maxHeartbeats 2000000
set_option maxRecDepth 100000
set_option linter.unusedVariables false
set_option linter.unusedSimpArgs false
namespace Go.Proofs.YtgnfgblkpnfcnaaGreatDoor
section
open Go.RowKit Go.Sort Go.Maps
open Oct
attribute [local go_sem] Oper.semAt_some
theorem zID (xs:List Int) (hl:xs.length=16) (w:World):(binOp .neq 43 (.agg (xs.map (Value.int .u8)).toArray) (.agg (xs.map (Value.int .u8)).toArray)).run Tryz.prog w = .ok (.bool false) w:=by
 obtain ⟨i,hi⟩ : ∃ i,Tryz.prog.info? 5=some i:=Option.isSome_iff_exists.1 (by kernel_rfl)
 have hc : Tryz.prog.cellsOf 5=1:=by kernel_rfl
 match xs,hl with
 | [x0, x1, x2, x3, x4, x5, x6, x7, x8, x9, x10, x11, x12, x13, x14, x15], _ =>
   simp only [List.map_cons,List.map_nil];rw [run_neq_struct,run_equalIn_array (n:=16) w 9999 _ _ Tryz.underlying43 hi,hc];rw [show List.range 16=[0,1,2,3,4,5,6,7,8,9,10,11,12,13,14,15] by decide]
   simp only [Op.eqItems];go_simp
theorem zLE {P:Program} {w:World} {R:Value→World→Prop} {o:Oper} {ρ:Operand→Value} (ty:TypeId) (x:Operand) (ho:o.op = .load ty x) (b off:Nat) (hx:ρ x = .pointer (some ⟨b,off,none⟩)) (cs:List Value) (d:TypeDesc) (hc:w.rangeAt b off cs)
 (hu:P.underlying ty=some d) (hd:d.isRow=true) (hi:(P.info? ty).map (·.size)=some cs.length) (hR:R (.agg cs.toArray) w):zLD P w R ((execOp ρ o).run P w):=by
 unfold execOp;simp only [ho,hx,Instr.loadAt,Instr.sureAddr,Sem.run_bind,Sem.run_pure,Result.andThen_ok,run_loadVar_mid w b off ty cs d hc hu hd hi];exact ⟨Below.refl _ _,hR⟩
theorem zMA:(Tryz.prog.info? 43).map (·.size)=some 16:=by kernel_rfl
theorem zOa:((Tryz.prog.info? 43).bind (·.zero)).isSome=true:=by kernel_rfl
theorem zHL (sb:Nat) (a:Option Addr) (cap:Nat) (ids:List Int) (Ds:List (List Int)) (w:World) (hs:Sl w .i64 a ids) (hn:ids.length=Ds.length) (h1000:Ds.length≤1000) (hd : ∀ d∈Ds,d.length=16)
 (HD:Bx (∀ W,Below w.heap.size w W → ∀ (k:Nat) id d,ids[k]? = some id→Ds[k]? = some d→Calls Tryz.prog 39 #[.pointer (some ⟨sb,0,none⟩),id] W (zA W d))) :
 Calls Tryz.prog 16 #[.pointer (some ⟨sb,0,none⟩),.slice a ids.length cap] w fun e w' => ∃ v,e = .returned v∧OwnD w' w.heap.size v Ds∧Below w.heap.size w w':=by
 have HS:=Bx.mk hs;have Hd:=Bx.mk hd;have H1:=Bx.mk h1000;have HN:=Bx.mk hn;obtain ⟨n,hnn⟩ : ∃ n,n=ids.length:=⟨_,rfl⟩;rw [←hnn];have Hnn:=Bx.mk hnn;have hn1000:n≤1000:=by omega
 have h16:=Bx.mk zMA;have hz16:=Bx.mk zOa;clear hs hd h1000 hn hnn;go_enter Tryz.func16,Tryz.ntmps16;go_wp2_with fail
 go_loopw [5,10] (fun v5 v10 wr => ∃ i:Nat,i≤n∧v10 = .int .i64 i∧Bx (Below w.heap.size w wr)∧Bx (OwnD wr w.heap.size v5 (Ds.take i))) (fun _ i _=>n - (intOf i).toNat)
 case atStart=>exact ⟨0,Nat.zero_le _,rfl,⟨Below.refl _ _⟩,⟨by rw [List.take_zero];exact OwnD.nil _ _⟩⟩
 case round =>
  obtain ⟨i,hi,rfl,HI,HO⟩:=hrel;by_cases hlt:i<n
  · have t0:decide ((i:Int)<(n:Int))=true:=by simp;omega
    have t0b:decide (i<n)=true:=by simpa using hlt
    have hiI:i<ids.length:=by have:=Hnn.out;omega
    have hiD:i<Ds.length:=by have:=HN.out;omega
    obtain ⟨b,off,rfl,hc⟩:=HS.out i ids[i] (List.getElem?_eq_getElem hiI);have c0:=cell_later HI.out hc;have hD:=Bx.mk (HD.out _ HI.out i ids[i] Ds[i] (List.getElem?_eq_getElem hiI) (List.getElem?_eq_getElem hiD));have b1:(0:Int)≤(i:Int)∧(i:Int)<(n:Int):=by omega
    have hcat:Bx (Ds.take i++[Ds[i]]=Ds.take (i+1)):=⟨(List.take_succ_eq_append_getElem hiD).symm⟩;have hd16:Bx (Ds[i].length=16):=⟨Hd.out _ (List.getElem_mem hiD)⟩;have hln:Bx ((Ds.take i).length≤1000):=⟨by rw [List.length_take];have:=H1.out;omega⟩
    generalize ids[i]=x at *;generalize Ds[i]=d at *;have Hlt:=Bx.mk hlt;have Hi:=Bx.mk hi;clear hc hiI hiD hlt hi;go_wp2_with fail;refine hD.out.mono ?_;rintro _ w2 ⟨rfl,hb⟩;obtain ⟨AL,hAL⟩ : ∃ AL,AL=d.map (Value.int .u8):=⟨_,rfl⟩;have HAL:=Bx.mk hAL;have hal:Bx (AL.length=16):=⟨by rw [hAL,List.length_map];exact hd16.out⟩
    unfold zBP;rw [←hAL];have hB2:=Bx.mk (HI.out.trans (hb.mono HI.out.size));have HO2:=Bx.mk (HO.out.below hb);clear hD c0 hb hAL HI HO;have hle:w.heap.size≤w2.heap.size:=hB2.out.size
    go_wp2_with (first
     | (refine zON rfl _ 43 _ rfl AL rfl Tryz.underlying41 (by rw [hal.out];exact h16.out) hz16.out (by rw [hal.out];decide) (by rw [hal.out];decide) ?_)
     | (at_builtin
        refine zOK rfl _ _ rfl w.heap.size _ (Ds.take i) rfl (HO2.out.below ((Below.refl _ _).alloc (Nat.le_refl _) (.cells AL.toArray 43))) w2.heap.size 1 d hd16.out rfl (by rw [HAL.out];exact zD _ _ _ rfl) hln.out (Nat.le_trans hle (by simp)) ?_
        intro v1 w1 hown1 hg1 _;rw [hcat.out] at hown1;have HO3:=Bx.mk hown1;have HI3:=Bx.mk ((hB2.out.alloc hle (.cells AL.toArray 43)).grown hg1 (ze hle _) (fun g hg=>(HO2.out.lt g hg).1));clear hown1 hg1))
    have hlt:=Hlt.out
    go_roundw
    case rel=>exact ⟨i+1,by omega,by go_num,HI3,HO3⟩
    case measure=>simp [intOf];omega
  · obtain rfl:i=n:=by omega
    have t0:decide ((i:Int)<(i:Int))=false:=by simp
    have t0b:decide (i<i)=false:=by simp
    have hO:=HO.out;rw [List.take_of_length_le (by have:=HN.out;have:=Hnn.out;omega)] at hO
    have HO2:=Bx.mk hO;clear hO HO hlt hi;go_wp2_with fail;go_ret;exact ⟨_,rfl,HO2.out,HI.out⟩
theorem zHP (A B:Option Addr) (ca cb:Nat) (Ds:List (List Int)) (h1000:Ds.length≤1000) (w:World) (hA:SlD w A Ds) (hB:SlD w B Ds) :
 Calls Tryz.prog 15 #[.slice A Ds.length ca,.slice B Ds.length cb] w fun e w'=>e = .returned (.bool true)∧Below w.heap.size w w':=by
 have HA0:=Bx.mk hA;have HB0:=Bx.mk hB;obtain ⟨n,hnn⟩ : ∃ n,n=Ds.length:=⟨_,rfl⟩;rw [←hnn];have Hnn:=Bx.mk hnn;have t00:((n:Int) != (n:Int))=false:=by simp
 have hn1000:n≤1000:=by omega
 clear hA hB h1000 hnn;go_enter Tryz.func15,Tryz.ntmps15;go_wp2_with fail;clear t00
 go_loopw [5] (fun v5 wr => ∃ i:Nat,i≤n∧v5 = .int .i64 i∧Bx (Below w.heap.size w wr)) (fun i _=>n - (intOf i).toNat)
 case atStart=>exact ⟨0,Nat.zero_le _,rfl,⟨Below.refl _ _⟩⟩
 case round =>
  obtain ⟨i,hi,rfl,HI⟩:=hrel;by_cases hlt:i<n
  · have t0:decide ((i:Int)<(n:Int))=true:=by simp;omega
    have t0b:decide (i<n)=true:=by simpa using hlt
    have hiD:i<Ds.length:=by have:=Hnn.out;omega
    obtain ⟨ga,rfl,hra,h16⟩:=HA0.out i Ds[i] (List.getElem?_eq_getElem hiD);obtain ⟨gb,rfl,hrb,-⟩:=HB0.out i Ds[i] (List.getElem?_eq_getElem hiD);have Hb:Bx ((0:Int)≤(i:Int)∧(i:Int)<(n:Int)):=⟨by omega⟩
    have hne:=fun W=>zID Ds[i] h16 W;obtain ⟨AL,hAL⟩ : ∃ AL,AL=Ds[i].map (Value.int .u8):=⟨_,rfl⟩;rw [←hAL] at hra hrb hne;have HA:Bx (wr.rangeAt ga (i * 16) AL):=⟨fun j v hj=>cell_later HI.out (hra j v hj)⟩;have HB:Bx (wr.rangeAt gb (i * 16) AL):=⟨fun j v hj=>cell_later HI.out (hrb j v hj)⟩;have hi16:Bx ((Tryz.prog.info? 43).map (·.size)=some AL.length):=⟨by rw [hAL,List.length_map,h16];exact zMA⟩
    have Hlt:=Bx.mk hlt;clear hAL hra hrb h16 hiD hlt;go_upto_region 6 with fail
    refine zAN 8 1 (fun ii v w'=>match ii with
     | 0=>v = .slice (some ⟨ga,0,none⟩) n ca
     | 1=>v = .int .i64 (i:Int)
     | 2=>v = .pointer (some ⟨ga,i * 16,none⟩)
     | 3=>v = .agg AL.toArray
     | 4=>v = .slice (some ⟨gb,0,none⟩) n cb
     | 5=>v = .int .i64 (i:Int)
     | 6=>v = .pointer (some ⟨gb,i * 16,none⟩)
     | _=>v = .agg AL.toArray) (by kernel_rfl) (by kernel_rfl) 26 (by kernel_rfl) (by rfl) ?_ ?_ ?_
    · intro ii hi v u1 u2 hb h
      match ii,hi with
      | 0,_=>exact h
      | 1,_=>exact h
      | 2,_=>exact h
      | 3,_=>exact h
      | 4,_=>exact h
      | 5,_=>exact h
      | 6,_=>exact h
      | 7,_=>exact h
    · intro ii o hi ho ρ w1 hb hc1 hc2 hc3 hk
      match ii,hi with
      | 0, _ =>
        obtain rfl:=Option.some.inj ho;have g0:ρ (.tmp 0) = .slice (some ⟨ga,0,none⟩) n ca:=hk 0 (by simp [Op.operands,Call.operands])
        clear hk hb HI HA0 HB0;go_simp;exact Below.refl _ _
      | 1, _ =>
        obtain rfl:=Option.some.inj ho;have g0:ρ (.tmp 5) = .int .i64 (i:Int):=hk 5 (by simp [Op.operands,Call.operands])
        clear hk hb HI HA0 HB0;go_simp;exact Below.refl _ _
      | 2, _ =>
        obtain rfl:=Option.some.inj ho;have g0:ρ (.tmp 17) = .slice (some ⟨ga,0,none⟩) n ca:=hk 17 (by simp [Op.operands,Call.operands])
        have g1:ρ (.tmp 18) = .int .i64 (i:Int):=hk 18 (by simp [Op.operands,Call.operands])
        have b1:=Hb.out;clear hk hb HI HA0 HB0;go_simp;exact Below.refl _ _
      | 3, _ =>
        obtain rfl:=Option.some.inj ho;have g0:ρ (.tmp 19) = .pointer (some ⟨ga,i * 16,none⟩):=hk 19 (by simp [Op.operands,Call.operands])
        exact zLE 43 _ rfl ga (i * 16) g0 AL _ (fun j v hj=>cell_later hb (HA.out j v hj)) Tryz.underlying43 rfl hi16.out rfl
      | 4, _ =>
        obtain rfl:=Option.some.inj ho;have g0:ρ (.tmp 1) = .slice (some ⟨gb,0,none⟩) n cb:=hk 1 (by simp [Op.operands,Call.operands])
        clear hk hb HI HA0 HB0;go_simp;exact Below.refl _ _
      | 5, _ =>
        obtain rfl:=Option.some.inj ho;have g0:ρ (.tmp 5) = .int .i64 (i:Int):=hk 5 (by simp [Op.operands,Call.operands])
        clear hk hb HI HA0 HB0;go_simp;exact Below.refl _ _
      | 6, _ =>
        obtain rfl:=Option.some.inj ho;have g0:ρ (.tmp 21) = .slice (some ⟨gb,0,none⟩) n cb:=hk 21 (by simp [Op.operands,Call.operands])
        have g1:ρ (.tmp 22) = .int .i64 (i:Int):=hk 22 (by simp [Op.operands,Call.operands])
        have b1:=Hb.out;clear hk hb HI HA0 HB0;go_simp;exact Below.refl _ _
      | 7, _ =>
        obtain rfl:=Option.some.inj ho;have g0:ρ (.tmp 23) = .pointer (some ⟨gb,i * 16,none⟩):=hk 23 (by simp [Op.operands,Call.operands])
        exact zLE 43 _ rfl gb (i * 16) g0 AL _ (fun j v hj=>cell_later hb (HB.out j v hj)) Tryz.underlying43 rfl hi16.out rfl
    · intro vs W1 hlen hb hR
      match vs,hlen with
      | [v0,v1,v2,v3,v4,v5,v6,v7],_ =>
      have r0:v0 = .slice (some ⟨ga,0,none⟩) n ca:=hR 0 v0 rfl;have r1:v1 = .int .i64 (i:Int):=hR 1 v1 rfl;have r2:v2 = .pointer (some ⟨ga,i * 16,none⟩):=hR 2 v2 rfl;have r3:v3 = .agg AL.toArray:=hR 3 v3 rfl;have r4:v4 = .slice (some ⟨gb,0,none⟩) n cb:=hR 4 v4 rfl;have r5:v5 = .int .i64 (i:Int):=hR 5 v5 rfl;have r6:v6 = .pointer (some ⟨gb,i * 16,none⟩):=hR 6 v6 rfl;have r7:v7 = .agg AL.toArray:=hR 7 v7 rfl;clear hR;subst r0 r1 r2 r3 r4 r5 r6 r7;have HI2:=Bx.mk (HI.out.trans (hb.mono HI.out.size));clear hb HA HB hi16 HI;simp only [zKA,List.take_succ_cons,List.take_zero,List.drop_succ_cons,List.drop_zero,List.map_cons,List.map_nil,List.zip_cons_cons,List.zip_nil_right,List.foldl_cons,List.foldl_nil];go_wp2_with fail;have hlt:=Hlt.out
      go_roundw
      case rel=>exact ⟨i+1,by omega,by go_num,HI2⟩
      case measure=>simp [intOf];omega
  · obtain rfl:i=n:=by omega
    have t0:decide ((i:Int)<(i:Int))=false:=by simp
    have t0b:decide (i<i)=false:=by simp
    clear hlt;go_wp2_with fail;go_ret;exact ⟨rfl,HI.out⟩
end
section
open Go.RowKit Go.Sort Go.Maps
open Oct
structure RnQ (q:Int) (w:World) (a b c d e f:Int) (gr gk:Nat) (k:Nat) (v:Value) (wr:World):Prop where
 kk:Bk wr gk #[a,b,c,d,e,f,v] 28
 own:Own wr (gk+1) 3 .i64 v (List.replicate k q)
 kr:Bk wr gr #[(0:Int),(0:Int),(0:Int),(0:Int),(0:Int),(0:Int),.slice none 0 0] 28
 bel:Below w.heap.size w wr
 lt:w.heap.size≤gr∧gr<gk
theorem zKs (q:Int) (hq:0≤q∧q≤255) (a b c d e f:Int) (hok:okB ⟨⟨a,b,c⟩,⟨d,e,f⟩⟩=true) (he:zN ⟨⟨a,b,c⟩,⟨d,e,f⟩⟩=false) (n:Nat) (hn:zAC ⟨⟨a,b,c⟩,⟨d,e,f⟩⟩=n) (hle:n≤5000) (w:World) :
 Calls Tryz.prog 37 #[.agg #[a,b,c,d,e,f],q] w fun e' w' => ∃ g cap,e' = .returned (.tuple #[.agg #[a,b,c,d,e,f,.slice (some ⟨g,0,none⟩) n cap],(0:Int)])∧Own w' w.heap.size 3 .i64 (.slice (some ⟨g,0,none⟩) n cap) (List.replicate n q)∧Below w.heap.size w w':=by
 have hok2:okP ⟨a,b,c⟩=true∧okP ⟨d,e,f⟩=true:=by simpa [okB] using hok
 have hr0:=Bx.mk fun W=>zKy a b c W;have hr1:=Bx.mk fun W=>zKy d e f W;have hm:=Bx.mk fun W=>zKo q W;have hv:=Bx.mk fun W=>zK5 a b c d e f (zk hok) W;have hpos:1≤n:=by have:=zBR he;omega
 rw [hok2.1] at hr0;rw [hok2.2] at hr1;rw [hn] at hv;rw [show Pal.cell q=true by simp [Pal.cell];omega] at hm
 clear hok he hok2 hn hq;have t1:((n:Int) == 0)=false:=beq_eq_false_iff_ne.2 (by omega)
 have t2:decide (2097152<(n:Int))=false:=by simp;omega
 go_enter Tryz.func37,Tryz.ntmps37;go_wp2_with fail;generalize hW:World.alloc (World.alloc w _) _=W;have hSz:=sz2 hW;have hB:=bl2 hW;have kb:Bk W (w.heap.size) #[a,b,c,d,e,f] 25:=bk1 hW;have kr:Bk W (w.heap.size+1) #[(0:Int),(0:Int),(0:Int),(0:Int),(0:Int),(0:Int),.slice none 0 0] 28:=bk0 hW;clear hW;refine (hr0.out _).mono ?_;rintro _ w1 ⟨rfl,hb⟩;replace hB:=hB.trans (hb.mono hB.size);replace kb:=kb.later hb;replace kr:=kr.later hb;replace hSz:=Nat.le_trans hSz hb.size;clear hb;obtain ⟨cb0,cb1,cb2,cb3,cb4,cb5⟩:=kb.c6;go_wp2_with fail;clear cb0 cb1 cb2 cb3 cb4 cb5;refine (hr1.out _).mono ?_;rintro _ w2 ⟨rfl,hb⟩;replace hB:=hB.trans (hb.mono hB.size);replace kb:=kb.later hb;replace kr:=kr.later hb;replace hSz:=Nat.le_trans hSz hb.size;clear hb;go_wp2_with fail;refine (hm.out _).mono ?_;rintro _ _ ⟨rfl,rfl⟩;obtain ⟨cb0,cb1,cb2,cb3,cb4,cb5⟩:=kb.c6;go_wp2_with fail;refine (hv.out _).mono ?_;rintro _ w3 ⟨rfl,hb⟩;clear cb0 cb1 cb2 cb3 cb4 cb5;replace hB:=hB.trans (hb.mono hB.size);replace kb:=kb.later hb;replace kr:=kr.later hb;replace hSz:=Nat.le_trans hSz hb.size;clear hb;obtain ⟨cb0,cb1,cb2,cb3,cb4,cb5⟩:=kb.c6;go_wp2_with fail;generalize hW3:World.alloc w3 _=V3
 have HI:Bx (RnQ q w a b c d e f (w.heap.size+1) w3.heap.size 0 (.slice none 0 0) V3):=⟨by
  have kk:Bk V3 w3.heap.size #[a,b,c,d,e,f,.slice none 0 0] 28:=bk0 hW3 rfl;have hb3:=bl1 hW3;exact ⟨kk,Own.nil _ _ _ _,kr.later hb3,hB.trans (hb3.mono hB.size),by omega,kr.lt⟩⟩
 clear cb0 cb1 cb2 cb3 cb4 cb5;clear hW3 kb kr hB hr0 hr1 hm hv hSz;generalize w3.heap.size=gk at *;obtain ⟨gr,hgr⟩ : ∃ gr,gr=w.heap.size+1:=⟨_,rfl⟩;rw [←hgr] at HI ⊢;clear hgr
 go_loopw [11] (fun v11 wr => ∃ (k:Nat) (v:Value),k≤n∧v11 = .int .i64 k∧Bx (RnQ q w a b c d e f gr gk k v wr)) (fun i _=>n - (intOf i).toNat)
 case atStart=>exact ⟨0,_,Nat.zero_le _,rfl,HI⟩
 case round =>
  clear HI;obtain ⟨k,v,hk,rfl,HI⟩:=hrel;by_cases hlt:k<n
  · have t0:decide ((k:Int)<(n:Int))=true:=by simp;omega
    obtain ⟨pa0,pc0,rfl,-⟩:=HI.out.own.form;have hlr:(List.replicate k q).length=k:=List.length_replicate;rw [hlr] at HI;have cg6:=HI.out.kk.cell 6 rfl;have hgl:gk+1≤wr.heap.size:=HI.out.kk.lt;have hl9:(List.replicate k q++[q]).length=k+1:=by simp
    have hne:=Bx.mk (show ∀ x,x<gk+1→(Value.slice pa0 k pc0).ownBlock ≠ some x from fun x hx e=>by have:=(HI.out.own.lt x e).1;omega)
    have Htl:=Bx.mk (show (List.replicate k q).length≤1000000000 by rw [List.length_replicate];omega)
    go_wp2_with (first
     | (at_builtin
        refine zAF rfl _ _ 26 rfl 3 .i64 (.int .i64 0) 8 (by omega) Tryz.underlying26 (by kernel_rfl) rfl (gk+1) _ (List.replicate k q) rfl (HI.out.own.alloc _) q ⟨wr.heap.size,0,none⟩ 1 rfl (zH _ _ _) Htl.out (ze hgl _) ?_
        intro v1 w1 hown1 hg1 hv1;obtain ⟨pa,pc,rfl,-⟩:=hown1.form;rw [hl9] at hown1 ⊢;have kk1:Bk w1 gk #[a,b,c,d,e,f,.slice pa0 k pc0] 28:=Bk.grownO (zE HI.out.kk) hg1 (hne.out _ (by omega))
        have cg6':=kk1.cell 6 rfl;have fg6:=kk1.frozen 6))
    have kr1:Bk w1 gr #[(0:Int),(0:Int),(0:Int),(0:Int),(0:Int),(0:Int),.slice none 0 0] 28:=Bk.grownO (zE HI.out.kr) hg1 (hne.out _ (by have:=HI.out.lt.2;omega))
    have hb1:Below w.heap.size w w1:=(HI.out.bel.alloc HI.out.bel.size (.cells #[q] 3)).grown hg1 (ze HI.out.bel.size _) (fun g hg=>by have:=(HI.out.own.lt g hg).1;have:=HI.out.lt;omega)
    have Hown1:=Bx.mk hown1;have HK:=Bx.mk kk1;have HR:=Bx.mk kr1;have HB:=Bx.mk hb1;clear hl9 hlr hown1 hg1 hne kk1 kr1 hb1 cg6;generalize hW2:World.setCell w1 _ _=w2
    have HI2:Bx (RnQ q w a b c d e f gr gk (k+1) (.slice pa (k+1) pc) w2):=⟨by
     have hge:=HI.out.lt;rw [←hW2];refine ⟨by simpa using HK.out.set 6 (.slice pa (k+1) pc),?_,HR.out.other _ _ (by simp only;omega),HB.out.setCell (by simp only;omega) _,HI.out.lt⟩
     rw [List.replicate_succ'];exact Hown1.out.setBelow (by simp only;omega) _⟩
    clear hW2 Hown1 HK HR HB HI cg6' fg6
    go_roundw
    case rel=>exact ⟨k+1,_,by omega,by go_num,HI2⟩
    case measure=>simp [intOf];omega
  · obtain rfl:k=n:=by omega
    have t0:decide ((k:Int)<(k:Int))=false:=by simp
    obtain ⟨g,cap,rfl,-,-,-,-,-⟩:=HI.out.own.at (by rw [List.length_replicate];omega)
    have hlr:(List.replicate k q).length=k:=List.length_replicate;rw [hlr] at HI;have kk:=HI.out.kk;have kr:=HI.out.kr;have hB:=HI.out.bel;have hlo:=HI.out.lt;have Hown:=Bx.mk HI.out.own;clear HI hlr;obtain ⟨ck0,ck1,ck2,ck3,ck4,ck5,ck6⟩:=kk.c7;have cr0:=kr.cell 0 rfl;have fr0:=kr.frozen 0;have cr1:=kr.cell 1 rfl;have fr1:=kr.frozen 1;have cr2:=kr.cell 2 rfl;have fr2:=kr.frozen 2;have cr3:=kr.cell 3 rfl;have fr3:=kr.frozen 3;have cr4:=kr.cell 4 rfl;have fr4:=kr.frozen 4;have cr5:=kr.cell 5 rfl;have fr5:=kr.frozen 5;have cr6:=kr.cell 6 rfl;have fr6:=kr.frozen 6;go_wp2_with fail;replace kr:=kr.put7 (.int .i64 a) (.int .i64 b) (.int .i64 c) (.int .i64 d) (.int .i64 e) (.int .i64 f) (.slice (some ⟨g,0,none⟩) k cap);obtain ⟨z0,z1,z2,z3,z4,z5,z6⟩:=kr.c7;have hB7:=zBj hB hlo.1 (.int .i64 a) (.int .i64 b) (.int .i64 c) (.int .i64 d) (.int .i64 e) (.int .i64 f) (.slice (some ⟨g,0,none⟩) k cap);have hO:Own _ (gk+1) 3 .i64 (.slice (some ⟨g,0,none⟩) k cap) (List.replicate k q):=((((((Hown.out.setBelow (a:=⟨gr,0,none⟩) (by simp only;omega) (.int .i64 a)).setBelow (a:=⟨gr,1,none⟩) (by simp only;omega) (.int .i64 b)).setBelow (a:=⟨gr,2,none⟩) (by simp only;omega) (.int .i64 c)).setBelow (a:=⟨gr,3,none⟩) (by simp only;omega) (.int .i64 d)).setBelow (a:=⟨gr,4,none⟩) (by simp only;omega) (.int .i64 e)).setBelow (a:=⟨gr,5,none⟩) (by simp only;omega) (.int .i64 f)).setBelow (a:=⟨gr,6,none⟩) (by simp only;omega) (.slice (some ⟨g,0,none⟩) k cap)
    clear ck0 ck1 ck2 ck3 ck4 ck5 ck6 cr0 cr1 cr2 cr3 cr4 cr5 cr6 fr0 fr1 fr2 fr3 fr4 fr5 fr6;exact bodyPost_ret (v:=.tuple #[.agg #[a,b,c,d,e,f,.slice (some ⟨g,0,none⟩) k cap],(0:Int)]) (by simp [results,Tryz.results37,go_sem,z0,z1,z2,z3,z4,z5,z6]) rfl ⟨g,cap,rfl,hO.base (by omega),hB7⟩
noncomputable def tsA:List Tr:=Tr.add (.uni 1) []
theorem zNZ:tsA=[.uni 1]:=by unfold tsA;rw [Tr.add_uni,Tr.ins_of_not (by simp)];rfl
theorem zNa:Good tsA:=zEm.uni (by decide)
theorem zNb:Tr.uni 1∈tsA:=Tr.mem_add _ _
noncomputable def tsB:List Tr:=Tr.add (trF 1 g8) tsA
theorem zNc:Good tsB:=zEj _ zNa (zAD zEU.range 1 _ (by decide))
theorem zNe:trF 1 g8∈tsB:=Tr.mem_add _ _
theorem zNd:tsB.length≤100:=by
 have h1:=zAs (trF 1 g8) tsA;have h2:(trF 1 g8).sz≤zHl 1:=zM6 g8 1 ⟨0,0,0⟩;have h3:tsA.length=1:=by rw [zNZ];rfl
 have h4:zHl 1≤50:=by decide
 unfold tsB;omega
noncomputable def tsC:List Tr:=lvS (zx zDN) 1 g8 tsB 1
theorem zNg:tsC.length≤300:=by
 have h1:=zHU (s:=zx zDN) (N:=1) (by decide) zEU zNc
 have h2:=zNd;have h3:=zAs (trF 1 g8) [];have h4:(trF 1 g8).sz≤zHl 1:=zM6 g8 1 ⟨0,0,0⟩;have h5:zHl 1≤50:=by decide
 unfold zA2 at h1;unfold tsC;simp only [List.length_nil] at h3;omega
theorem zNf:Good tsC:=zGX (by decide) zEU zNc 1 (Nat.le_refl 1)
theorem sn_uni (w:World) (Far:Nat→Prop) (sb:Nat) (lt : ∀ k,Far k→k<w.heap.size) (st:StoreIs w Far sb 1000 []) :
 Calls Tryz.prog 36 #[.pointer (some ⟨sb,0,none⟩),(1:Int)] w fun e w'=>e=zLK (idT tsA (.uni 1):Int) 0∧StoreIs w' Far sb 1000 tsA∧Keeps Far w w' :=
 (zNm w Far sb 1000 [] 1 (by decide) zEm (by simp) lt st).mono fun _ _ h=>h.fit (.inr (by have:=zNZ;unfold tsA at this;rw [this];decide))
theorem zMR (w:World) (Far:Nat→Prop) (sb g:Nat) (lt : ∀ k,Far k→k<w.heap.size) (st:StoreIs w Far sb 1000 tsA) (tb:SlM w (some ⟨g,0,none⟩) zDN) (hg:Far g) :
 Calls Tryz.prog 12 #[.pointer (some ⟨sb,0,none⟩),.slice (some ⟨g,0,none⟩) 9 9,(idT tsA (.uni 1):Int),(4:Int)] w fun e w' => ∃ v,e = .returned (.tuple #[v,(0:Int)])∧Own w' w.heap.size 3 .i64 v [(idT tsA (.uni 1):Int),(idT tsA (.uni 1):Int),(idT tsA (.uni 1):Int)]∧StoreIs w' (fun x=>Far x∨v.ownBlock=some x) sb 1000 tsA∧Keeps Far w w':=by
 have hS:lvS (zx zDN) 2 cF tsA 2=tsA:=zGb zB4 zNb 2 (Nat.le_refl 2);have hX : ∀ k,k≤2→lvX (zx zDN) 2 cF tsA k=(idT tsA (.uni 1):Int):=fun k hk=>by unfold lvX idn;rw [zHZ zB4 k hk,zGb zB4 zNb k hk]
 have h:=zGi w Far sb (some ⟨g,0,none⟩) 9 zDN (by decide) 1000 tsA st lt tb (fun _ b hb=>by simp at hb;exact hb ▸ hg) zNa 2 (by decide) cF cF_fn (by rw [zB4];exact zNb) (by rw [hS,zNZ];decide)
 unfold idn at h;rw [zB4] at h;refine h.mono ?_;rintro e w' ⟨hk,(⟨-,v,rfl,h2,h3⟩ | ⟨h1,-⟩)⟩
 · rw [hS] at h3;refine ⟨v,rfl,?_,h3,hk⟩;rw [show List.range (2+1)=[0,1,2] by decide] at h2
   simpa [hX 0 (by decide),hX 1 (by decide),hX 2 (by decide)] using h2
 · rw [hS] at h1;exact absurd (.inl rfl) h1
theorem zMQ (w:World) (Far:Nat→Prop) (sb g cap:Nat) (hc:256≤cap) (lt : ∀ k,Far k→k<w.heap.size) (st:StoreIs w Far sb 1000 tsA) (hs:Sl w .i64 (some ⟨g,0,none⟩) x8) (hg:Far g) :
 Calls Tryz.prog 38 #[.pointer (some ⟨sb,0,none⟩),.agg #[(0:Int),(0:Int),(0:Int),(8:Int),(8:Int),(4:Int),.slice (some ⟨g,0,none⟩) 256 cap],(3:Int)] w fun e w'=>e=zLK (idT tsB (trF 1 g8):Int) 0∧StoreIs w' Far sb 1000 tsB∧Keeps Far w w':=by
 have hx:x8.length=256:=by unfold x8;rw [List.length_replicate]
 have h:=zET w sb 0 0 0 8 8 4 (some ⟨g,0,none⟩) cap x8 1 (by decide) hs (zEV cap hc).toH zEY (.inr g8_in) Far (fun _ b hb=>by simp at hb;exact hb ▸ hg) 1000 tsA zNa (by rw [zNZ];decide) lt st
 rw [hx] at h;refine h.mono fun e w' hd=>?_;have:=zNd;exact Done.fit (t:=trF 1 g8) (ts':=tsB) hd (.inr (by omega))
theorem zMS (w:World) (Far:Nat→Prop) (sb g:Nat) (lt : ∀ k,Far k→k<w.heap.size) (st:StoreIs w Far sb 1000 tsB) (tb:SlM w (some ⟨g,0,none⟩) zDN) (hg:Far g) :
 Calls Tryz.prog 12 #[.pointer (some ⟨sb,0,none⟩),.slice (some ⟨g,0,none⟩) 9 9,(idT tsB (trF 1 g8):Int),(3:Int)] w fun e w' => ∃ v,e = .returned (.tuple #[v,(0:Int)])∧Own w' w.heap.size 3 .i64 v ((List.range 2).map (lvX (zx zDN) 1 g8 tsB))∧StoreIs w' (fun x=>Far x∨v.ownBlock=some x) sb 1000 tsC∧Keeps Far w w':=by
 have hl:=zNg;have h:=zGi w Far sb (some ⟨g,0,none⟩) 9 zDN (by decide) 1000 tsB st lt tb (fun _ b hb=>by simp at hb;exact hb ▸ hg) zNc 1 (by decide) g8 zEU zNe (by unfold tsC at hl;omega)
 refine h.mono ?_;rintro e w' ⟨hk,(⟨-,v,rfl,h2,h3⟩ | ⟨h1,-⟩)⟩
 · exact ⟨v,rfl,h2,h3,hk⟩
 · exact absurd (.inr (by unfold tsC at hl;omega)) h1
theorem sn_xB:(List.range 2).map (lvX (zx zDN) 1 g8 tsB)=[(idT tsB (trF 1 g8):Int),lvX (zx zDN) 1 g8 tsB 1]:=rfl
theorem zMN (w:World) (Far:Nat→Prop) (sb:Nat) (a:Option Addr) (cap:Nat) (st:StoreIs w Far sb 1000 tsC) (hs:Sl w .i64 a ((List.range 2).map (lvX (zx zDN) 1 g8 tsB))) (z v:Int) (hz:0≤z∧z≤7) (hv:zHT (zx zDN) g8 1 ⟨2,1,z / 2⟩=v) :
 Calls Tryz.prog 17 #[.pointer (some ⟨sb,0,none⟩),.slice a 2 cap,(1:Int),.agg #[(5:Int),(2:Int),z]] w fun e w'=>e = .returned (.int .i64 v)∧Below w.heap.size w w':=by
 have hl:=zNg;have h:=zGd (zx zDN) 1 (by decide) g8 zEU sb 1000 Far tsB zNc zNe (by unfold tsC at hl;omega) a cap 1 5 2 z (by unfold W64;decide) (by unfold W64;decide) (by unfold W64;omega) w st hs
 have hc:zCH (zx zDN) 1 g8 1 ⟨5,2,z⟩=v:=by
  unfold zCH;rw [if_pos ⟨by decide,by decide,zX.2 (by simp only [zL,Pt.zero];omega)⟩]
  exact hv
 rw [hc] at h;exact h
theorem zMP:zHT (zx zDN) g8 1 ⟨2,1,3 / 2⟩=1:=zEX _
theorem zMO:zHT (zx zDN) g8 1 ⟨2,1,4 / 2⟩=0:=zEW _
end
end Go.Proofs.YtgnfgblkpnfcnaaGreatDoor
