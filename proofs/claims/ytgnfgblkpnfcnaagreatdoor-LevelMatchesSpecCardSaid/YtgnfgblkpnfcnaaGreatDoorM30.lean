/- Lbk, Lei: joined by program, for one claim. -/
import Derived.Test.YtgnfgblkpnfcnaaGreatDoorM29
set_option maxHeartbeats 4000000
set_option maxRecDepth 100000
set_option linter.unusedVariables false
set_option linter.unusedSimpArgs false
namespace Go.Proofs.YtgnfgblkpnfcnaaGreatDoor
section
open Go.RowKit Go.Sort Go.Maps
open Oct
attribute [local go_sem] Oper.semAt_some
theorem zG6 (W:World):(Instr.makeSlice 26 (.int .i64 0) (.int .i64 64)).run Tryz.prog W = .ok (.slice (some ⟨W.heap.size,0,none⟩) 0 64) (W.alloc (.cells (madeCells #[(0:Int)] 64) 3)):=by
 obtain ⟨i,hi,hzz⟩:=Option.map_eq_some_iff.1 (show (Tryz.prog.info? 3).map (fun i=>(i.zero,i.size,i.bytes))=some (some (.int .i64 0),1,8) by kernel_rfl)
 simp only [Prod.mk.injEq] at hzz;obtain ⟨hz,hs,hb⟩:=hzz;have hr:=run_make (P:=Tryz.prog) W 26 3 i (.int .i64 0) Tryz.underlying26 hi hz .i64 .i64 0 64 (by omega) (by omega) (by rw [hb];decide) (by omega)
 simp only [hs] at hr;exact hr
def e8 (p:Nat→Int) (k:Nat):List Int:=(List.range 8).map fun j=>if j<k then p j else 0
theorem zDp (p:Nat→Int):e8 p 0=[0,0,0,0,0,0,0,0]:=by simp [e8,List.range,List.range.loop]
theorem zDm (p:Nat→Int):e8 p 8=[p 0,p 1,p 2,p 3,p 4,p 5,p 6,p 7]:=by simp [e8,List.range,List.range.loop]
theorem zDn (p:Nat→Int) {k j:Nat} (hj:j<8):(e8 p k)[j]? = some (if j<k then p j else 0):=by
 unfold e8;rw [List.getElem?_map,List.getElem?_range hj];rfl
theorem zDo (p:Nat→Int) {k:Nat} (hk:k<8):(e8 p k).set k (p k)=e8 p (k+1):=by
 have hl:(e8 p k).length=8:=by simp [e8]
 apply List.ext_getElem?;intro j;rw [List.getElem?_set,hl];by_cases hj:j<8
 · rw [zDn p hj,zDn p hj];by_cases e:k=j
   · subst e;rw [if_pos rfl,if_pos hk,if_pos (by omega)]
   · rw [if_neg e];by_cases h:j<k
     · rw [if_pos h,if_pos (by omega)]
     · rw [if_neg h,if_neg (by omega)]
 · rw [if_neg (by omega),List.getElem?_eq_none (by omega),List.getElem?_eq_none (by simp [e8];omega)]
def zAb (x:Int) (v:Value) (W:World):Prop := ∃ g c,v = .slice (some ⟨g,0,none⟩) 1 c∧W.cell? ⟨g,0,none⟩=some (.int .i64 x)
theorem zGn (cb sb:Nat) (ta:Option Addr) (tc:Nat) (L:List Mat) (M:Value) (id:Int) (f:Pt→Int) (G:Nat→Nat→Int) (w:World) (hl:L.length≤1000000000) (hT:SlM w ta L)
 (hC:Bk w cb #[.pointer (some ⟨sb,0,none⟩),.slice ta L.length tc,M] 138) (hf : ∀ p,0≤f p∧f p≤255)
 (hG : ∀ i k:Nat,i<64→k<8→G i k=f ⟨2 * ((i:Int) % 4)+(k:Int) % 2,2 * ((i:Int) / 4 % 4)+(k:Int) / 2 % 2,2 * ((i:Int) / 16)+(k:Int) / 4⟩)
 (HGet:Bx (∀ W,Below w.heap.size w W → ∀ x y z:Int,0≤x∧x<8→0≤y∧y<8→0≤z∧z<8→Calls Tryz.prog 55 #[.pointer (some ⟨sb,0,none⟩),id,(3:Int),.agg #[x,y,z]] W fun e w'=>e = .returned (.int .i64 (f ⟨x,y,z⟩))∧Below W.heap.size W w'))
 (R:Ending→World→Prop) (hR : ∀ e w',R e w' → ∃ i er,e=zLK i er)
 (HBr:Bx (∀ W a cap,Below w.heap.size w W→Sl W .i64 a ((List.range 64).map fun i=>zJj (zx L) (l8 (G i)))→Calls Tryz.prog 67 #[.pointer (some ⟨sb,0,none⟩),.slice a 64 cap] W R)) :
 Calls Tryz.prog 105 #[.pointer (some ⟨cb,0,none⟩),id] w R:=by
 have HP:=Bx.mk fun W (hb:Below w.heap.size w W) p=>zG8 ta tc L p hl W (hT.below hb);have HC:=Bx.mk hC;have HG:=Bx.mk hG;have HR:=Bx.mk hR;have Hf:=Bx.mk hf;generalize zx L=s at *;generalize L.length=nl at *;clear hT hl hC hG hR hf;obtain ⟨C,hCC⟩ : ∃ C,C=(List.range 64).map fun i=>zJj s (l8 (G i)):=⟨_,rfl⟩;rw [←hCC] at HBr;have HCat:Bx (∀ i,i<64→C.take i++[zJj s (l8 (G i))]=C.take (i+1)):=⟨fun i hi=>(zAA (k:=i) (xs:=C) (by rw [hCC,List.getElem?_map,List.getElem?_range hi];rfl)).symm⟩
 have HCl:Bx (C.length=64):=⟨by rw [hCC];simp⟩
 clear hCC;have hmk:=zG6;go_enter Tryz.func105,Tryz.ntmps105;go_upto_region 2 with fail;clear hmk;generalize hW:World.alloc w _=W;have HI:=Bx.mk (show Below w.heap.size w W by rw [←hW];exact (Below.refl _ _).alloc (Nat.le_refl _) _)
 have HO:=Bx.mk (show Own W w.heap.size 3 .i64 (.slice (some ⟨w.heap.size,0,none⟩) 0 64) (C.take 0) by rw [←hW];exact World.ownsRow_made w _ 64 (Nat.le_refl _) (by decide) (by simp [madeCells]))
 clear hW;go_wp2_with fail
 go_loopw [6,12] (fun v6 v12 wr => ∃ i:Nat,i≤64∧v12 = .int .i64 i∧Bx (Below w.heap.size w wr)∧Bx (Own wr w.heap.size 3 .i64 v6 (C.take i))) (fun _ i _=>64 - (intOf i).toNat)
 case atStart=>exact ⟨0,Nat.zero_le _,rfl,HI,HO⟩
 case round =>
  clear HI HO;obtain ⟨i,hi,rfl,HI,HO⟩:=hrel;by_cases hlt:i<64
  · have t0:decide ((i:Int)<64)=true:=by simp;omega
    obtain ⟨px,hpx⟩ : ∃ x:Int,x=(i:Int) % 4:=⟨_,rfl⟩;obtain ⟨py,hpy⟩ : ∃ x:Int,x=(i:Int) / 4 % 4:=⟨_,rfl⟩;obtain ⟨pz,hpz⟩ : ∃ x:Int,x=(i:Int) / 16:=⟨_,rfl⟩;have a1:bits .and .i64 (i:Int) 3=px:=by rw [hpx];exact zFB _ (by omega) (by omega)
    have a2:bits .and .i64 ((i:Int) / 4) 3=py:=by rw [hpy];exact zFB _ (by omega) (by omega)
    have a3:(i:Int) / 16=pz:=hpz.symm;have HGi:Bx (∀ k:Nat,k<8→G i k=f ⟨2 * px+(k:Int) % 2,2 * py+(k:Int) / 2 % 2,2 * pz+(k:Int) / 4⟩):=⟨fun k hk=>by rw [hpx,hpy,hpz];exact HG.out i k hlt hk⟩
    have Hp:Bx ((0≤px∧px<4)∧(0≤py∧py<4)∧(0≤pz∧pz<4)):=⟨by omega⟩
    have Hn:=Bx.mk (HCat.out i hlt);clear hpx hpy hpz;go_upto_region 7 with fail;generalize hW2:World.alloc (World.alloc wr _) _=W2
    have HJ:Bx (Below wr.heap.size wr W2∧Bk W2 wr.heap.size #[px,py,pz] 23∧Bl W2 (wr.heap.size+1) .i64 (e8 (G i) 0) 54):=⟨by
     rw [←hW2];exact ⟨((Below.refl _ _).alloc (Nat.le_refl _) _).alloc (by simp) _,zE (zD _ _ _ (by simp)),by rw [zDp];exact zD _ _ _ (by simp)⟩⟩
    clear hW2 a1 a2 a3;generalize wr=w5 at *;have HI5:=Bx.mk HI.out;clear HI;obtain ⟨pb,hpb⟩ : ∃ n,n=w5.heap.size:=⟨_,rfl⟩;rw [←hpb] at HJ;rw [←hpb];have Hpb:=Bx.mk hpb;clear hpb;go_wp2_with fail
    go_loopw [23] (fun v23 W => ∃ k:Nat,k≤8∧v23 = .int .i64 k∧Bx (Below pb w5 W∧Bk W pb #[px,py,pz] 23∧Bl W (pb+1) .i64 (e8 (G i) k) 54)) (fun k _=>8 - (intOf k).toNat)
    case atStart=>exact ⟨0,Nat.zero_le _,rfl,HJ⟩
    case round =>
     clear HJ;obtain ⟨k,hk,rfl,HJ⟩:=hrel;by_cases hlk:k<8
     · have t1:decide ((k:Int)<8)=true:=by simp;omega
       obtain ⟨kx,hkx⟩ : ∃ x:Int,x=(k:Int) % 2:=⟨_,rfl⟩;obtain ⟨ky,hky⟩ : ∃ x:Int,x=(k:Int) / 2 % 2:=⟨_,rfl⟩;obtain ⟨kz,hkz⟩ : ∃ x:Int,x=(k:Int) / 4:=⟨_,rfl⟩;have b1:=Bx.mk (show bits .and .i64 (k:Int) 1=kx by rw [hkx];exact zFA _ (by omega) (by omega))
       have b2:=Bx.mk (show bits .and .i64 ((k:Int) / 2) 1=ky by rw [hky];exact zFA _ (by omega) (by omega))
       have b3:=Bx.mk (show (k:Int) / 4=kz from hkz.symm);have Hk:=HGi.out k hlk;rw [←hkx,←hky,←hkz] at Hk;obtain ⟨qx,hqx⟩ : ∃ x:Int,x=2 * px+kx:=⟨_,rfl⟩;obtain ⟨qy,hqy⟩ : ∃ x:Int,x=2 * py+ky:=⟨_,rfl⟩;obtain ⟨qz,hqz⟩ : ∃ x:Int,x=2 * pz+kz:=⟨_,rfl⟩;rw [←hqx,←hqy,←hqz] at Hk;have hp:=Hp.out;have Q:Bx ((0≤qx∧qx<8)∧(0≤qy∧qy<8)∧(0≤qz∧qz<8)):=⟨by omega⟩
       have mx:=Bx.mk (show IntKind.i64.wrap (2 * px)=2 * px from IntWalk.i64_in _ (by omega))
       have my:=Bx.mk (show IntKind.i64.wrap (2 * py)=2 * py from IntWalk.i64_in _ (by omega))
       have mz:=Bx.mk (show IntKind.i64.wrap (2 * pz)=2 * pz from IntWalk.i64_in _ (by omega))
       have sx:=Bx.mk (show IntKind.i64.wrap (2 * px+kx)=qx by rw [hqx];exact IntWalk.i64_in _ (by omega))
       have sy:=Bx.mk (show IntKind.i64.wrap (2 * py+ky)=qy by rw [hqy];exact IntWalk.i64_in _ (by omega))
       have sz:=Bx.mk (show IntKind.i64.wrap (2 * pz+kz)=qz by rw [hqz];exact IntWalk.i64_in _ (by omega))
       have Hlk:=Bx.mk hlk;have HHk:=Bx.mk Hk;clear hkx hky hkz hqx hqy hqz hp Hk;have hbw:=Bx.mk (HI5.out.trans (HJ.out.1.mono (by rw [Hpb.out];exact HI5.out.size)))
       have KC:=Bx.mk (HC.out.later hbw.out);have KP:=Bx.mk HJ.out.2.1;have KE:=Bx.mk HJ.out.2.2;have HJ1:=Bx.mk HJ.out.1;clear HJ hlk;go_upto_region 10 with fail
       refine zAN 28 1 (fun ii v w'=>match ii with
        | 0=>v = .int .i64 (k:Int)
        | 1=>v = .pointer (some ⟨cb,0,none⟩)
        | 2=>v = .pointer (some ⟨cb,0,none⟩)
        | 3=>v = .pointer (some ⟨cb,0,none⟩)
        | 4=>v = .pointer (some ⟨sb,0,none⟩)
        | 5=>v = .int .i64 id
        | 6=>v = .pointer (some ⟨pb,0,none⟩)
        | 7=>v = .int .i64 px
        | 8=>v = .int .i64 (2 * px)
        | 9=>v = .int .i64 (k:Int)
        | 10=>v = .int .i64 kx
        | 11=>v = .int .i64 qx
        | 12=>v = .pointer (some ⟨pb,1,none⟩)
        | 13=>v = .int .i64 py
        | 14=>v = .int .i64 (2 * py)
        | 15=>v = .int .i64 (k:Int)
        | 16=>v = .int .i64 ((k:Int) / 2)
        | 17=>v = .int .i64 ky
        | 18=>v = .int .i64 qy
        | 19=>v = .pointer (some ⟨pb,2,none⟩)
        | 20=>v = .int .i64 pz
        | 21=>v = .int .i64 (2 * pz)
        | 22=>v = .int .i64 (k:Int)
        | 23=>v = .int .i64 kz
        | 24=>v = .int .i64 qz
        | 25=>v = .agg #[qx,qy,qz]
        | 26=>v = .int .i64 (f ⟨qx,qy,qz⟩)
        | _=>v = .pointer (some ⟨pb+1,k,none⟩)) (by kernel_rfl) (by kernel_rfl) 73 (by kernel_rfl) (by rfl) ?_ ?_ ?_
       · intro ii hi v u1 u2 hb h
         match ii,hi with
         | 0,_=>exact h
         | 1,_=>exact h
         | 2,_=>exact h
         | 3,_=>exact h
         | 4,_=>exact h
         | 5,_=>exact h
         | 6,_=>exact h
         | 7,_=>exact h
         | 8,_=>exact h
         | 9,_=>exact h
         | 10,_=>exact h
         | 11,_=>exact h
         | 12,_=>exact h
         | 13,_=>exact h
         | 14,_=>exact h
         | 15,_=>exact h
         | 16,_=>exact h
         | 17,_=>exact h
         | 18,_=>exact h
         | 19,_=>exact h
         | 20,_=>exact h
         | 21,_=>exact h
         | 22,_=>exact h
         | 23,_=>exact h
         | 24,_=>exact h
         | 25,_=>exact h
         | 26,_=>exact h
         | 27,_=>exact h
         | j+28,hi=>exact absurd hi (by omega)
       · intro ii o hi ho ρ w1 hb hc1 hc2 hc3 hk
         match ii,hi with
         | 0, _ =>
           obtain rfl:=Option.some.inj ho;have g0:ρ (.tmp 10) = .int .i64 (k:Int):=hk 10 (by simp [Op.operands,Call.operands])
           clear hk hb HI5 HGet HBr HP HO;go_simp;exact Below.refl _ _
         | 1, _ =>
           obtain rfl:=Option.some.inj ho;have g0:ρ (.tmp 0) = .pointer (some ⟨cb,0,none⟩):=hk 0 (by simp [Op.operands,Call.operands])
           clear hk hb HI5 HGet HBr HP HO;go_simp;exact Below.refl _ _
         | 2, _ =>
           obtain rfl:=Option.some.inj ho;have g0:ρ (.tmp 27) = .pointer (some ⟨cb,0,none⟩):=hk 27 (by simp [Op.operands,Call.operands])
           clear hk hb HI5 HGet HBr HP HO;go_simp;exact Below.refl _ _
         | 3, _ =>
           obtain rfl:=Option.some.inj ho;have g0:ρ (.tmp 28) = .pointer (some ⟨cb,0,none⟩):=hk 28 (by simp [Op.operands,Call.operands])
           clear hk hb HI5 HGet HBr HP HO;go_simp;exact Below.refl _ _
         | 4, _ =>
           obtain rfl:=Option.some.inj ho;have g0:ρ (.tmp 29) = .pointer (some ⟨cb,0,none⟩):=hk 29 (by simp [Op.operands,Call.operands])
           have k1:=KC.out.later hb;have z0:=k1.cell 0 rfl;clear hk hb HI5 HGet HBr HP HO;go_simp;exact Below.refl _ _
         | 5, _ =>
           obtain rfl:=Option.some.inj ho;have g0:ρ (.tmp 1) = .int .i64 id:=hk 1 (by simp [Op.operands,Call.operands])
           clear hk hb HI5 HGet HBr HP HO;go_simp;exact Below.refl _ _
         | 6, _ =>
           obtain rfl:=Option.some.inj ho;have g0:ρ (.tmp 8) = .pointer (some ⟨pb,0,none⟩):=hk 8 (by simp [Op.operands,Call.operands])
           clear hk hb HI5 HGet HBr HP HO;go_simp;exact Below.refl _ _
         | 7, _ =>
           obtain rfl:=Option.some.inj ho;have g0:ρ (.tmp 32) = .pointer (some ⟨pb,0,none⟩):=hk 32 (by simp [Op.operands,Call.operands])
           have k1:=KP.out.later hb;have z0:=k1.cell 0 rfl;clear hk hb HI5 HGet HBr HP HO;go_simp;exact Below.refl _ _
         | 8, _ =>
           obtain rfl:=Option.some.inj ho;have g0:ρ (.tmp 33) = .int .i64 px:=hk 33 (by simp [Op.operands,Call.operands])
           have hw:=mx.out;clear hk hb HI5 HGet HBr HP HO;go_simp;exact Below.refl _ _
         | 9, _ =>
           obtain rfl:=Option.some.inj ho;have g0:ρ (.tmp 10) = .int .i64 (k:Int):=hk 10 (by simp [Op.operands,Call.operands])
           clear hk hb HI5 HGet HBr HP HO;go_simp;exact Below.refl _ _
         | 10, _ =>
           obtain rfl:=Option.some.inj ho;have g0:ρ (.tmp 35) = .int .i64 (k:Int):=hk 35 (by simp [Op.operands,Call.operands])
           have hw:=b1.out;clear hk hb HI5 HGet HBr HP HO;go_simp;exact Below.refl _ _
         | 11, _ =>
           obtain rfl:=Option.some.inj ho;have g0:ρ (.tmp 34) = .int .i64 (2 * px):=hk 34 (by simp [Op.operands,Call.operands])
           have g1:ρ (.tmp 36) = .int .i64 kx:=hk 36 (by simp [Op.operands,Call.operands])
           have hw:=sx.out;clear hk hb HI5 HGet HBr HP HO;go_simp;exact Below.refl _ _
         | 12, _ =>
           obtain rfl:=Option.some.inj ho;have g0:ρ (.tmp 8) = .pointer (some ⟨pb,0,none⟩):=hk 8 (by simp [Op.operands,Call.operands])
           clear hk hb HI5 HGet HBr HP HO;go_simp;exact Below.refl _ _
         | 13, _ =>
           obtain rfl:=Option.some.inj ho;have g0:ρ (.tmp 38) = .pointer (some ⟨pb,1,none⟩):=hk 38 (by simp [Op.operands,Call.operands])
           have k1:=KP.out.later hb;have z1:=k1.cell 1 rfl;clear hk hb HI5 HGet HBr HP HO;go_simp;exact Below.refl _ _
         | 14, _ =>
           obtain rfl:=Option.some.inj ho;have g0:ρ (.tmp 39) = .int .i64 py:=hk 39 (by simp [Op.operands,Call.operands])
           have hw:=my.out;clear hk hb HI5 HGet HBr HP HO;go_simp;exact Below.refl _ _
         | 15, _ =>
           obtain rfl:=Option.some.inj ho;have g0:ρ (.tmp 10) = .int .i64 (k:Int):=hk 10 (by simp [Op.operands,Call.operands])
           clear hk hb HI5 HGet HBr HP HO;go_simp;exact Below.refl _ _
         | 16, _ =>
           obtain rfl:=Option.some.inj ho;have g0:ρ (.tmp 41) = .int .i64 (k:Int):=hk 41 (by simp [Op.operands,Call.operands])
           clear hk hb HI5 HGet HBr HP HO;go_simp;exact Below.refl _ _
         | 17, _ =>
           obtain rfl:=Option.some.inj ho;have g0:ρ (.tmp 42) = .int .i64 ((k:Int) / 2):=hk 42 (by simp [Op.operands,Call.operands])
           have hw:=b2.out;clear hk hb HI5 HGet HBr HP HO;go_simp;exact Below.refl _ _
         | 18, _ =>
           obtain rfl:=Option.some.inj ho;have g0:ρ (.tmp 40) = .int .i64 (2 * py):=hk 40 (by simp [Op.operands,Call.operands])
           have g1:ρ (.tmp 43) = .int .i64 ky:=hk 43 (by simp [Op.operands,Call.operands])
           have hw:=sy.out;clear hk hb HI5 HGet HBr HP HO;go_simp;exact Below.refl _ _
         | 19, _ =>
           obtain rfl:=Option.some.inj ho;have g0:ρ (.tmp 8) = .pointer (some ⟨pb,0,none⟩):=hk 8 (by simp [Op.operands,Call.operands])
           clear hk hb HI5 HGet HBr HP HO;go_simp;exact Below.refl _ _
         | 20, _ =>
           obtain rfl:=Option.some.inj ho;have g0:ρ (.tmp 45) = .pointer (some ⟨pb,2,none⟩):=hk 45 (by simp [Op.operands,Call.operands])
           have k1:=KP.out.later hb;have z2:=k1.cell 2 rfl;clear hk hb HI5 HGet HBr HP HO;go_simp;exact Below.refl _ _
         | 21, _ =>
           obtain rfl:=Option.some.inj ho;have g0:ρ (.tmp 46) = .int .i64 pz:=hk 46 (by simp [Op.operands,Call.operands])
           have hw:=mz.out;clear hk hb HI5 HGet HBr HP HO;go_simp;exact Below.refl _ _
         | 22, _ =>
           obtain rfl:=Option.some.inj ho;have g0:ρ (.tmp 10) = .int .i64 (k:Int):=hk 10 (by simp [Op.operands,Call.operands])
           clear hk hb HI5 HGet HBr HP HO;go_simp;exact Below.refl _ _
         | 23, _ =>
           obtain rfl:=Option.some.inj ho;have g0:ρ (.tmp 48) = .int .i64 (k:Int):=hk 48 (by simp [Op.operands,Call.operands])
           have hw:=b3.out;clear hk hb HI5 HGet HBr HP HO;go_simp;exact Below.refl _ _
         | 24, _ =>
           obtain rfl:=Option.some.inj ho;have g0:ρ (.tmp 47) = .int .i64 (2 * pz):=hk 47 (by simp [Op.operands,Call.operands])
           have g1:ρ (.tmp 49) = .int .i64 kz:=hk 49 (by simp [Op.operands,Call.operands])
           have hw:=sz.out;clear hk hb HI5 HGet HBr HP HO;go_simp;exact Below.refl _ _
         | 25, _ =>
           obtain rfl:=Option.some.inj ho;have g0:ρ (.tmp 37) = .int .i64 qx:=hk 37 (by simp [Op.operands,Call.operands])
           have g1:ρ (.tmp 44) = .int .i64 qy:=hk 44 (by simp [Op.operands,Call.operands])
           have g2:ρ (.tmp 50) = .int .i64 qz:=hk 50 (by simp [Op.operands,Call.operands])
           clear hk hb HI5 HGet HBr HP HO;go_simp;exact Below.refl _ _
         | 26, _ =>
           obtain rfl:=Option.some.inj ho;have g0:ρ (.tmp 30) = .pointer (some ⟨sb,0,none⟩):=hk 30 (by simp [Op.operands,Call.operands])
           have g1:ρ (.tmp 31) = .int .i64 id:=hk 31 (by simp [Op.operands,Call.operands])
           have g2:ρ (.tmp 51) = .agg #[qx,qy,qz]:=hk 51 (by simp [Op.operands,Call.operands])
           have h4:=HGet.out w1 (hbw.out.trans (hb.mono hbw.out.size)) qx qy qz Q.out.1 Q.out.2.1 Q.out.2.2;have H4:=Bx.mk h4;clear h4;clear hk hb HI5 HGet HBr HP HO;go_simp
           all_goals exact H4.out
         | 27, _ =>
           obtain rfl:=Option.some.inj ho;have g0:ρ (.tmp 9) = .pointer (some ⟨pb+1,0,none⟩):=hk 9 (by simp [Op.operands,Call.operands])
           have g1:ρ (.tmp 26) = .int .i64 (k:Int):=hk 26 (by simp [Op.operands,Call.operands])
           have hx:=zGm (pb+1) k Hlk.out w1;clear hk hb HI5 HGet HBr HP HO;go_simp;exact Below.refl _ _
         | j+28,hi=>exact absurd hi (by omega)
       · intro vs W1 hlen hb hR
         match vs,hlen with
         | [v0, v1, v2, v3, v4, v5, v6, v7, v8, v9, v10, v11, v12, v13, v14, v15, v16, v17, v18, v19, v20, v21, v22, v23, v24, v25, v26, v27], _ =>
           have r0:v0 = .int .i64 (k:Int):=hR 0 v0 rfl;have r1:v1 = .pointer (some ⟨cb,0,none⟩):=hR 1 v1 rfl;have r2:v2 = .pointer (some ⟨cb,0,none⟩):=hR 2 v2 rfl;have r3:v3 = .pointer (some ⟨cb,0,none⟩):=hR 3 v3 rfl;have r4:v4 = .pointer (some ⟨sb,0,none⟩):=hR 4 v4 rfl;have r5:v5 = .int .i64 id:=hR 5 v5 rfl;have r6:v6 = .pointer (some ⟨pb,0,none⟩):=hR 6 v6 rfl;have r7:v7 = .int .i64 px:=hR 7 v7 rfl;have r8:v8 = .int .i64 (2 * px):=hR 8 v8 rfl;have r9:v9 = .int .i64 (k:Int):=hR 9 v9 rfl;have r10:v10 = .int .i64 kx:=hR 10 v10 rfl;have r11:v11 = .int .i64 qx:=hR 11 v11 rfl;have r12:v12 = .pointer (some ⟨pb,1,none⟩):=hR 12 v12 rfl;have r13:v13 = .int .i64 py:=hR 13 v13 rfl;have r14:v14 = .int .i64 (2 * py):=hR 14 v14 rfl;have r15:v15 = .int .i64 (k:Int):=hR 15 v15 rfl;have r16:v16 = .int .i64 ((k:Int) / 2):=hR 16 v16 rfl;have r17:v17 = .int .i64 ky:=hR 17 v17 rfl;have r18:v18 = .int .i64 qy:=hR 18 v18 rfl;have r19:v19 = .pointer (some ⟨pb,2,none⟩):=hR 19 v19 rfl;have r20:v20 = .int .i64 pz:=hR 20 v20 rfl;have r21:v21 = .int .i64 (2 * pz):=hR 21 v21 rfl;have r22:v22 = .int .i64 (k:Int):=hR 22 v22 rfl;have r23:v23 = .int .i64 kz:=hR 23 v23 rfl;have r24:v24 = .int .i64 qz:=hR 24 v24 rfl;have r25:v25 = .agg #[qx,qy,qz]:=hR 25 v25 rfl;have r26:v26 = .int .i64 (f ⟨qx,qy,qz⟩):=hR 26 v26 rfl;have r27:v27 = .pointer (some ⟨pb+1,k,none⟩):=hR 27 v27 rfl;have r26':=r26;clear hR;subst r0 r1 r2 r3 r4 r5 r6 r7 r8 r9 r10 r11 r12 r13 r14 r15 r16 r17 r18 r19 r20 r21 r22 r23 r24 r25 r26 r27;have kE:=KE.out.later hb;have c0:=kE.cell (zDn (G i) (k:=k) (j:=k) Hlk.out);have f0:=kE.frozen k;simp only [zKA,List.take_succ_cons,List.take_zero,List.drop_succ_cons,List.drop_zero,List.map_cons,List.map_nil,List.zip_cons_cons,List.zip_nil_right,List.foldl_cons,List.foldl_nil];go_wp2_with fail;have hbp:Below pb w5 W1:=HJ1.out.trans (hb.mono (by rw [Hpb.out];exact HJ1.out.size))
           have kE2:=kE.put k (f ⟨qx,qy,qz⟩);rw [←HHk.out,zDo _ Hlk.out] at kE2;have HJ2:=Bx.mk (show Below pb w5 (W1.setCell ⟨pb+1,k,none⟩ (.int .i64 (f ⟨qx,qy,qz⟩)))∧Bk (W1.setCell ⟨pb+1,k,none⟩ (.int .i64 (f ⟨qx,qy,qz⟩))) pb #[px,py,pz] 23∧Bl (W1.setCell ⟨pb+1,k,none⟩ (.int .i64 (f ⟨qx,qy,qz⟩))) (pb+1) .i64 (e8 (G i) (k+1)) 54 from ⟨hbp.setCell (by show pb≤pb+1;omega) _,(KP.out.later hb).other _ _ (by show pb ≠ pb+1;omega),by rw [←HHk.out];exact kE2⟩)
           have hlk:=Hlk.out;clear c0 f0 kE kE2 hbp hb KC KP KE HJ1 b1 b2 b3 mx my mz sx sy sz Q
           go_roundw
           case rel=>exact ⟨k+1,by omega,by go_num,HJ2⟩
           case measure=>simp [intOf];omega
     · have hk8:((k:Nat):Int)=8:=by omega
       rw [hk8];obtain rfl:k=8:=by omega
       clear hk8;have t1:decide ((8:Int)<8)=false:=by decide
       have hbw:=Bx.mk (HI5.out.trans (HJ.out.1.mono (by rw [Hpb.out];exact HI5.out.size)))
       have KC:=Bx.mk (HC.out.later hbw.out);have KE:=Bx.mk HJ.out.2.2;rw [zDm] at KE;have KE:Bx (Bk _ (pb+1) #[.int .i64 (G i 0),.int .i64 (G i 1),.int .i64 (G i 2),.int .i64 (G i 3),.int .i64 (G i 4),.int .i64 (G i 5),.int .i64 (G i 6),.int .i64 (G i 7)] 54):=⟨KE.out⟩;have HO2:=Bx.mk (HO.out.below (by rw [←Hpb.out];exact HJ.out.1))
       have HPi:=Bx.mk fun W hb=>HP.out W hb (G i);clear HJ HO;obtain ⟨pv,hpv⟩ : ∃ x,x=zJj s (l8 (G i)):=⟨_,rfl⟩;rw [←hpv] at Hn HPi;clear hpv;have HLt:=Bx.mk hlt;clear hlt;go_upto_region 12 with fail
       refine zAN 8 1 (fun ii v w'=>match ii with
        | 0=>v=u6
        | 1=>v = .pointer (some ⟨cb,0,none⟩)
        | 2=>v = .pointer (some ⟨cb,0,none⟩)
        | 3=>v = .pointer (some ⟨cb,1,none⟩)
        | 4=>v = .slice ta nl tc
        | 5=>v = .agg #[.int .i64 (G i 0),.int .i64 (G i 1),.int .i64 (G i 2),.int .i64 (G i 3),.int .i64 (G i 4),.int .i64 (G i 5),.int .i64 (G i 6),.int .i64 (G i 7)]
        | 6=>v = .int .i64 pv
        | _=>zAb pv v w') (by kernel_rfl) (by kernel_rfl) 73 (by kernel_rfl) (by rfl) ?_ ?_ ?_
       · intro ii hi v u1 u2 hb h
         match ii,hi with
         | 0,_=>exact h
         | 1,_=>exact h
         | 2,_=>exact h
         | 3,_=>exact h
         | 4,_=>exact h
         | 5,_=>exact h
         | 6,_=>exact h
         | 7,_=>obtain ⟨g,c,h1,h2⟩:=h;exact ⟨g,c,h1,cell_later hb h2⟩
       · intro ii o hi ho ρ w1 hb hc1 hc2 hc3 hk
         match ii,hi with
         | 0, _ =>
           obtain rfl:=Option.some.inj ho;have g0:ρ (.tmp 6)=u6:=hk 6 (by simp [Op.operands,Call.operands])
           clear hk hb HI5 HGet HBr HP HO2;go_simp;exact Below.refl _ _
         | 1, _ =>
           obtain rfl:=Option.some.inj ho;have g0:ρ (.tmp 0) = .pointer (some ⟨cb,0,none⟩):=hk 0 (by simp [Op.operands,Call.operands])
           clear hk hb HI5 HGet HBr HP HO2;go_simp;exact Below.refl _ _
         | 2, _ =>
           obtain rfl:=Option.some.inj ho;have g0:ρ (.tmp 56) = .pointer (some ⟨cb,0,none⟩):=hk 56 (by simp [Op.operands,Call.operands])
           clear hk hb HI5 HGet HBr HP HO2;go_simp;exact Below.refl _ _
         | 3, _ =>
           obtain rfl:=Option.some.inj ho;have g0:ρ (.tmp 57) = .pointer (some ⟨cb,0,none⟩):=hk 57 (by simp [Op.operands,Call.operands])
           clear hk hb HI5 HGet HBr HP HO2;go_simp;exact Below.refl _ _
         | 4, _ =>
           obtain rfl:=Option.some.inj ho;have g0:ρ (.tmp 58) = .pointer (some ⟨cb,1,none⟩):=hk 58 (by simp [Op.operands,Call.operands])
           have k1:=KC.out.later hb;have z1:=k1.cell 1 rfl;clear hk hb HI5 HGet HBr HP HO2;go_simp;exact Below.refl _ _
         | 5, _ =>
           obtain rfl:=Option.some.inj ho;have g0:ρ (.tmp 9) = .pointer (some ⟨pb+1,0,none⟩):=hk 9 (by simp [Op.operands,Call.operands])
           have k1:=KE.out.later hb;obtain ⟨z0,z1,z2,z3,z4,z5,z6,z7⟩:=k1.c8;clear hk hb HI5 HGet HBr HP HO2;go_simp;exact Below.refl _ _
         | 6, _ =>
           obtain rfl:=Option.some.inj ho;have g0:ρ (.tmp 59) = .slice ta nl tc:=hk 59 (by simp [Op.operands,Call.operands])
           have g1:ρ (.tmp 60) = .agg #[.int .i64 (G i 0),.int .i64 (G i 1),.int .i64 (G i 2),.int .i64 (G i 3),.int .i64 (G i 4),.int .i64 (G i 5),.int .i64 (G i 6),.int .i64 (G i 7)]:=hk 60 (by simp [Op.operands,Call.operands])
           have h4:=HPi.out w1 (hbw.out.trans (hb.mono hbw.out.size));have H4:=Bx.mk h4;clear h4;clear hk hb HI5 HGet HBr HP HO2;go_simp
           all_goals exact H4.out
         | 7, _ =>
           obtain rfl:=Option.some.inj ho;have g0:ρ (.tmp 61) = .int .i64 pv:=hk 61 (by simp [Op.operands,Call.operands])
           have Hn:=Bx.mk (show zAb pv (.slice (some ⟨w1.heap.size,0,none⟩) 1 1) (w1.alloc (.cells #[pv] 3)) from ⟨_,_,rfl,zH _ _ _⟩);clear hk hb HI5 HGet HBr HP HO2;go_simp;exact ⟨(Below.refl _ _).alloc (Nat.le_refl _) _,Hn.out⟩
       · intro vs W1 hlen hb hR
         match vs,hlen with
         | [v0, v1, v2, v3, v4, v5, v6, v7], _ =>
           have r0:v0=u6:=hR 0 v0 rfl;have r1:v1 = .pointer (some ⟨cb,0,none⟩):=hR 1 v1 rfl;have r2:v2 = .pointer (some ⟨cb,0,none⟩):=hR 2 v2 rfl;have r3:v3 = .pointer (some ⟨cb,1,none⟩):=hR 3 v3 rfl;have r4:v4 = .slice ta nl tc:=hR 4 v4 rfl;have r5:v5 = .agg #[.int .i64 (G i 0),.int .i64 (G i 1),.int .i64 (G i 2),.int .i64 (G i 3),.int .i64 (G i 4),.int .i64 (G i 5),.int .i64 (G i 6),.int .i64 (G i 7)]:=hR 5 v5 rfl;have r6:v6 = .int .i64 pv:=hR 6 v6 rfl;have r7:zAb pv v7 W1:=hR 7 v7 rfl;clear hR;subst r0 r1 r2 r3 r4 r5 r6;obtain ⟨g,c,rfl,hcell⟩:=r7;have hown:=HO2.out.below hb;have hB1:=hbw.out.trans (hb.mono hbw.out.size);have hln:(C.take i).length≤1000000000:=by have:=HCl.out;rw [List.length_take];omega
           clear KC KE HPi HO2 hb hbw;simp only [zKA,List.take_succ_cons,List.take_zero,List.drop_succ_cons,List.drop_zero,List.map_cons,List.map_nil,List.zip_cons_cons,List.zip_nil_right,List.foldl_cons,List.foldl_nil];simp only [Act.put,List.setIfInBounds_toArray,List.set_cons_succ,List.set_cons_zero]
           at_builtin
           refine zAF rfl _ _ 26 rfl 3 .i64 (.int .i64 0) 8 (by omega) Tryz.underlying26 (by kernel_rfl) rfl w.heap.size _ (C.take i) rfl hown pv ⟨g,0,none⟩ c rfl hcell hln hB1.size ?_
           intro v1 w1 hown1 hg1 _;rw [Hn.out] at hown1;have HO3:=Bx.mk hown1;have HI3:=Bx.mk (hB1.grown hg1 hB1.size (fun g hg=>(hown.lt g hg).1));have hlt:=HLt.out;clear hown1 hg1 hown hB1 hln hcell;go_wp2_with fail
           go_roundw
           case rel=>exact ⟨i+1,by omega,by go_num,HI3,HO3⟩
           case measure=>simp [intOf];omega
  · obtain rfl:i=64:=by omega
    have t0:decide (((64:Nat):Int)<64)=false:=by decide
    have z0:=(HC.out.later HI.out).cell 0 rfl;have hO:=HO.out;rw [List.take_of_length_le (by rw [HCl.out];omega)] at hO
    obtain ⟨a,cap,rfl,hsl⟩:=hO.form;rw [HCl.out];have Hsl:=Bx.mk hsl;clear hO hsl HO;go_wp2_with fail;refine (HBr.out _ a cap HI.out Hsl.out).mono ?_;intro e w' h;obtain ⟨x,er,rfl⟩:=HR.out _ _ h;have Hh:=Bx.mk h;clear h;go_wp2_with fail;exact Hh.out
end
section
open Go.RowKit Go.Sort Go.Maps
open Oct
theorem zGu (nd:Value) (f:Pt→Int) (G:Nat→Int) (px py pz:Int) (w:World) (hp:(0≤px∧px<4)∧(0≤py∧py<4)∧(0≤pz∧pz<4))
 (hG : ∀ k:Nat,k<8→G k=f ⟨2 * px+(k:Int) % 2,2 * py+(k:Int) / 2 % 2,2 * pz+(k:Int) / 4⟩)
 (HGet:Bx (∀ W,Below w.heap.size w W → ∀ x y z:Int,0≤x∧x<8→0≤y∧y<8→0≤z∧z<8→Calls Tryz.prog 56 #[nd,(3:Int),.agg #[x,y,z]] W fun e w'=>e = .returned (.int .i64 (f ⟨x,y,z⟩))∧Below W.heap.size W w')) :
 Calls Tryz.prog 101 #[nd,.agg #[px,py,pz]] w fun e w'=>e = .returned (.agg ((e8 G 8).map (Value.int .i64)).toArray)∧Below w.heap.size w w':=by
 have HG:=Bx.mk hG;have Hp:=Bx.mk hp;clear hG hp;go_enter Tryz.func101,Tryz.ntmps101;go_upto_region 2 with fail;generalize hW:World.alloc (World.alloc (World.alloc w _) _) _=W
 have HJ:Bx (Below w.heap.size w W∧Bk W w.heap.size #[px,py,pz] 23∧Bl W (w.heap.size+1) .i64 (e8 G 0) 54∧Bl W (w.heap.size+2) .i64 (e8 G 0) 54):=⟨by
  rw [←hW,zDp];exact ⟨(((Below.refl _ _).alloc (Nat.le_refl _) _).alloc (ze (Nat.le_refl _) _) _).alloc (ze (ze (Nat.le_refl _) _) _) _,zE (zE (zD _ _ _ (by simp))),zE (zD _ _ _ (by simp)),zD _ _ _ (by simp)⟩⟩
 clear hW;go_wp2_with fail
 go_loopw [6] (fun v6 W => ∃ k:Nat,k≤8∧v6 = .int .i64 k∧Bx (Below w.heap.size w W∧Bk W w.heap.size #[px,py,pz] 23∧Bl W (w.heap.size+1) .i64 (e8 G 0) 54∧Bl W (w.heap.size+2) .i64 (e8 G k) 54)) (fun k _=>8 - (intOf k).toNat)
 case atStart=>exact ⟨0,Nat.zero_le _,rfl,HJ⟩
 case round =>
  clear HJ;obtain ⟨k,hk,rfl,HJ⟩:=hrel;by_cases hlk:k<8
  · have t1:decide ((k:Int)<8)=true:=by simp;omega
    obtain ⟨kx,hkx⟩ : ∃ x:Int,x=(k:Int) % 2:=⟨_,rfl⟩;obtain ⟨ky,hky⟩ : ∃ x:Int,x=(k:Int) / 2 % 2:=⟨_,rfl⟩;obtain ⟨kh,hkh⟩ : ∃ x:Int,x=(k:Int) / 2:=⟨_,rfl⟩;obtain ⟨kz,hkz⟩ : ∃ x:Int,x=(k:Int) / 4:=⟨_,rfl⟩;have b1:(k:Int).tmod 2=kx:=by rw [Int.tmod_eq_emod_of_nonneg (by omega),hkx]
    have b2:IntKind.i64.wrap ((k:Int).tdiv 2)=kh:=by rw [IntWalk.i64_quo _ _ (by omega)];omega
    have b3:kh.tmod 2=ky:=by rw [Int.tmod_eq_emod_of_nonneg (by omega),hky,hkh]
    have b4:IntKind.i64.wrap ((k:Int).tdiv 4)=kz:=by rw [IntWalk.i64_quo _ _ (by omega)];omega
    have Hk:=HG.out k hlk;rw [←hkx,←hky,←hkz] at Hk;obtain ⟨qx,hqx⟩ : ∃ x:Int,x=2 * px+kx:=⟨_,rfl⟩;obtain ⟨qy,hqy⟩ : ∃ x:Int,x=2 * py+ky:=⟨_,rfl⟩;obtain ⟨qz,hqz⟩ : ∃ x:Int,x=2 * pz+kz:=⟨_,rfl⟩;rw [←hqx,←hqy,←hqz] at Hk;have hp:=Hp.out;have Q:Bx ((0≤qx∧qx<8)∧(0≤qy∧qy<8)∧(0≤qz∧qz<8)):=⟨by omega⟩
    have mx:IntKind.i64.wrap (2 * px)=2 * px:=IntWalk.i64_in _ (by omega)
    have my:IntKind.i64.wrap (2 * py)=2 * py:=IntWalk.i64_in _ (by omega)
    have mz:IntKind.i64.wrap (2 * pz)=2 * pz:=IntWalk.i64_in _ (by omega)
    have sy':IntKind.i64.wrap (2 * py+(k:Int) / 2 % 2)=qy:=by rw [←hky,hqy];exact IntWalk.i64_in _ (by omega)
    have sz':IntKind.i64.wrap (2 * pz+(k:Int) / 4)=qz:=by rw [←hkz,hqz];exact IntWalk.i64_in _ (by omega)
    have sx:IntKind.i64.wrap (2 * px+kx)=qx:=by rw [hqx];exact IntWalk.i64_in _ (by omega)
    have sy:IntKind.i64.wrap (2 * py+ky)=qy:=by rw [hqy];exact IntWalk.i64_in _ (by omega)
    have sz:IntKind.i64.wrap (2 * pz+kz)=qz:=by rw [hqz];exact IntWalk.i64_in _ (by omega)
    have Hlk:=Bx.mk hlk;have HHk:=Bx.mk Hk;clear hkx hky hkz hkh hqx hqy hqz hp Hk hlk;obtain ⟨p0,p1,p2⟩:=HJ.out.2.1.c3;go_upto_region 6 with fail;clear p0 p1 p2 b1 b2 b3 b4 mx my mz sx sy sz sy' sz';generalize hW3:World.alloc wr _=W3
    have HJ3:Bx (Below w.heap.size w W3∧Bk W3 w.heap.size #[px,py,pz] 23∧Bl W3 (w.heap.size+1) .i64 (e8 G 0) 54∧Bl W3 (w.heap.size+2) .i64 (e8 G k) 54):=⟨by
     rw [←hW3];exact ⟨HJ.out.1.alloc HJ.out.1.size _,zE HJ.out.2.1,HJ.out.2.2.1.alloc _,HJ.out.2.2.2.alloc _⟩⟩
    have KQ:=Bx.mk (show Bk W3 wr.heap.size #[qx,qy,qz] 23 by rw [←hW3];exact zD _ _ _ rfl)
    clear hW3 HJ;generalize wr.heap.size=pb at *;obtain ⟨q0,q1,q2⟩:=KQ.out.c3;go_wp2_with fail;refine (HGet.out _ HJ3.out.1 qx qy qz Q.out.1 Q.out.2.1 Q.out.2.2).mono ?_;rintro _ W4 ⟨rfl,hb⟩;have HJ4:Bx (Below w.heap.size w W4∧Bk W4 w.heap.size #[px,py,pz] 23∧Bl W4 (w.heap.size+1) .i64 (e8 G 0) 54∧Bl W4 (w.heap.size+2) .i64 (e8 G k) 54):=⟨HJ3.out.1.trans (hb.mono HJ3.out.1.size),HJ3.out.2.1.later hb,HJ3.out.2.2.1.later hb,HJ3.out.2.2.2.later hb⟩;clear HJ3 KQ q0 q1 q2 hb Q;rw [←HHk.out];have hx:=zGm (w.heap.size+2) k Hlk.out;have c0:=HJ4.out.2.2.2.cell (zDn G (k:=k) (j:=k) Hlk.out);have f0:=HJ4.out.2.2.2.frozen k;go_wp2_with fail;have HJ5:Bx (Below w.heap.size w (W4.setCell ⟨w.heap.size+2,k,none⟩ (.int .i64 (G k)))∧Bk (W4.setCell ⟨w.heap.size+2,k,none⟩ (.int .i64 (G k))) w.heap.size #[px,py,pz] 23∧Bl (W4.setCell ⟨w.heap.size+2,k,none⟩ (.int .i64 (G k))) (w.heap.size+1) .i64 (e8 G 0) 54∧Bl (W4.setCell ⟨w.heap.size+2,k,none⟩ (.int .i64 (G k))) (w.heap.size+2) .i64 (e8 G (k+1)) 54):=⟨HJ4.out.1.setCell (by show w.heap.size≤w.heap.size+2;omega) _,HJ4.out.2.1.other _ _ (by show w.heap.size ≠ w.heap.size+2;omega),HJ4.out.2.2.1.other _ _ (by show w.heap.size+1 ≠ w.heap.size+2;omega),by have h:=HJ4.out.2.2.2.put k (G k);rwa [zDo _ Hlk.out] at h⟩
    have hlk:=Hlk.out;clear c0 f0 HJ4
    go_roundw
    case rel=>exact ⟨k+1,by omega,by go_num,HJ5⟩
    case measure=>simp [intOf];omega
  · obtain rfl:k=8:=by omega
    have t1:decide (((8:Nat):Int)<8)=false:=by decide
    have hsz:(((e8 G 8).map (Value.int .i64)).toArray).size=8:=by simp [e8]
    have hs2:(((e8 G 0).map (Value.int .i64)).toArray).size=(((e8 G 8).map (Value.int .i64)).toArray).size:=by simp [e8]
    have H1:=Bx.mk (show ∀ cs:Array Value,cs.size=8→(Tryz.prog.info? 54).map (·.size)=some cs.size from fun cs h=>by rw [h];kernel_rfl)
    have hkr:=Bx.mk HJ.out.2.2.1;have hkw:=Bx.mk HJ.out.2.2.2;have HB:=Bx.mk HJ.out.1;have hsz:=Bx.mk hsz;have hs2:=Bx.mk hs2;clear HJ;generalize hE8:e8 G 8=E8 at *;have HE8:=Bx.mk hE8;clear hE8;generalize e8 G 0=E0 at *;go_upto_region 7 with fail
    go_wp2_with (first
     | refine zAI rfl _ _ rfl (w.heap.size+2) rfl _ _ hkw.out _ Tryz.underlying54 rfl (H1.out _ hsz.out) ?_
     | refine zAJ rfl _ _ _ rfl (w.heap.size+1) rfl _ _ rfl _ hkr.out (H1.out _ hsz.out) hs2.out (zl _ _) ?_)
    refine bodyPost_ret (v:=.agg (E8.map (Value.int .i64)).toArray) (results_cell_row rfl _ _ (w.heap.size+1) 54 _ (0,0) _ rfl (hkr.out.whole _) Tryz.underlying54 rfl (H1.out _ hsz.out)) rfl ⟨by rw [HE8.out],below_setRow HB.out (by omega) _⟩
end
end Go.Proofs.YtgnfgblkpnfcnaaGreatDoor
