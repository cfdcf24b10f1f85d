/- Lha, Tfn, Tch, Lhb: joined by program, for one claim. -/
import Derived.Test.YtgnfgblkpnfcnaaGreatDoorM32
set_option maxHeartbeats 4000000
set_option maxRecDepth 100000
set_option linter.unusedVariables false
set_option linter.unusedSimpArgs false
namespace Go.Proofs.YtgnfgblkpnfcnaaGreatDoor
section
open Go.RowKit Go.Sort Go.Maps
open Oct
attribute [local go_sem] Oper.semAt_some
theorem zGx (cb sb mb:Nat) (ta:Option Addr) (nl tc:Nat) (id d k:Int) (w:World) (hC:Bk w cb #[.pointer (some ⟨sb,0,none⟩),.slice ta nl tc,.map (some mb)] 138) (hk:k=1)
 (HK:Bx (∀ W,Below w.heap.size w W→Calls Tryz.prog 103 #[.pointer (some ⟨sb,0,none⟩),id] W fun e w'=>e = .returned (.int .i64 k)∧W=w')) :
 Calls Tryz.prog 46 #[.pointer (some ⟨cb,0,none⟩),id,d] w fun e w'=>e=zLK id 0∧Below w.heap.size w w':=by
 have HC:=Bx.mk hC;have t0:(k == 1)=true:=by simpa using hk
 clear hC hk;go_enter Tryz.func46,Tryz.ntmps46;go_upto_region 1 with fail;generalize hW:World.alloc (World.alloc (World.alloc w _) _) _=W;have hB:=bl3 hW;have kc:Bk W w.heap.size #[.pointer (some ⟨cb,0,none⟩)] 79:=bk2 hW;have ki:Bk W (w.heap.size+1) #[id] 3:=bk1 hW;have kd:Bk W (w.heap.size+1+1) #[d] 3:=bk0 hW;clear hW;have kk:=HC.out.later hB;have p0 : ∀ dk osk,(grow (redrawn W dk) osk).cell? ⟨w.heap.size,0,none⟩=some (.pointer (some ⟨cb,0,none⟩)):=cell_regrown (kc.cell 0 rfl);have p1 : ∀ dk osk,(grow (redrawn W dk) osk).cell? ⟨w.heap.size+1,0,none⟩=some (.int .i64 id):=cell_regrown (ki.cell 0 rfl);have p2 : ∀ dk osk,(grow (redrawn W dk) osk).cell? ⟨cb,0,none⟩=some (.pointer (some ⟨sb,0,none⟩)):=cell_regrown (kk.cell 0 rfl);have u0:=Bx.mk fun dk osk=>(HK.out (grow (redrawn W dk) osk) (hB.trans ((below_regrown W dk osk).mono hB.size))).mono fun e w' (h:_∧_)=>And.intro h.1 (show Below (grow (redrawn W dk) osk).heap.size (grow (redrawn W dk) osk) w' from h.2 ▸ Below.refl _ _);have u1:=Bx.mk fun dk osk=>Calls.regrown_of (u0.out dk osk);refine wp_region_quiet_below (by kernel_rfl) (by kernel_rfl) ?_
 repeat (first | go_big_quiet_step (exact u1.out _ _) | quiet_step (exact u1.out _ _))
 refine wpQuiet_nil ?_;rintro _ ⟨⟨dq,osq⟩,rfl⟩;have hb:=below_regrown W dq osq;replace hB:=hB.trans (hb.mono hB.size);replace kc:=Bx.mk (kc.later hb);replace ki:=Bx.mk (ki.later hb);replace kd:=Bx.mk (kd.later hb);replace kk:=Bx.mk (kk.later hb);clear hb p0 p1 p2 u0 u1;generalize grow (redrawn W dq) osq=W1 at *;have c1:=ki.out.cell 0 rfl;go_wp2_with fail
 go_ret2
 exact ⟨rfl,hB⟩
theorem zGv (cb sb mb:Nat) (ta:Option Addr) (nl tc:Nat) (id d k:Int) (w:World) (hC:Bk w cb #[.pointer (some ⟨sb,0,none⟩),.slice ta nl tc,.map (some mb)] 138) (h:Int) (hk:k ≠ 1)
 (HK:Bx (∀ W,Below w.heap.size w W→Calls Tryz.prog 103 #[.pointer (some ⟨sb,0,none⟩),id] W fun e w'=>e = .returned (.int .i64 k)∧W=w'))
 (HL:Bx (∀ W,Below w.heap.size w W→(Instr.lookup 136 (.map (some mb)) (.agg #[id,d]) true).run Tryz.prog W = .ok (.tuple #[h,.bool true]) W)) :
 Calls Tryz.prog 46 #[.pointer (some ⟨cb,0,none⟩),id,d] w fun e w'=>e=zLK h 0∧Below w.heap.size w w':=by
 have HC:=Bx.mk hC;have t0:(k == 1)=false:=by simpa using hk
 clear hC hk;go_enter Tryz.func46,Tryz.ntmps46;go_upto_region 1 with fail;generalize hW:World.alloc (World.alloc (World.alloc w _) _) _=W;have hB:=bl3 hW;have kc:Bk W w.heap.size #[.pointer (some ⟨cb,0,none⟩)] 79:=bk2 hW;have ki:Bk W (w.heap.size+1) #[id] 3:=bk1 hW;have kd:Bk W (w.heap.size+1+1) #[d] 3:=bk0 hW;clear hW;have kk:=HC.out.later hB;have p0 : ∀ dk osk,(grow (redrawn W dk) osk).cell? ⟨w.heap.size,0,none⟩=some (.pointer (some ⟨cb,0,none⟩)):=cell_regrown (kc.cell 0 rfl);have p1 : ∀ dk osk,(grow (redrawn W dk) osk).cell? ⟨w.heap.size+1,0,none⟩=some (.int .i64 id):=cell_regrown (ki.cell 0 rfl);have p2 : ∀ dk osk,(grow (redrawn W dk) osk).cell? ⟨cb,0,none⟩=some (.pointer (some ⟨sb,0,none⟩)):=cell_regrown (kk.cell 0 rfl);have u0:=Bx.mk fun dk osk=>(HK.out (grow (redrawn W dk) osk) (hB.trans ((below_regrown W dk osk).mono hB.size))).mono fun e w' (h:_∧_)=>And.intro h.1 (show Below (grow (redrawn W dk) osk).heap.size (grow (redrawn W dk) osk) w' from h.2 ▸ Below.refl _ _);have u1:=Bx.mk fun dk osk=>Calls.regrown_of (u0.out dk osk);refine wp_region_quiet_below (by kernel_rfl) (by kernel_rfl) ?_
 repeat (first | go_big_quiet_step (exact u1.out _ _) | quiet_step (exact u1.out _ _))
 refine wpQuiet_nil ?_;rintro _ ⟨⟨dq,osq⟩,rfl⟩;have hb:=below_regrown W dq osq;replace hB:=hB.trans (hb.mono hB.size);replace kc:=Bx.mk (kc.later hb);replace ki:=Bx.mk (ki.later hb);replace kd:=Bx.mk (kd.later hb);replace kk:=Bx.mk (kk.later hb);clear hb p0 p1 p2 u0 u1;generalize grow (redrawn W dq) osq=W1 at *;go_upto_region 3 with fail
 refine zAN 8 0 (fun ii v w'=>match ii with
  | 0=>v = .pointer (some ⟨cb,0,none⟩)
  | 1=>v = .pointer (some ⟨cb,0,none⟩)
  | 2=>v = .pointer (some ⟨cb,2,none⟩)
  | 3=>v = .map (some mb)
  | 4=>v = .int .i64 id
  | 5=>v = .int .i64 d
  | 6=>v = .agg #[id,d]
  | _=>v = .tuple #[h,.bool true]) (by kernel_rfl) (by kernel_rfl) 52 (by kernel_rfl) (by rfl) ?_ ?_ ?_
 · intro ii hi v u1 u2 hb h
   match ii,hi with
   | 0,_=>exact h
   | 1,_=>exact h
   | 2,_=>exact h
   | 3,_=>exact h
   | 4,_=>exact h
   | 5,_=>exact h
   | 6,_=>exact h
   | 7,_=>exact h
 · intro ii o hi ho ρ w1 hb hc1 hc2 hc3 hk
   match ii,hi with
   | 0, _ =>
     obtain rfl:=Option.some.inj ho;have g0:ρ (.tmp 3) = .pointer (some ⟨w.heap.size,0,none⟩):=hk 3 (by simp [Op.operands,Call.operands])
     have k1:=kc.out.later hb;have z0:=k1.cell 0 rfl;clear hk hb HK HL;go_simp;exact Below.refl _ _
   | 1, _ =>
     obtain rfl:=Option.some.inj ho;have g0:ρ (.tmp 22) = .pointer (some ⟨cb,0,none⟩):=hk 22 (by simp [Op.operands,Call.operands])
     clear hk hb HK HL;go_simp;exact Below.refl _ _
   | 2, _ =>
     obtain rfl:=Option.some.inj ho;have g0:ρ (.tmp 23) = .pointer (some ⟨cb,0,none⟩):=hk 23 (by simp [Op.operands,Call.operands])
     clear hk hb HK HL;go_simp;exact Below.refl _ _
   | 3, _ =>
     obtain rfl:=Option.some.inj ho;have g0:ρ (.tmp 24) = .pointer (some ⟨cb,2,none⟩):=hk 24 (by simp [Op.operands,Call.operands])
     have k1:=kk.out.later hb;have z2:=k1.cell 2 rfl;clear hk hb HK HL;go_simp;exact Below.refl _ _
   | 4, _ =>
     obtain rfl:=Option.some.inj ho;have g0:ρ (.tmp 4) = .pointer (some ⟨w.heap.size+1,0,none⟩):=hk 4 (by simp [Op.operands,Call.operands])
     have k1:=ki.out.later hb;have z0:=k1.cell 0 rfl;clear hk hb HK HL;go_simp;exact Below.refl _ _
   | 5, _ =>
     obtain rfl:=Option.some.inj ho;have g0:ρ (.tmp 5) = .pointer (some ⟨w.heap.size+1+1,0,none⟩):=hk 5 (by simp [Op.operands,Call.operands])
     have k1:=kd.out.later hb;have z0:=k1.cell 0 rfl;clear hk hb HK HL;go_simp;exact Below.refl _ _
   | 6, _ =>
     obtain rfl:=Option.some.inj ho;have g0:ρ (.tmp 26) = .int .i64 id:=hk 26 (by simp [Op.operands,Call.operands])
     have g1:ρ (.tmp 27) = .int .i64 d:=hk 27 (by simp [Op.operands,Call.operands])
     clear hk hb HK HL;go_simp;exact Below.refl _ _
   | 7, _ =>
     obtain rfl:=Option.some.inj ho;have g0:ρ (.tmp 25) = .map (some mb):=hk 25 (by simp [Op.operands,Call.operands])
     have g1:ρ (.tmp 28) = .agg #[id,d]:=hk 28 (by simp [Op.operands,Call.operands])
     have hl:=HL.out w1 (hB.trans (hb.mono hB.size));clear hk hb HK HL;go_simp;exact Below.refl _ _
 · intro vs W2 hlen hb hR
   match vs,hlen with
   | [v0,v1,v2,v3,v4,v5,v6,v7],_ =>
   have r0:v0 = .pointer (some ⟨cb,0,none⟩):=hR 0 v0 rfl;have r1:v1 = .pointer (some ⟨cb,0,none⟩):=hR 1 v1 rfl;have r2:v2 = .pointer (some ⟨cb,2,none⟩):=hR 2 v2 rfl;have r3:v3 = .map (some mb):=hR 3 v3 rfl;have r4:v4 = .int .i64 id:=hR 4 v4 rfl;have r5:v5 = .int .i64 d:=hR 5 v5 rfl;have r6:v6 = .agg #[id,d]:=hR 6 v6 rfl;have r7:v7 = .tuple #[h,.bool true]:=hR 7 v7 rfl;clear hR;subst r0 r1 r2 r3 r4 r5 r6 r7;simp only [zKA,List.take_succ_cons,List.take_zero,List.drop_succ_cons,List.drop_zero,List.map_cons,List.map_nil,List.zip_cons_cons,List.zip_nil_right,List.foldl_cons,List.foldl_nil];replace hB:=hB.trans (hb.mono hB.size);replace kc:=Bx.mk (kc.out.later hb);replace ki:=Bx.mk (ki.out.later hb);replace kd:=Bx.mk (kd.out.later hb);replace kk:=Bx.mk (kk.out.later hb);clear hb;go_wp2_with fail
   go_ret2
   exact ⟨rfl,hB⟩
theorem zGw (cb sb mb:Nat) (ta:Option Addr) (nl tc:Nat) (id d k:Int) (w:World) (hC:Bk w cb #[.pointer (some ⟨sb,0,none⟩),.slice ta nl tc,.map (some mb)] 138) (hk:k ≠ 1) (R1:Ending→World→Prop) (P P2:Int→World→Prop) (Q:World→Prop)
 (HK:Bx (∀ W,Below w.heap.size w W→Calls Tryz.prog 103 #[.pointer (some ⟨sb,0,none⟩),id] W fun e w'=>e = .returned (.int .i64 k)∧W=w'))
 (HL:Bx (∀ W,Below w.heap.size w W→(Instr.lookup 136 (.map (some mb)) (.agg #[id,d]) true).run Tryz.prog W = .ok (.tuple #[(0:Int),.bool false]) W))
 (HM:Bx (∀ W,Below w.heap.size w W→w.heap.size+3≤W.heap.size→Bk W w.heap.size #[.pointer (some ⟨cb,0,none⟩)] 79→Bk W (w.heap.size+1) #[id] 3→Bk W (w.heap.size+1+1) #[d] 3→Calls Tryz.prog 104 #[.pointer (some ⟨w.heap.size+1+1,0,none⟩),.pointer (some ⟨w.heap.size,0,none⟩),.pointer (some ⟨w.heap.size+1,0,none⟩)] W R1))
 (HR : ∀ e w',R1 e w'→(∃ h,e=zLK h 0∧P h w')∨(e=zLK 0 14∧Q w'))
 (HP:Bx (∀ h w',P h w'→(Bk w' w.heap.size #[.pointer (some ⟨cb,0,none⟩)] 79∧Bk w' (w.heap.size+1) #[id] 3∧Bk w' (w.heap.size+1+1) #[d] 3∧Bk w' cb #[.pointer (some ⟨sb,0,none⟩),.slice ta nl tc,.map (some mb)] 138) ∧ ∀ W,Below w'.heap.size w' W → ∃ W',(Instr.mapUpdate 136 (.map (some mb)) (.agg #[id,d]) (.int .i64 h)).run Tryz.prog W = .ok () W'∧P2 h W')) :
 Calls Tryz.prog 46 #[.pointer (some ⟨cb,0,none⟩),id,d] w fun e w'=>(∃ h,e=zLK h 0∧P2 h w')∨(e=zLK 0 14∧Q w'):=by
 have HRb:=Bx.mk HR;clear HR;have HC:=Bx.mk hC;have t0:(k == 1)=false:=by simpa using hk
 clear hC hk;go_enter Tryz.func46,Tryz.ntmps46;go_upto_region 1 with fail;generalize hW:World.alloc (World.alloc (World.alloc w _) _) _=W;have hB:=bl3 hW;have kc:Bk W w.heap.size #[.pointer (some ⟨cb,0,none⟩)] 79:=bk2 hW;have ki:Bk W (w.heap.size+1) #[id] 3:=bk1 hW;have kd:Bk W (w.heap.size+1+1) #[d] 3:=bk0 hW;have hSz:w.heap.size+3≤W.heap.size:=by rw [←hW];simp
 clear hW;have kk:=HC.out.later hB;have p0 : ∀ dk osk,(grow (redrawn W dk) osk).cell? ⟨w.heap.size,0,none⟩=some (.pointer (some ⟨cb,0,none⟩)):=cell_regrown (kc.cell 0 rfl);have p1 : ∀ dk osk,(grow (redrawn W dk) osk).cell? ⟨w.heap.size+1,0,none⟩=some (.int .i64 id):=cell_regrown (ki.cell 0 rfl);have p2 : ∀ dk osk,(grow (redrawn W dk) osk).cell? ⟨cb,0,none⟩=some (.pointer (some ⟨sb,0,none⟩)):=cell_regrown (kk.cell 0 rfl);have u0:=Bx.mk fun dk osk=>(HK.out (grow (redrawn W dk) osk) (hB.trans ((below_regrown W dk osk).mono hB.size))).mono fun e w' (h:_∧_)=>And.intro h.1 (show Below (grow (redrawn W dk) osk).heap.size (grow (redrawn W dk) osk) w' from h.2 ▸ Below.refl _ _);have u1:=Bx.mk fun dk osk=>Calls.regrown_of (u0.out dk osk);refine wp_region_quiet_below (by kernel_rfl) (by kernel_rfl) ?_
 repeat (first | go_big_quiet_step (exact u1.out _ _) | quiet_step (exact u1.out _ _))
 refine wpQuiet_nil ?_;rintro _ ⟨⟨dq,osq⟩,rfl⟩;have hb:=below_regrown W dq osq;replace hB:=hB.trans (hb.mono hB.size);replace kc:=Bx.mk (kc.later hb);replace ki:=Bx.mk (ki.later hb);replace kd:=Bx.mk (kd.later hb);replace kk:=Bx.mk (kk.later hb);replace hSz:=Nat.le_trans hSz hb.size;clear hb p0 p1 p2 u0 u1;generalize grow (redrawn W dq) osq=W1 at *;go_upto_region 3 with fail
 refine zAN 8 0 (fun ii v w'=>match ii with
  | 0=>v = .pointer (some ⟨cb,0,none⟩)
  | 1=>v = .pointer (some ⟨cb,0,none⟩)
  | 2=>v = .pointer (some ⟨cb,2,none⟩)
  | 3=>v = .map (some mb)
  | 4=>v = .int .i64 id
  | 5=>v = .int .i64 d
  | 6=>v = .agg #[id,d]
  | _=>v = .tuple #[(0:Int),.bool false]) (by kernel_rfl) (by kernel_rfl) 52 (by kernel_rfl) (by rfl) ?_ ?_ ?_
 · intro ii hi v u1 u2 hb h
   match ii,hi with
   | 0,_=>exact h
   | 1,_=>exact h
   | 2,_=>exact h
   | 3,_=>exact h
   | 4,_=>exact h
   | 5,_=>exact h
   | 6,_=>exact h
   | 7,_=>exact h
 · intro ii o hi ho ρ w1 hb hc1 hc2 hc3 hk
   match ii,hi with
   | 0, _ =>
     obtain rfl:=Option.some.inj ho;have g0:ρ (.tmp 3) = .pointer (some ⟨w.heap.size,0,none⟩):=hk 3 (by simp [Op.operands,Call.operands])
     have k1:=kc.out.later hb;have z0:=k1.cell 0 rfl;clear hk hb HK HL;go_simp;exact Below.refl _ _
   | 1, _ =>
     obtain rfl:=Option.some.inj ho;have g0:ρ (.tmp 22) = .pointer (some ⟨cb,0,none⟩):=hk 22 (by simp [Op.operands,Call.operands])
     clear hk hb HK HL;go_simp;exact Below.refl _ _
   | 2, _ =>
     obtain rfl:=Option.some.inj ho;have g0:ρ (.tmp 23) = .pointer (some ⟨cb,0,none⟩):=hk 23 (by simp [Op.operands,Call.operands])
     clear hk hb HK HL;go_simp;exact Below.refl _ _
   | 3, _ =>
     obtain rfl:=Option.some.inj ho;have g0:ρ (.tmp 24) = .pointer (some ⟨cb,2,none⟩):=hk 24 (by simp [Op.operands,Call.operands])
     have k1:=kk.out.later hb;have z2:=k1.cell 2 rfl;clear hk hb HK HL;go_simp;exact Below.refl _ _
   | 4, _ =>
     obtain rfl:=Option.some.inj ho;have g0:ρ (.tmp 4) = .pointer (some ⟨w.heap.size+1,0,none⟩):=hk 4 (by simp [Op.operands,Call.operands])
     have k1:=ki.out.later hb;have z0:=k1.cell 0 rfl;clear hk hb HK HL;go_simp;exact Below.refl _ _
   | 5, _ =>
     obtain rfl:=Option.some.inj ho;have g0:ρ (.tmp 5) = .pointer (some ⟨w.heap.size+1+1,0,none⟩):=hk 5 (by simp [Op.operands,Call.operands])
     have k1:=kd.out.later hb;have z0:=k1.cell 0 rfl;clear hk hb HK HL;go_simp;exact Below.refl _ _
   | 6, _ =>
     obtain rfl:=Option.some.inj ho;have g0:ρ (.tmp 26) = .int .i64 id:=hk 26 (by simp [Op.operands,Call.operands])
     have g1:ρ (.tmp 27) = .int .i64 d:=hk 27 (by simp [Op.operands,Call.operands])
     clear hk hb HK HL;go_simp;exact Below.refl _ _
   | 7, _ =>
     obtain rfl:=Option.some.inj ho;have g0:ρ (.tmp 25) = .map (some mb):=hk 25 (by simp [Op.operands,Call.operands])
     have g1:ρ (.tmp 28) = .agg #[id,d]:=hk 28 (by simp [Op.operands,Call.operands])
     have hl:=HL.out w1 (hB.trans (hb.mono hB.size));clear hk hb HK HL;go_simp;exact Below.refl _ _
 · intro vs W2 hlen hb hR
   match vs,hlen with
   | [v0,v1,v2,v3,v4,v5,v6,v7],_ =>
   have r0:v0 = .pointer (some ⟨cb,0,none⟩):=hR 0 v0 rfl;have r1:v1 = .pointer (some ⟨cb,0,none⟩):=hR 1 v1 rfl;have r2:v2 = .pointer (some ⟨cb,2,none⟩):=hR 2 v2 rfl;have r3:v3 = .map (some mb):=hR 3 v3 rfl;have r4:v4 = .int .i64 id:=hR 4 v4 rfl;have r5:v5 = .int .i64 d:=hR 5 v5 rfl;have r6:v6 = .agg #[id,d]:=hR 6 v6 rfl;have r7:v7 = .tuple #[(0:Int),.bool false]:=hR 7 v7 rfl;clear hR;subst r0 r1 r2 r3 r4 r5 r6 r7;simp only [zKA,List.take_succ_cons,List.take_zero,List.drop_succ_cons,List.drop_zero,List.map_cons,List.map_nil,List.zip_cons_cons,List.zip_nil_right,List.foldl_cons,List.foldl_nil];replace hB:=hB.trans (hb.mono hB.size);replace kc:=Bx.mk (kc.out.later hb);replace ki:=Bx.mk (ki.out.later hb);replace kd:=Bx.mk (kd.out.later hb);replace kk:=Bx.mk (kk.out.later hb);replace hSz:=Nat.le_trans hSz hb.size;clear hb;go_wp2_with fail;refine (HM.out _ hB hSz kc.out ki.out kd.out).mono ?_;intro e3 w3 h3;have hR:=HRb.out e3 w3 h3;clear h3 HRb HM HL HK hB hSz kc ki kd kk HC;rcases hR with ⟨h,rfl,hP⟩ | ⟨rfl,hQ⟩
   · obtain ⟨⟨kc,ki,kd,kk⟩,hm⟩:=HP.out h w3 hP;replace kc:=Bx.mk kc;replace ki:=Bx.mk ki;replace kd:=Bx.mk kd;replace kk:=Bx.mk kk;replace hm:=Bx.mk hm;clear hP HP;go_upto_region 9 with fail
     refine zAN 8 1 (fun ii v w'=>match ii with
      | 0=>v = .pointer (some ⟨cb,0,none⟩)
      | 1=>v = .pointer (some ⟨cb,0,none⟩)
      | 2=>v = .pointer (some ⟨cb,2,none⟩)
      | 3=>v = .map (some mb)
      | 4=>v = .int .i64 id
      | 5=>v = .int .i64 d
      | 6=>v = .agg #[id,d]
      | _=>v = .int .i64 h) (by kernel_rfl) (by kernel_rfl) 52 (by kernel_rfl) (by rfl) ?_ ?_ ?_
     · intro ii hi v u1 u2 hb h
       match ii,hi with
       | 0,_=>exact h
       | 1,_=>exact h
       | 2,_=>exact h
       | 3,_=>exact h
       | 4,_=>exact h
       | 5,_=>exact h
       | 6,_=>exact h
       | 7,_=>exact h
     · intro ii o hi ho ρ w1 hb hc1 hc2 hc3 hk
       match ii,hi with
       | 0, _ =>
         obtain rfl:=Option.some.inj ho;have g0:ρ (.tmp 3) = .pointer (some ⟨w.heap.size,0,none⟩):=hk 3 (by simp [Op.operands,Call.operands])
         have k1:=kc.out.later hb;have z0:=k1.cell 0 rfl;clear hk hb hm;go_simp;exact Below.refl _ _
       | 1, _ =>
         obtain rfl:=Option.some.inj ho;have g0:ρ (.tmp 42) = .pointer (some ⟨cb,0,none⟩):=hk 42 (by simp [Op.operands,Call.operands])
         clear hk hb hm;go_simp;exact Below.refl _ _
       | 2, _ =>
         obtain rfl:=Option.some.inj ho;have g0:ρ (.tmp 43) = .pointer (some ⟨cb,0,none⟩):=hk 43 (by simp [Op.operands,Call.operands])
         clear hk hb hm;go_simp;exact Below.refl _ _
       | 3, _ =>
         obtain rfl:=Option.some.inj ho;have g0:ρ (.tmp 44) = .pointer (some ⟨cb,2,none⟩):=hk 44 (by simp [Op.operands,Call.operands])
         have k1:=kk.out.later hb;have z2:=k1.cell 2 rfl;clear hk hb hm;go_simp;exact Below.refl _ _
       | 4, _ =>
         obtain rfl:=Option.some.inj ho;have g0:ρ (.tmp 4) = .pointer (some ⟨w.heap.size+1,0,none⟩):=hk 4 (by simp [Op.operands,Call.operands])
         have k1:=ki.out.later hb;have z0:=k1.cell 0 rfl;clear hk hb hm;go_simp;exact Below.refl _ _
       | 5, _ =>
         obtain rfl:=Option.some.inj ho;have g0:ρ (.tmp 5) = .pointer (some ⟨w.heap.size+1+1,0,none⟩):=hk 5 (by simp [Op.operands,Call.operands])
         have k1:=kd.out.later hb;have z0:=k1.cell 0 rfl;clear hk hb hm;go_simp;exact Below.refl _ _
       | 6, _ =>
         obtain rfl:=Option.some.inj ho;have g0:ρ (.tmp 46) = .int .i64 id:=hk 46 (by simp [Op.operands,Call.operands])
         have g1:ρ (.tmp 47) = .int .i64 d:=hk 47 (by simp [Op.operands,Call.operands])
         clear hk hb hm;go_simp;exact Below.refl _ _
       | 7, _ =>
         obtain rfl:=Option.some.inj ho;have g0:ρ (.tmp 11) = .int .i64 h:=hk 11 (by simp [Op.operands,Call.operands])
         clear hk hb hm;go_simp;exact Below.refl _ _
     · intro vs W2 hlen hb hR
       match vs,hlen with
       | [v0,v1,v2,v3,v4,v5,v6,v7],_ =>
       have r0:v0 = .pointer (some ⟨cb,0,none⟩):=hR 0 v0 rfl;have r1:v1 = .pointer (some ⟨cb,0,none⟩):=hR 1 v1 rfl;have r2:v2 = .pointer (some ⟨cb,2,none⟩):=hR 2 v2 rfl;have r3:v3 = .map (some mb):=hR 3 v3 rfl;have r4:v4 = .int .i64 id:=hR 4 v4 rfl;have r5:v5 = .int .i64 d:=hR 5 v5 rfl;have r6:v6 = .agg #[id,d]:=hR 6 v6 rfl;have r7:v7 = .int .i64 h:=hR 7 v7 rfl;clear hR;subst r0 r1 r2 r3 r4 r5 r6 r7;simp only [zKA,List.take_succ_cons,List.take_zero,List.drop_succ_cons,List.drop_zero,List.map_cons,List.map_nil,List.zip_cons_cons,List.zip_nil_right,List.foldl_cons,List.foldl_nil];obtain ⟨W4,hrun,hP2⟩:=hm.out W2 hb;have HP2:=Bx.mk hP2;clear hm hb hP2 kc ki kd kk;go_wp2_with fail
       go_ret2
       exact .inl ⟨h,rfl,HP2.out⟩
   · have HQ:=Bx.mk hQ;clear hQ HP;go_wp2_with fail
     go_ret2
     exact .inr ⟨rfl,HQ.out⟩
end
section
open Go.RowKit
open Oct
abbrev wholeB (n:Nat):Box:=zL (2 ^ (n+2))
end
section
open Go.RowKit Go.Sort Go.Maps
open Oct
def kindV:Tr→Int
 | .uni _=>1
 | .brick _=>2
 | .node _ _=>3
theorem zGA (Far:Nat→Prop) (sb:Nat) (most:Int) (ts:List Tr) (t:Tr) (ht:t∈ts) (hlen:ts.length≤4194304) (w:World) (hS:StoreIs w Far sb most ts) :
 Calls Tryz.prog 103 #[.pointer (some ⟨sb,0,none⟩),(idT ts t:Int)] w fun e w'=>e = .returned (.int .i64 (kindV t))∧w=w' :=
 zGB Far sb most ts _ t (zFC ht) (kindV t) (by cases t <;> rfl) hlen w hS
noncomputable abbrev kidsV (ts:List Tr) (t:Tr):Value:=.agg #[(idT ts (t.kid 0):Int),(idT ts (t.kid 1):Int),(idT ts (t.kid 2):Int),(idT ts (t.kid 3):Int),(idT ts (t.kid 4):Int),(idT ts (t.kid 5):Int),(idT ts (t.kid 6):Int),(idT ts (t.kid 7):Int)]
theorem zMc (Far:Nat→Prop) (sb:Nat) (most:Int) (ts:List Tr) (d:Nat) (ch:Fin 8→Tr) (ht:Tr.node d ch∈ts) (w:World) (hS:StoreIs w Far sb most ts) :
 Calls Tryz.prog 68 #[.pointer (some ⟨sb,0,none⟩),(idT ts (.node d ch):Int)] w fun e w'=>e = .returned (kidsV ts (.node d ch))∧Below w.heap.size w w' :=
 zCi Far sb most ts _ (.node d ch) (zFC ht) _ _ _ _ _ _ _ _ (fun j u hu=>by
  match j with
  | 0=>simp at hu;subst hu;rfl
  | 1=>simp at hu;subst hu;rfl
  | 2=>simp at hu;subst hu;rfl
  | 3=>simp at hu;subst hu;rfl
  | 4=>simp at hu;subst hu;rfl
  | 5=>simp at hu;subst hu;rfl
  | 6=>simp at hu;subst hu;rfl
  | 7=>simp at hu;subst hu;rfl
  | j+8=>simp at hu) w hS
theorem bk8 {w:World} {g:Nat} {x0 x1 x2 x3 x4 x5 x6 x7:Value} {t:TypeId} (h:Bk w g #[x0,x1,x2,x3,x4,x5,x6,x7] t) (a b c d e f i j:Value):Bk ((((((((w.setCell ⟨g,0,none⟩ a).setCell ⟨g,1,none⟩ b).setCell ⟨g,2,none⟩ c).setCell ⟨g,3,none⟩ d).setCell ⟨g,4,none⟩ e).setCell ⟨g,5,none⟩ f).setCell ⟨g,6,none⟩ i).setCell ⟨g,7,none⟩ j) g #[a,b,c,d,e,f,i,j] t:=by
 simpa using (((((((h.set 0 a).set 1 b).set 2 c).set 3 d).set 4 e).set 5 f).set 6 i).set 7 j
end
section
open Go.RowKit Go.Sort Go.Maps
open Oct
attribute [local go_sem] Oper.semAt_some
theorem zGy (pd pc pi cb:Nat) (id:Int) (w:World) (kd:Bk w pd #[(3:Int)] 3) (kc:Bk w pc #[.pointer (some ⟨cb,0,none⟩)] 79) (ki:Bk w pi #[id] 3) (R:Ending→World→Prop) (HR : ∀ e w',R e w' → ∃ i er,e=zLK i er)
 (HB:Bx (Calls Tryz.prog 105 #[.pointer (some ⟨cb,0,none⟩),id] w R)) :
 Calls Tryz.prog 104 #[.pointer (some ⟨pd,0,none⟩),.pointer (some ⟨pc,0,none⟩),.pointer (some ⟨pi,0,none⟩)] w R:=by
 have c0:=kd.cell 0 rfl;have c1:=kc.cell 0 rfl;have c2:=ki.cell 0 rfl;have HRb:=Bx.mk HR;clear HR kd kc ki;go_enter Tryz.func104,Tryz.ntmps104;go_wp2_with fail;refine HB.out.mono ?_;intro e w1 h;obtain ⟨i,er,rfl⟩:=HRb.out e w1 h;have H:=Bx.mk h;clear h;go_wp2_with fail
 first
  | exact H.out
  | (go_ret2;exact H.out)
theorem bk8s {w:World} {g:Nat} {x0 x1 x2 x3 x4 x5 x6 x7:Value} {t:TypeId} (h:Bk w g #[x0,x1,x2,x3,x4,x5,x6,x7] t) (B:Nat) (W:World) (hb:Below B W w) (hg:B≤g) (x:Nat→Int) :
 ∃ W3,W3=((((((((w.setCell ⟨g,0,none⟩ (.int .i64 (x 0))).setCell ⟨g,1,none⟩ (.int .i64 (x 1))).setCell ⟨g,2,none⟩ (.int .i64 (x 2))).setCell ⟨g,3,none⟩ (.int .i64 (x 3))).setCell ⟨g,4,none⟩ (.int .i64 (x 4))).setCell ⟨g,5,none⟩ (.int .i64 (x 5))).setCell ⟨g,6,none⟩ (.int .i64 (x 6))).setCell ⟨g,7,none⟩ (.int .i64 (x 7)))∧Bk W3 g #[.int .i64 (x 0),.int .i64 (x 1),.int .i64 (x 2),.int .i64 (x 3),.int .i64 (x 4),.int .i64 (x 5),.int .i64 (x 6),.int .i64 (x 7)] t∧Below B W W3∧W3.heap.size=w.heap.size :=
 ⟨_,rfl,bk8 h _ _ _ _ _ _ _ _,blw8 hb hg _ _ _ _ _ _ _ _,by simp⟩
theorem zGz (pd pc pi cb sb mb:Nat) (ta:Option Addr) (nl tc:Nat) (id d:Int) (x:Nat→Int) (w:World) (hd:d ≠ 3) (hdr:0≤d∧d≤100) (hC:(Bk w pd #[d] 3∧Bk w pc #[.pointer (some ⟨cb,0,none⟩)] 79∧Bk w pi #[id] 3∧Bk w cb #[.pointer (some ⟨sb,0,none⟩),.slice ta nl tc,.map (some mb)] 138))
 (HK:Bx (∀ W,Below w.heap.size w W→Calls Tryz.prog 68 #[.pointer (some ⟨sb,0,none⟩),id] W fun e w'=>e = .returned (.agg #[.int .i64 (x 0),.int .i64 (x 1),.int .i64 (x 2),.int .i64 (x 3),.int .i64 (x 4),.int .i64 (x 5),.int .i64 (x 6),.int .i64 (x 7)])∧Below W.heap.size W w'))
 (J:Nat→Nat→World→Prop) (Q:World→Prop) (R:Ending→World→Prop) (HR : ∀ e w',R e w' → ∃ i er,e=zLK i er)
 (H0:Bx (∀ gk W,Below w.heap.size w W→w.heap.size≤gk→gk<W.heap.size→Bk W gk #[.int .i64 (x 0),.int .i64 (x 1),.int .i64 (x 2),.int .i64 (x 3),.int .i64 (x 4),.int .i64 (x 5),.int .i64 (x 6),.int .i64 (x 7)] 54→J gk 0 W))
 (HJ:Bx (∀ gk k W,J gk k W→(Bk W pd #[d] 3∧Bk W pc #[.pointer (some ⟨cb,0,none⟩)] 79∧Bk W pi #[id] 3∧Bk W cb #[.pointer (some ⟨sb,0,none⟩),.slice ta nl tc,.map (some mb)] 138)))
 (HS:Bx (∀ gk k W,k<8→J gk k W→Calls Tryz.prog 46 #[.pointer (some ⟨cb,0,none⟩),.int .i64 (x k),.int .i64 (d - 1)] W fun e w'=>(∃ h,e=zLK h 0∧(∃ vs,Bk w' gk vs 54∧vs.size=8)∧J gk (k+1) (w'.setCell ⟨gk,k,none⟩ (.int .i64 h)))∨(e=zLK 0 14∧Q w')))
 (HE:Bx (∀ gk W,J gk 8 W → ∃ y:Nat→Int,Bk W gk #[.int .i64 (y 0),.int .i64 (y 1),.int .i64 (y 2),.int .i64 (y 3),.int .i64 (y 4),.int .i64 (y 5),.int .i64 (y 6),.int .i64 (y 7)] 54 ∧ ∀ W',Below W.heap.size W W'→Calls Tryz.prog 106 #[.pointer (some ⟨sb,0,none⟩),.int .i64 (d - 1),.agg #[.int .i64 (y 0),.int .i64 (y 1),.int .i64 (y 2),.int .i64 (y 3),.int .i64 (y 4),.int .i64 (y 5),.int .i64 (y 6),.int .i64 (y 7)]] W' R)) :
 Calls Tryz.prog 104 #[.pointer (some ⟨pd,0,none⟩),.pointer (some ⟨pc,0,none⟩),.pointer (some ⟨pi,0,none⟩)] w fun e w'=>R e w'∨(e=zLK 0 14∧Q w'):=by
 obtain ⟨kd,kc,ki,kk⟩:=hC;have c0:=kd.cell 0 rfl;have t0:(d == 3)=false:=by simpa using hd
 obtain ⟨d1,hdd⟩ : ∃ d1,d1=d - 1:=⟨_,rfl⟩;have hd1:Bx (IntKind.i64.wrap (d - 1)=d1):=⟨by rw [hdd];exact IntWalk.i64_in _ (by omega)⟩
 rw [←hdd] at HS HE;have HRb:=Bx.mk HR;replace kd:=Bx.mk kd;replace kc:=Bx.mk kc;replace ki:=Bx.mk ki;replace kk:=Bx.mk kk;clear hd hdr HR hdd;go_enter Tryz.func104,Tryz.ntmps104;go_upto_region 3 with fail;clear c0 t0
 refine zOW 7 (fun ii v w'=>match ii with
  | 0=>v = .pointer (some ⟨cb,0,none⟩)
  | 1=>v = .pointer (some ⟨cb,0,none⟩)
  | 2=>v = .pointer (some ⟨cb,0,none⟩)
  | 3=>v = .pointer (some ⟨sb,0,none⟩)
  | 4=>v = .int .i64 id
  | 5=>v = .agg #[.int .i64 (x 0),.int .i64 (x 1),.int .i64 (x 2),.int .i64 (x 3),.int .i64 (x 4),.int .i64 (x 5),.int .i64 (x 6),.int .i64 (x 7)]
  | _ => ∃ g,v = .pointer (some ⟨g,0,none⟩)∧w.heap.size≤g∧Bk w' g #[(0:Int),(0:Int),(0:Int),(0:Int),(0:Int),(0:Int),(0:Int),(0:Int)] 54) (by kernel_rfl) (by kernel_rfl) 53 (by kernel_rfl) (by rfl) ?_ ?_ ?_
 · intro ii hi v u1 u2 hb h
   match ii,hi with
   | 0,_=>exact h
   | 1,_=>exact h
   | 2,_=>exact h
   | 3,_=>exact h
   | 4,_=>exact h
   | 5,_=>exact h
   | 6,_=>obtain ⟨g2,h1,h2,h3⟩:=h;exact ⟨g2,h1,h2,h3.later hb⟩
 · intro ii o hi ho ρ w1 hb hc1 hc2 hc3 hk
   match ii,hi with
   | 0, _ =>
     obtain rfl:=Option.some.inj ho;have g0:ρ (.tmp 1) = .pointer (some ⟨pc,0,none⟩):=hk 1 (by simp [Op.operands,Call.operands])
     have k1:=kc.out.later hb;have z0:=k1.cell 0 rfl;clear hk hb HS HE HJ H0;go_simp;exact Below.refl _ _
   | 1, _ =>
     obtain rfl:=Option.some.inj ho;have g0:ρ (.tmp 17) = .pointer (some ⟨cb,0,none⟩):=hk 17 (by simp [Op.operands,Call.operands])
     clear hk hb HS HE HJ H0;go_simp;exact Below.refl _ _
   | 2, _ =>
     obtain rfl:=Option.some.inj ho;have g0:ρ (.tmp 18) = .pointer (some ⟨cb,0,none⟩):=hk 18 (by simp [Op.operands,Call.operands])
     clear hk hb HS HE HJ H0;go_simp;exact Below.refl _ _
   | 3, _ =>
     obtain rfl:=Option.some.inj ho;have g0:ρ (.tmp 19) = .pointer (some ⟨cb,0,none⟩):=hk 19 (by simp [Op.operands,Call.operands])
     have k1:=kk.out.later hb;have z0:=k1.cell 0 rfl;clear hk hb HS HE HJ H0;go_simp;exact Below.refl _ _
   | 4, _ =>
     obtain rfl:=Option.some.inj ho;have g0:ρ (.tmp 2) = .pointer (some ⟨pi,0,none⟩):=hk 2 (by simp [Op.operands,Call.operands])
     have k1:=ki.out.later hb;have z0:=k1.cell 0 rfl;clear hk hb HS HE HJ H0;go_simp;exact Below.refl _ _
   | 5, _ =>
     obtain rfl:=Option.some.inj ho;have g0:ρ (.tmp 20) = .pointer (some ⟨sb,0,none⟩):=hk 20 (by simp [Op.operands,Call.operands])
     have g1:ρ (.tmp 21) = .int .i64 id:=hk 21 (by simp [Op.operands,Call.operands])
     have h4:=HK.out w1 hb;have H4:=Bx.mk h4;clear h4;clear hk hb HS HE HJ H0;go_simp
     all_goals exact H4.out
   | 6, _ =>
     obtain rfl:=Option.some.inj ho;have hbs:=hb.size;have Hn:=Bx.mk (show Bk (w1.alloc (.cells #[(0:Int),(0:Int),(0:Int),(0:Int),(0:Int),(0:Int),(0:Int),(0:Int)] 54)) w1.heap.size #[(0:Int),(0:Int),(0:Int),(0:Int),(0:Int),(0:Int),(0:Int),(0:Int)] 54 from Bk.new _ _ _);clear hk hb HS HE HJ H0;go_simp;exact ⟨(Below.refl _ _).alloc (Nat.le_refl _) _,Hn.out⟩
 · intro vs W1 hlen hb hR
   match vs,hlen with
   | [v0,v1,v2,v3,v4,v5,v6],_ =>
   have r0:v0 = .pointer (some ⟨cb,0,none⟩):=hR 0 v0 rfl;have r1:v1 = .pointer (some ⟨cb,0,none⟩):=hR 1 v1 rfl;have r2:v2 = .pointer (some ⟨cb,0,none⟩):=hR 2 v2 rfl;have r3:v3 = .pointer (some ⟨sb,0,none⟩):=hR 3 v3 rfl;have r4:v4 = .int .i64 id:=hR 4 v4 rfl;have r5:v5 = .agg #[.int .i64 (x 0),.int .i64 (x 1),.int .i64 (x 2),.int .i64 (x 3),.int .i64 (x 4),.int .i64 (x 5),.int .i64 (x 6),.int .i64 (x 7)]:=hR 5 v5 rfl;have r6x:=hR 6 v6 rfl;clear hR;subst r0 r1 r2 r3 r4 r5;obtain ⟨gk,rfl,hgk,kr⟩:=r6x;have hgl:=kr.lt;have cr0:=kr.cell 0 rfl;have cr1:=kr.cell 1 rfl;have cr2:=kr.cell 2 rfl;have cr3:=kr.cell 3 rfl;have cr4:=kr.cell 4 rfl;have cr5:=kr.cell 5 rfl;have cr6:=kr.cell 6 rfl;have cr7:=kr.cell 7 rfl;have fr0:=kr.frozen 0;have fr1:=kr.frozen 1;have fr2:=kr.frozen 2;have fr3:=kr.frozen 3;have fr4:=kr.frozen 4;have fr5:=kr.frozen 5;have fr6:=kr.frozen 6;have fr7:=kr.frozen 7;simp only [zKA,List.take_succ_cons,List.take_zero,List.drop_succ_cons,List.drop_zero,List.map_cons,List.map_nil,List.zip_cons_cons,List.zip_nil_right,List.foldl_cons,List.foldl_nil];go_upto_region 4 with fail;obtain ⟨W3,hW3,kr3,hB3,hsz⟩:=bk8s kr w.heap.size w hb hgk x;rw [←hW3];have HI:=Bx.mk (H0.out gk W3 hB3 hgk (by rw [hsz];exact hgl) kr3)
   have e0:=kr3.cell 0 rfl;have e1:=kr3.cell 1 rfl;have e2:=kr3.cell 2 rfl;have e3:=kr3.cell 3 rfl;have e4:=kr3.cell 4 rfl;have e5:=kr3.cell 5 rfl;have e6:=kr3.cell 6 rfl;have e7:=kr3.cell 7 rfl;clear cr0 fr0 cr1 fr1 cr2 fr2 cr3 fr3 cr4 fr4 cr5 fr5 cr6 fr6 cr7 fr7 hW3 kr hB3 hsz hb hgl kd kc ki kk HK H0 kr3 hgk;go_upto_region 5 with fail;clear e0 e1 e2 e3 e4 e5 e6 e7
   go_loopw [24] (fun i wr => ∃ k:Nat,k≤8∧i = .int .i64 k∧Bx (J gk k wr)) (fun i _=>8 - (intOf i).toNat)
   case atStart=>exact ⟨0,Nat.zero_le _,rfl,HI⟩
   case round =>
    clear HI;obtain ⟨k,hk,rfl,hI⟩:=hrel;obtain ⟨kd,kc,ki,kk⟩:=HJ.out gk k wr hI.out;by_cases hlt:k<8
    · have t1:decide ((k:Int)<8)=true:=by simp;omega
      have hidx:=fun V=>zFF x k hlt V;have hS:=Bx.mk (HS.out gk k wr hlt hI.out);have c0:=kd.cell 0 rfl;have c1:=kc.cell 0 rfl;have hw:=hd1.out;have Hlt:=Bx.mk hlt;clear kd kc ki kk hI HE HJ HS hlt;go_wp2_with fail;refine hS.out.mono ?_;intro e5 w5 h5;clear hS c0 c1;rcases h5 with ⟨h,rfl,⟨vs,kv,hvs⟩,hJ⟩ | ⟨rfl,hQ⟩
      · have HJ2:=Bx.mk hJ;have hlt:=Hlt.out;have b1:(0:Int)≤(k:Int):=by omega
        have b2:(k:Int)<8:=by omega
        have hfr:=kv.frozen k;obtain ⟨u,hcell⟩ : ∃ u,w5.cell? ⟨gk,k,none⟩=some u:=⟨vs[k]'(by omega),kv.cell k (by simp [hvs,hlt])⟩
        clear hJ kv hvs;go_wp2_with fail
        go_roundw
        case rel=>exact ⟨k+1,by omega,by go_num,HJ2⟩
        case measure=>simp [intOf];omega
      · have HQ:=Bx.mk hQ;clear hQ;go_wp2_with fail
        go_ret2
        exact .inr ⟨rfl,HQ.out⟩
    · obtain rfl:k=8:=by omega
      have t1:decide (((8:Nat):Int)<8)=false:=by decide
      obtain ⟨y,ky,hE⟩:=HE.out gk wr hI.out;replace kd:=Bx.mk kd;replace kc:=Bx.mk kc;replace ki:=Bx.mk ki;replace kk:=Bx.mk kk;replace ky:=Bx.mk ky;replace hE:=Bx.mk hE;clear hI HE HJ HS hlt;go_upto_region 12 with fail
      refine zAN 7 1 (fun ii v w'=>match ii with
       | 0=>v = .pointer (some ⟨cb,0,none⟩)
       | 1=>v = .pointer (some ⟨cb,0,none⟩)
       | 2=>v = .pointer (some ⟨cb,0,none⟩)
       | 3=>v = .pointer (some ⟨sb,0,none⟩)
       | 4=>v = .int .i64 d
       | 5=>v = .int .i64 d1
       | _=>v = .agg #[.int .i64 (y 0),.int .i64 (y 1),.int .i64 (y 2),.int .i64 (y 3),.int .i64 (y 4),.int .i64 (y 5),.int .i64 (y 6),.int .i64 (y 7)]) (by kernel_rfl) (by kernel_rfl) 53 (by kernel_rfl) (by rfl) ?_ ?_ ?_
      · intro ii hi v u1 u2 hb h
        match ii,hi with
        | 0,_=>exact h
        | 1,_=>exact h
        | 2,_=>exact h
        | 3,_=>exact h
        | 4,_=>exact h
        | 5,_=>exact h
        | 6,_=>exact h
      · intro ii o hi ho ρ w1 hb hc1 hc2 hc3 hk
        match ii,hi with
        | 0, _ =>
          obtain rfl:=Option.some.inj ho;have g0:ρ (.tmp 1) = .pointer (some ⟨pc,0,none⟩):=hk 1 (by simp [Op.operands,Call.operands])
          have k1:=kc.out.later hb;have z0:=k1.cell 0 rfl;clear hk hb hE;go_simp;exact Below.refl _ _
        | 1, _ =>
          obtain rfl:=Option.some.inj ho;have g0:ρ (.tmp 43) = .pointer (some ⟨cb,0,none⟩):=hk 43 (by simp [Op.operands,Call.operands])
          clear hk hb hE;go_simp;exact Below.refl _ _
        | 2, _ =>
          obtain rfl:=Option.some.inj ho;have g0:ρ (.tmp 44) = .pointer (some ⟨cb,0,none⟩):=hk 44 (by simp [Op.operands,Call.operands])
          clear hk hb hE;go_simp;exact Below.refl _ _
        | 3, _ =>
          obtain rfl:=Option.some.inj ho;have g0:ρ (.tmp 45) = .pointer (some ⟨cb,0,none⟩):=hk 45 (by simp [Op.operands,Call.operands])
          have k1:=kk.out.later hb;have z0:=k1.cell 0 rfl;clear hk hb hE;go_simp;exact Below.refl _ _
        | 4, _ =>
          obtain rfl:=Option.some.inj ho;have g0:ρ (.tmp 0) = .pointer (some ⟨pd,0,none⟩):=hk 0 (by simp [Op.operands,Call.operands])
          have k1:=kd.out.later hb;have z0:=k1.cell 0 rfl;clear hk hb hE;go_simp;exact Below.refl _ _
        | 5, _ =>
          obtain rfl:=Option.some.inj ho;have g0:ρ (.tmp 47) = .int .i64 d:=hk 47 (by simp [Op.operands,Call.operands])
          have hw:=hd1.out;clear hk hb hE;go_simp;exact Below.refl _ _
        | 6, _ =>
          obtain rfl:=Option.some.inj ho;have g0:ρ (.tmp 5) = .pointer (some ⟨gk,0,none⟩):=hk 5 (by simp [Op.operands,Call.operands])
          have k1:=ky.out.later hb;obtain ⟨z0,z1,z2,z3,z4,z5,z6,z7⟩:=k1.c8;clear hk hb hE;go_simp;exact Below.refl _ _
      · intro vs W2 hlen hb hR
        match vs,hlen with
        | [v0,v1,v2,v3,v4,v5,v6],_ =>
        have r0:v0 = .pointer (some ⟨cb,0,none⟩):=hR 0 v0 rfl;have r1:v1 = .pointer (some ⟨cb,0,none⟩):=hR 1 v1 rfl;have r2:v2 = .pointer (some ⟨cb,0,none⟩):=hR 2 v2 rfl;have r3:v3 = .pointer (some ⟨sb,0,none⟩):=hR 3 v3 rfl;have r4:v4 = .int .i64 d:=hR 4 v4 rfl;have r5:v5 = .int .i64 d1:=hR 5 v5 rfl;have r6:v6 = .agg #[.int .i64 (y 0),.int .i64 (y 1),.int .i64 (y 2),.int .i64 (y 3),.int .i64 (y 4),.int .i64 (y 5),.int .i64 (y 6),.int .i64 (y 7)]:=hR 6 v6 rfl;clear hR;subst r0 r1 r2 r3 r4 r5 r6;replace hE:=Bx.mk (hE.out W2 hb);clear hb kd kc ki kk ky;simp only [zKA,List.take_succ_cons,List.take_zero,List.drop_succ_cons,List.drop_zero,List.map_cons,List.map_nil,List.zip_cons_cons,List.zip_nil_right,List.foldl_cons,List.foldl_nil];go_wp2_with fail;refine hE.out.mono ?_;intro e9 w9 h9;obtain ⟨i9,er9,rfl⟩:=HRb.out e9 w9 h9;have H9:=Bx.mk h9;clear h9;go_wp2_with fail
        first
         | exact .inl H9.out
         | (go_ret2;exact .inl H9.out)
end
end Go.Proofs.YtgnfgblkpnfcnaaGreatDoor
