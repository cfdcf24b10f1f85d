/- Oct1, Out: joined by program, for one claim. -/
import Derived.Test.YtgnfgblkpnfcnaaGreatDoorM7
set_option linter.unusedVariables false
set_option linter.unusedSimpArgs false
namespace Go.Proofs.YtgnfgblkpnfcnaaGreatDoor
section
open Go.RowKit Go.Sort
theorem zFl (c:Int) (w:World) :
 Calls Tryz.prog 63 #[c] w fun e w'=>e = .returned (.bool (decide (0≤c∧c≤255)))∧w=w':=by
 go_enter Tryz.func63,Tryz.ntmps63;go_wp2
 all_goals
  go_ret;exact ⟨zr (by rw [Bool.eq_iff_iff];simp;omega),rfl⟩
theorem zn {n:Nat} (hn:n≤14):(1:Int)≤2 ^ n∧(2:Int) ^ n≤16384:=by
 have h1:2 ^ n≤2 ^ 14:=Nat.pow_le_pow_right (by decide) hn
 have h2:0<2 ^ n:=Nat.pow_pos (by decide)
 have h3:((2 ^ n:Nat):Int)=(2:Int) ^ n:=by simp
 omega
theorem zo {n:Nat} (hn:n≤14):IntKind.i64.wrap ((2:Int) ^ n)=2 ^ n:=IntWalk.i64_in _ (by have:=zn hn;omega)
theorem zFm (n:Nat) (hn:n≤14) (px py pz:Int) (w:World) :
 Calls Tryz.prog 62 #[(n:Int),.agg #[px,py,pz]] w fun e w'=>e = .returned (.bool (inB ⟨px,py,pz⟩ (zL (2 ^ n))))∧Below w.heap.size w w':=by
 obtain ⟨m,hm⟩ : ∃ m,m=(2:Int) ^ n:=⟨_,rfl⟩;have hp:=zo hn;rw [←hm];have hr:Bx (inB ⟨px,py,pz⟩ (zL m)=inB ⟨px,py,pz⟩ ⟨⟨0,0,0⟩,⟨m,m,m⟩⟩):=⟨rfl⟩;rw [hr.out];have hp':IntKind.i64.wrap ((2:Int) ^ n)=m:=by rw [hp,hm]
 clear hp hm;go_enter Tryz.func62,Tryz.ntmps62;go_wp2_with fail;generalize hW:World.alloc w _=W;have hSz:=sz1 hW;have hB:=bl1 hW;have kp:Bk W (w.heap.size) #[px,py,pz] 23:=bk0 hW;clear hW;obtain ⟨cp0,cp1,cp2⟩:=kp.r3;have q0:=Bx.mk fun dk osk=>Calls.regrown_of (zDE m (grow (redrawn W dk) osk));have q1:=Bx.mk fun dk osk=>Calls.regrown_of (zFM px py pz 0 0 0 m m m (grow (redrawn W dk) osk));refine wp_region_quiet_below (by kernel_rfl) (by kernel_rfl) ?_
 repeat (first | go_big_quiet_step ((first | with_reducible exact q0.out _ _ | with_reducible exact q1.out _ _)) | quiet_step (first | with_reducible exact q0.out _ _ | with_reducible exact q1.out _ _))
 refine wpQuiet_nil ?_;rintro _ ⟨⟨dq,osq⟩,rfl⟩;have hb:=below_regrown W dq osq;clear cp0 cp1 cp2;clear q0;clear q1;replace hB:=hB.trans (hb.mono hB.size);replace kp:=kp.later hb;replace hSz:=Nat.le_trans hSz hb.size;clear hb;generalize grow (redrawn W dq) osq=W1 at *;go_wp2_with fail;go_ret;exact ⟨rfl,hB⟩
theorem zDD (n:Nat) (hn:n≤14) (px py pz m:Int) (hm:m=2 ^ n) (hx : -100000≤px∧px≤100000) (hy : -100000≤py∧py≤100000) (hz : -100000≤pz∧pz≤100000) (w:World) :
 Calls Tryz.prog 81 #[.agg #[px,py,pz],(n:Int)] w fun e w'=>e = .returned (.agg #[px,py,pz,.int .i64 (px+m),.int .i64 (py+m),.int .i64 (pz+m)])∧Below w.heap.size w w':=by
 have hp:=zo hn;have hml:=zn hn;rw [←hm] at hp hml;have hsh:=Bx.mk fun W=>zL3 0 0 0 m m m px py pz W
 rw [Int.zero_add,Int.zero_add,Int.zero_add,IntWalk.wrap64_in px (by omega),IntWalk.wrap64_in py (by omega),IntWalk.wrap64_in pz (by omega),Int.add_comm m px,Int.add_comm m py,Int.add_comm m pz,
  IntWalk.wrap64_in (px+m) (by omega),IntWalk.wrap64_in (py+m) (by omega),IntWalk.wrap64_in (pz+m) (by omega)] at hsh
 have hp':IntKind.i64.wrap ((2:Int) ^ n)=m:=by rw [←hm];exact hp
 clear hm hml hx hy hz;go_enter Tryz.func81,Tryz.ntmps81;go_wp2_with fail;generalize hW:World.alloc (World.alloc w _) _=W;have hSz:=sz2 hW;have hB:=bl2 hW;have kp:Bk W (w.heap.size) #[px,py,pz] 23:=bk1 hW;have kr:Bk W (w.heap.size+1) #[(0:Int),(0:Int),(0:Int),(0:Int),(0:Int),(0:Int)] 25:=bk0 hW;clear hW;obtain ⟨cp0,cp1,cp2⟩:=kp.r3;have q0:=Bx.mk fun dk osk=>Calls.regrown_of (zDE m (grow (redrawn W dk) osk));have q1:=Bx.mk fun dk osk=>Calls.regrown_of (hsh.out (grow (redrawn W dk) osk));refine zAM 5 (by kernel_rfl) (by kernel_rfl) ?_
 simp only [List.take_succ_cons,List.take_zero,List.drop_succ_cons,List.drop_zero]
 repeat (first | go_big_quiet_step ((first | with_reducible exact q0.out _ _ | with_reducible exact q1.out _ _)) | quiet_step (first | with_reducible exact q0.out _ _ | with_reducible exact q1.out _ _))
 refine wpQuiet_nil ?_;rintro _ ⟨⟨dq,osq⟩,rfl⟩;have hb:=below_regrown W dq osq;replace hB:=hB.trans (hb.mono hB.size);clear cp0 cp1 cp2;clear q0;clear q1;replace kp:=kp.later hb;replace kr:=kr.later hb;replace hSz:=Nat.le_trans hSz hb.size;clear hb;generalize grow (redrawn W dq) osq=W1 at *;have cr0:=kr.cell 0 rfl;have fr0:=kr.frozen 0;have cr1:=kr.cell 1 rfl;have fr1:=kr.frozen 1;have cr2:=kr.cell 2 rfl;have fr2:=kr.frozen 2;have cr3:=kr.cell 3 rfl;have fr3:=kr.frozen 3;have cr4:=kr.cell 4 rfl;have fr4:=kr.frozen 4;have cr5:=kr.cell 5 rfl;have fr5:=kr.frozen 5;go_wp2_with fail;replace kr:=kr.put6 (.int .i64 px) (.int .i64 py) (.int .i64 pz) (.int .i64 (px+m)) (.int .i64 (py+m)) (.int .i64 (pz+m));exact bodyPost_ret (v:=.agg #[px,py,pz,.int .i64 (px+m),.int .i64 (py+m),.int .i64 (pz+m)]) (results_cell_row rfl _ _ _ 25 #[px,py,pz,.int .i64 (px+m),.int .i64 (py+m),.int .i64 (pz+m)] (0,0) _ rfl kr Tryz.underlying25 rfl (by kernel_rfl)) rfl ⟨rfl,zBi hB (by omega) _ _ _ _ _ _⟩
theorem zId (h:Nat) (hh:h≤14) (px py pz:Int) (hx:0≤px∧px≤100000) (hy:0≤py∧py≤100000) (hz:0≤pz∧pz≤100000) (w:World) :
 Calls Tryz.prog 69 #[((h+1:Nat):Int),.agg #[px,py,pz]] w fun e w'=>e = .returned (.int .i64 (px / 2 ^ h % 2+2 * (py / 2 ^ h % 2)+4 * (pz / 2 ^ h % 2)))∧Below w.heap.size w w':=by
 have Hx:=Bx.mk hx;have Hy:=Bx.mk hy;have Hz:=Bx.mk hz;clear hx hy hz;go_enter Tryz.func69,Tryz.ntmps69;go_wp2_with fail;generalize hW:World.alloc w _=W;have hSz:=sz1 hW;have hB:=bl1 hW;have kp:Bk W (w.heap.size) #[px,py,pz] 23:=bk0 hW;clear hW;obtain ⟨cp0,cp1,cp2⟩:=kp.r3;refine wp_region_quiet_below (by kernel_rfl) (by kernel_rfl) ?_
 repeat (first | go_big_quiet_step ((fail)) | quiet_step (fail))
 refine wpQuiet_nil ?_;rintro _ ⟨⟨dq,osq⟩,rfl⟩;have hb:=below_regrown W dq osq;clear cp0 cp1 cp2;replace hB:=hB.trans (hb.mono hB.size);replace kp:=kp.later hb;replace hSz:=Nat.le_trans hSz hb.size;clear hb;generalize grow (redrawn W dq) osq=W1 at *;go_wp2_with fail;go_ret;refine ⟨zt ?_,hB⟩
 have key : ∀ p:Int,0≤p∧p≤100000→bits .and .i64 (p / 2 ^ h) 1=p / 2 ^ h % 2∧0≤p / 2 ^ h % 2∧p / 2 ^ h % 2<2:=fun p hp=>by
  have hpos:=(zn hh).1;have h0:=Int.ediv_nonneg hp.1 (show 0≤(2:Int) ^ h by omega)
  have h1:=Int.ediv_le_self (2 ^ h) hp.1;exact ⟨zFA _ h0 (by omega),by omega,by omega⟩
 obtain ⟨x1,x2⟩:=key px Hx.out;obtain ⟨y1,y2⟩:=key py Hy.out;obtain ⟨z1,z2⟩:=key pz Hz.out;rw [x1,y1,z1];exact zI2 x2 y2 z2
def chX (i:Nat) (m:Int):Int:=(i % 2:Nat) * m
def chY (i:Nat) (m:Int):Int:=(i / 2 % 2:Nat) * m
def chZ (i:Nat) (m:Int):Int:=(i / 4:Nat) * m
theorem zCd {i:Nat} (hi:i<8) {m:Int} (hm:0≤m):(0≤chX i m∧chX i m≤m)∧(0≤chY i m∧chY i m≤m)∧(0≤chZ i m∧chZ i m≤m):=by
 unfold chX chY chZ;have h:i=0∨i=1∨i=2∨i=3∨i=4∨i=5∨i=6∨i=7:=by omega
 rcases h with rfl | rfl | rfl | rfl | rfl | rfl | rfl | rfl <;> simp <;> omega
theorem zCx (h:Nat) (hh:h≤13) (px py pz m:Int) (hm:m=2 ^ h) (hx : -100000≤px∧px≤100000) (hy : -100000≤py∧py≤100000) (hz : -100000≤pz∧pz≤100000) (w:World) :
 Calls Tryz.prog 85 #[.agg #[px,py,pz],((h+1:Nat):Int),(0:Int)] w fun e w'=>e = .returned (.agg #[px,py,pz])∧Below w.heap.size w w':=by
 have hp:=zo (n:=h) (by omega)
 have hml:=zn (n:=h) (by omega)
 rw [←hm] at hml;have hp':IntKind.i64.wrap ((2:Int) ^ h)=m:=by rw [hp,hm]
 have b0:bits .and .i64 0 1=0:=by decide
 have b1:bits .and .i64 1 1=1:=by decide
 have b2:bits .and .i64 2 1=0:=by decide
 have b3:bits .and .i64 3 1=1:=by decide
 have b4:bits .and .i64 4 1=0:=by decide
 have b5:bits .and .i64 5 1=1:=by decide
 have b6:bits .and .i64 6 1=0:=by decide
 have b7:bits .and .i64 7 1=1:=by decide
 have w0:IntKind.i64.wrap 0=0:=by decide
 have hadd:=Bx.mk fun W=>zAq px py pz 0 0 0 W;rw [Int.add_zero px,Int.add_zero py,Int.add_zero pz] at hadd;rw [IntWalk.wrap64_in px (by omega),IntWalk.wrap64_in py (by omega),IntWalk.wrap64_in pz (by omega)] at hadd
 clear hp hm hml hx hy hz;go_enter Tryz.func85,Tryz.ntmps85;go_wp2_with fail;generalize hW:World.alloc (World.alloc w _) _=W;have hSz:=sz2 hW;have hB:=bl2 hW;have kp:Bk W (w.heap.size) #[px,py,pz] 23:=bk1 hW;have kr:Bk W (w.heap.size+1) #[(0:Int),(0:Int),(0:Int)] 23:=bk0 hW;clear hW;obtain ⟨cp0,cp1,cp2⟩:=kp.r3;have q0:=Bx.mk fun dk osk=>Calls.regrown_of (hadd.out (grow (redrawn W dk) osk));refine zAM 16 (by kernel_rfl) (by kernel_rfl) ?_
 simp only [List.take_succ_cons,List.take_zero,List.drop_succ_cons,List.drop_zero]
 repeat (first | go_big_quiet_step ((first | with_reducible exact q0.out _ _)) | quiet_step (first | with_reducible exact q0.out _ _))
 refine wpQuiet_nil ?_;rintro _ ⟨⟨dq,osq⟩,rfl⟩;have hb:=below_regrown W dq osq;replace hB:=hB.trans (hb.mono hB.size);clear cp0 cp1 cp2;clear q0;replace kp:=kp.later hb;replace kr:=kr.later hb;replace hSz:=Nat.le_trans hSz hb.size;clear hb;generalize grow (redrawn W dq) osq=W1 at *;have cr0:=kr.cell 0 rfl;have fr0:=kr.frozen 0;have cr1:=kr.cell 1 rfl;have fr1:=kr.frozen 1;have cr2:=kr.cell 2 rfl;have fr2:=kr.frozen 2;go_wp2_with fail;replace kr:=kr.put3 (.int .i64 px) (.int .i64 py) (.int .i64 pz);exact bodyPost_ret (v:=.agg #[px,py,pz]) (results_cell_row rfl _ _ _ 23 #[px,py,pz] (0,0) _ rfl kr Tryz.underlying23 rfl (by kernel_rfl)) rfl ⟨rfl,zBh hB (by omega) _ _ _⟩
theorem zCy (h:Nat) (hh:h≤13) (px py pz m:Int) (hm:m=2 ^ h) (hx : -100000≤px∧px≤100000) (hy : -100000≤py∧py≤100000) (hz : -100000≤pz∧pz≤100000) (w:World) :
 Calls Tryz.prog 85 #[.agg #[px,py,pz],((h+1:Nat):Int),(1:Int)] w fun e w'=>e = .returned (.agg #[.int .i64 (px+m),py,pz])∧Below w.heap.size w w':=by
 have hp:=zo (n:=h) (by omega)
 have hml:=zn (n:=h) (by omega)
 rw [←hm] at hml;have hp':IntKind.i64.wrap ((2:Int) ^ h)=m:=by rw [hp,hm]
 have b0:bits .and .i64 0 1=0:=by decide
 have b1:bits .and .i64 1 1=1:=by decide
 have b2:bits .and .i64 2 1=0:=by decide
 have b3:bits .and .i64 3 1=1:=by decide
 have b4:bits .and .i64 4 1=0:=by decide
 have b5:bits .and .i64 5 1=1:=by decide
 have b6:bits .and .i64 6 1=0:=by decide
 have b7:bits .and .i64 7 1=1:=by decide
 have w0:IntKind.i64.wrap 0=0:=by decide
 have hadd:=Bx.mk fun W=>zAq px py pz m 0 0 W;rw [Int.add_zero py,Int.add_zero pz] at hadd;rw [IntWalk.wrap64_in (px+m) (by omega),IntWalk.wrap64_in py (by omega),IntWalk.wrap64_in pz (by omega)] at hadd
 clear hp hm hml hx hy hz;go_enter Tryz.func85,Tryz.ntmps85;go_wp2_with fail;generalize hW:World.alloc (World.alloc w _) _=W;have hSz:=sz2 hW;have hB:=bl2 hW;have kp:Bk W (w.heap.size) #[px,py,pz] 23:=bk1 hW;have kr:Bk W (w.heap.size+1) #[(0:Int),(0:Int),(0:Int)] 23:=bk0 hW;clear hW;obtain ⟨cp0,cp1,cp2⟩:=kp.r3;have q0:=Bx.mk fun dk osk=>Calls.regrown_of (hadd.out (grow (redrawn W dk) osk));refine zAM 16 (by kernel_rfl) (by kernel_rfl) ?_
 simp only [List.take_succ_cons,List.take_zero,List.drop_succ_cons,List.drop_zero]
 repeat (first | go_big_quiet_step ((first | with_reducible exact q0.out _ _)) | quiet_step (first | with_reducible exact q0.out _ _))
 refine wpQuiet_nil ?_;rintro _ ⟨⟨dq,osq⟩,rfl⟩;have hb:=below_regrown W dq osq;replace hB:=hB.trans (hb.mono hB.size);clear cp0 cp1 cp2;clear q0;replace kp:=kp.later hb;replace kr:=kr.later hb;replace hSz:=Nat.le_trans hSz hb.size;clear hb;generalize grow (redrawn W dq) osq=W1 at *;have cr0:=kr.cell 0 rfl;have fr0:=kr.frozen 0;have cr1:=kr.cell 1 rfl;have fr1:=kr.frozen 1;have cr2:=kr.cell 2 rfl;have fr2:=kr.frozen 2;go_wp2_with fail;replace kr:=kr.put3 (.int .i64 (px+m)) (.int .i64 py) (.int .i64 pz);exact bodyPost_ret (v:=.agg #[.int .i64 (px+m),py,pz]) (results_cell_row rfl _ _ _ 23 #[.int .i64 (px+m),py,pz] (0,0) _ rfl kr Tryz.underlying23 rfl (by kernel_rfl)) rfl ⟨rfl,zBh hB (by omega) _ _ _⟩
theorem zCz (h:Nat) (hh:h≤13) (px py pz m:Int) (hm:m=2 ^ h) (hx : -100000≤px∧px≤100000) (hy : -100000≤py∧py≤100000) (hz : -100000≤pz∧pz≤100000) (w:World) :
 Calls Tryz.prog 85 #[.agg #[px,py,pz],((h+1:Nat):Int),(2:Int)] w fun e w'=>e = .returned (.agg #[px,.int .i64 (py+m),pz])∧Below w.heap.size w w':=by
 have hp:=zo (n:=h) (by omega)
 have hml:=zn (n:=h) (by omega)
 rw [←hm] at hml;have hp':IntKind.i64.wrap ((2:Int) ^ h)=m:=by rw [hp,hm]
 have b0:bits .and .i64 0 1=0:=by decide
 have b1:bits .and .i64 1 1=1:=by decide
 have b2:bits .and .i64 2 1=0:=by decide
 have b3:bits .and .i64 3 1=1:=by decide
 have b4:bits .and .i64 4 1=0:=by decide
 have b5:bits .and .i64 5 1=1:=by decide
 have b6:bits .and .i64 6 1=0:=by decide
 have b7:bits .and .i64 7 1=1:=by decide
 have w0:IntKind.i64.wrap 0=0:=by decide
 have hadd:=Bx.mk fun W=>zAq px py pz 0 m 0 W;rw [Int.add_zero px,Int.add_zero pz] at hadd;rw [IntWalk.wrap64_in px (by omega),IntWalk.wrap64_in (py+m) (by omega),IntWalk.wrap64_in pz (by omega)] at hadd
 clear hp hm hml hx hy hz;go_enter Tryz.func85,Tryz.ntmps85;go_wp2_with fail;generalize hW:World.alloc (World.alloc w _) _=W;have hSz:=sz2 hW;have hB:=bl2 hW;have kp:Bk W (w.heap.size) #[px,py,pz] 23:=bk1 hW;have kr:Bk W (w.heap.size+1) #[(0:Int),(0:Int),(0:Int)] 23:=bk0 hW;clear hW;obtain ⟨cp0,cp1,cp2⟩:=kp.r3;have q0:=Bx.mk fun dk osk=>Calls.regrown_of (hadd.out (grow (redrawn W dk) osk));refine zAM 16 (by kernel_rfl) (by kernel_rfl) ?_
 simp only [List.take_succ_cons,List.take_zero,List.drop_succ_cons,List.drop_zero]
 repeat (first | go_big_quiet_step ((first | with_reducible exact q0.out _ _)) | quiet_step (first | with_reducible exact q0.out _ _))
 refine wpQuiet_nil ?_;rintro _ ⟨⟨dq,osq⟩,rfl⟩;have hb:=below_regrown W dq osq;replace hB:=hB.trans (hb.mono hB.size);clear cp0 cp1 cp2;clear q0;replace kp:=kp.later hb;replace kr:=kr.later hb;replace hSz:=Nat.le_trans hSz hb.size;clear hb;generalize grow (redrawn W dq) osq=W1 at *;have cr0:=kr.cell 0 rfl;have fr0:=kr.frozen 0;have cr1:=kr.cell 1 rfl;have fr1:=kr.frozen 1;have cr2:=kr.cell 2 rfl;have fr2:=kr.frozen 2;go_wp2_with fail;replace kr:=kr.put3 (.int .i64 px) (.int .i64 (py+m)) (.int .i64 pz);exact bodyPost_ret (v:=.agg #[px,.int .i64 (py+m),pz]) (results_cell_row rfl _ _ _ 23 #[px,.int .i64 (py+m),pz] (0,0) _ rfl kr Tryz.underlying23 rfl (by kernel_rfl)) rfl ⟨rfl,zBh hB (by omega) _ _ _⟩
theorem zC0 (h:Nat) (hh:h≤13) (px py pz m:Int) (hm:m=2 ^ h) (hx : -100000≤px∧px≤100000) (hy : -100000≤py∧py≤100000) (hz : -100000≤pz∧pz≤100000) (w:World) :
 Calls Tryz.prog 85 #[.agg #[px,py,pz],((h+1:Nat):Int),(3:Int)] w fun e w'=>e = .returned (.agg #[.int .i64 (px+m),.int .i64 (py+m),pz])∧Below w.heap.size w w':=by
 have hp:=zo (n:=h) (by omega)
 have hml:=zn (n:=h) (by omega)
 rw [←hm] at hml;have hp':IntKind.i64.wrap ((2:Int) ^ h)=m:=by rw [hp,hm]
 have b0:bits .and .i64 0 1=0:=by decide
 have b1:bits .and .i64 1 1=1:=by decide
 have b2:bits .and .i64 2 1=0:=by decide
 have b3:bits .and .i64 3 1=1:=by decide
 have b4:bits .and .i64 4 1=0:=by decide
 have b5:bits .and .i64 5 1=1:=by decide
 have b6:bits .and .i64 6 1=0:=by decide
 have b7:bits .and .i64 7 1=1:=by decide
 have w0:IntKind.i64.wrap 0=0:=by decide
 have hadd:=Bx.mk fun W=>zAq px py pz m m 0 W;rw [Int.add_zero pz] at hadd;rw [IntWalk.wrap64_in (px+m) (by omega),IntWalk.wrap64_in (py+m) (by omega),IntWalk.wrap64_in pz (by omega)] at hadd
 clear hp hm hml hx hy hz;go_enter Tryz.func85,Tryz.ntmps85;go_wp2_with fail;generalize hW:World.alloc (World.alloc w _) _=W;have hSz:=sz2 hW;have hB:=bl2 hW;have kp:Bk W (w.heap.size) #[px,py,pz] 23:=bk1 hW;have kr:Bk W (w.heap.size+1) #[(0:Int),(0:Int),(0:Int)] 23:=bk0 hW;clear hW;obtain ⟨cp0,cp1,cp2⟩:=kp.r3;have q0:=Bx.mk fun dk osk=>Calls.regrown_of (hadd.out (grow (redrawn W dk) osk));refine zAM 16 (by kernel_rfl) (by kernel_rfl) ?_
 simp only [List.take_succ_cons,List.take_zero,List.drop_succ_cons,List.drop_zero]
 repeat (first | go_big_quiet_step ((first | with_reducible exact q0.out _ _)) | quiet_step (first | with_reducible exact q0.out _ _))
 refine wpQuiet_nil ?_;rintro _ ⟨⟨dq,osq⟩,rfl⟩;have hb:=below_regrown W dq osq;replace hB:=hB.trans (hb.mono hB.size);clear cp0 cp1 cp2;clear q0;replace kp:=kp.later hb;replace kr:=kr.later hb;replace hSz:=Nat.le_trans hSz hb.size;clear hb;generalize grow (redrawn W dq) osq=W1 at *;have cr0:=kr.cell 0 rfl;have fr0:=kr.frozen 0;have cr1:=kr.cell 1 rfl;have fr1:=kr.frozen 1;have cr2:=kr.cell 2 rfl;have fr2:=kr.frozen 2;go_wp2_with fail;replace kr:=kr.put3 (.int .i64 (px+m)) (.int .i64 (py+m)) (.int .i64 pz);exact bodyPost_ret (v:=.agg #[.int .i64 (px+m),.int .i64 (py+m),pz]) (results_cell_row rfl _ _ _ 23 #[.int .i64 (px+m),.int .i64 (py+m),pz] (0,0) _ rfl kr Tryz.underlying23 rfl (by kernel_rfl)) rfl ⟨rfl,zBh hB (by omega) _ _ _⟩
theorem zC1 (h:Nat) (hh:h≤13) (px py pz m:Int) (hm:m=2 ^ h) (hx : -100000≤px∧px≤100000) (hy : -100000≤py∧py≤100000) (hz : -100000≤pz∧pz≤100000) (w:World) :
 Calls Tryz.prog 85 #[.agg #[px,py,pz],((h+1:Nat):Int),(4:Int)] w fun e w'=>e = .returned (.agg #[px,py,.int .i64 (pz+m)])∧Below w.heap.size w w':=by
 have hp:=zo (n:=h) (by omega)
 have hml:=zn (n:=h) (by omega)
 rw [←hm] at hml;have hp':IntKind.i64.wrap ((2:Int) ^ h)=m:=by rw [hp,hm]
 have b0:bits .and .i64 0 1=0:=by decide
 have b1:bits .and .i64 1 1=1:=by decide
 have b2:bits .and .i64 2 1=0:=by decide
 have b3:bits .and .i64 3 1=1:=by decide
 have b4:bits .and .i64 4 1=0:=by decide
 have b5:bits .and .i64 5 1=1:=by decide
 have b6:bits .and .i64 6 1=0:=by decide
 have b7:bits .and .i64 7 1=1:=by decide
 have w0:IntKind.i64.wrap 0=0:=by decide
 have hadd:=Bx.mk fun W=>zAq px py pz 0 0 m W;rw [Int.add_zero px,Int.add_zero py] at hadd;rw [IntWalk.wrap64_in px (by omega),IntWalk.wrap64_in py (by omega),IntWalk.wrap64_in (pz+m) (by omega)] at hadd
 clear hp hm hml hx hy hz;go_enter Tryz.func85,Tryz.ntmps85;go_wp2_with fail;generalize hW:World.alloc (World.alloc w _) _=W;have hSz:=sz2 hW;have hB:=bl2 hW;have kp:Bk W (w.heap.size) #[px,py,pz] 23:=bk1 hW;have kr:Bk W (w.heap.size+1) #[(0:Int),(0:Int),(0:Int)] 23:=bk0 hW;clear hW;obtain ⟨cp0,cp1,cp2⟩:=kp.r3;have q0:=Bx.mk fun dk osk=>Calls.regrown_of (hadd.out (grow (redrawn W dk) osk));refine zAM 16 (by kernel_rfl) (by kernel_rfl) ?_
 simp only [List.take_succ_cons,List.take_zero,List.drop_succ_cons,List.drop_zero]
 repeat (first | go_big_quiet_step ((first | with_reducible exact q0.out _ _)) | quiet_step (first | with_reducible exact q0.out _ _))
 refine wpQuiet_nil ?_;rintro _ ⟨⟨dq,osq⟩,rfl⟩;have hb:=below_regrown W dq osq;replace hB:=hB.trans (hb.mono hB.size);clear cp0 cp1 cp2;clear q0;replace kp:=kp.later hb;replace kr:=kr.later hb;replace hSz:=Nat.le_trans hSz hb.size;clear hb;generalize grow (redrawn W dq) osq=W1 at *;have cr0:=kr.cell 0 rfl;have fr0:=kr.frozen 0;have cr1:=kr.cell 1 rfl;have fr1:=kr.frozen 1;have cr2:=kr.cell 2 rfl;have fr2:=kr.frozen 2;go_wp2_with fail;replace kr:=kr.put3 (.int .i64 px) (.int .i64 py) (.int .i64 (pz+m));exact bodyPost_ret (v:=.agg #[px,py,.int .i64 (pz+m)]) (results_cell_row rfl _ _ _ 23 #[px,py,.int .i64 (pz+m)] (0,0) _ rfl kr Tryz.underlying23 rfl (by kernel_rfl)) rfl ⟨rfl,zBh hB (by omega) _ _ _⟩
theorem zC2 (h:Nat) (hh:h≤13) (px py pz m:Int) (hm:m=2 ^ h) (hx : -100000≤px∧px≤100000) (hy : -100000≤py∧py≤100000) (hz : -100000≤pz∧pz≤100000) (w:World) :
 Calls Tryz.prog 85 #[.agg #[px,py,pz],((h+1:Nat):Int),(5:Int)] w fun e w'=>e = .returned (.agg #[.int .i64 (px+m),py,.int .i64 (pz+m)])∧Below w.heap.size w w':=by
 have hp:=zo (n:=h) (by omega)
 have hml:=zn (n:=h) (by omega)
 rw [←hm] at hml;have hp':IntKind.i64.wrap ((2:Int) ^ h)=m:=by rw [hp,hm]
 have b0:bits .and .i64 0 1=0:=by decide
 have b1:bits .and .i64 1 1=1:=by decide
 have b2:bits .and .i64 2 1=0:=by decide
 have b3:bits .and .i64 3 1=1:=by decide
 have b4:bits .and .i64 4 1=0:=by decide
 have b5:bits .and .i64 5 1=1:=by decide
 have b6:bits .and .i64 6 1=0:=by decide
 have b7:bits .and .i64 7 1=1:=by decide
 have w0:IntKind.i64.wrap 0=0:=by decide
 have hadd:=Bx.mk fun W=>zAq px py pz m 0 m W;rw [Int.add_zero py] at hadd;rw [IntWalk.wrap64_in (px+m) (by omega),IntWalk.wrap64_in py (by omega),IntWalk.wrap64_in (pz+m) (by omega)] at hadd
 clear hp hm hml hx hy hz;go_enter Tryz.func85,Tryz.ntmps85;go_wp2_with fail;generalize hW:World.alloc (World.alloc w _) _=W;have hSz:=sz2 hW;have hB:=bl2 hW;have kp:Bk W (w.heap.size) #[px,py,pz] 23:=bk1 hW;have kr:Bk W (w.heap.size+1) #[(0:Int),(0:Int),(0:Int)] 23:=bk0 hW;clear hW;obtain ⟨cp0,cp1,cp2⟩:=kp.r3;have q0:=Bx.mk fun dk osk=>Calls.regrown_of (hadd.out (grow (redrawn W dk) osk));refine zAM 16 (by kernel_rfl) (by kernel_rfl) ?_
 simp only [List.take_succ_cons,List.take_zero,List.drop_succ_cons,List.drop_zero]
 repeat (first | go_big_quiet_step ((first | with_reducible exact q0.out _ _)) | quiet_step (first | with_reducible exact q0.out _ _))
 refine wpQuiet_nil ?_;rintro _ ⟨⟨dq,osq⟩,rfl⟩;have hb:=below_regrown W dq osq;replace hB:=hB.trans (hb.mono hB.size);clear cp0 cp1 cp2;clear q0;replace kp:=kp.later hb;replace kr:=kr.later hb;replace hSz:=Nat.le_trans hSz hb.size;clear hb;generalize grow (redrawn W dq) osq=W1 at *;have cr0:=kr.cell 0 rfl;have fr0:=kr.frozen 0;have cr1:=kr.cell 1 rfl;have fr1:=kr.frozen 1;have cr2:=kr.cell 2 rfl;have fr2:=kr.frozen 2;go_wp2_with fail;replace kr:=kr.put3 (.int .i64 (px+m)) (.int .i64 py) (.int .i64 (pz+m));exact bodyPost_ret (v:=.agg #[.int .i64 (px+m),py,.int .i64 (pz+m)]) (results_cell_row rfl _ _ _ 23 #[.int .i64 (px+m),py,.int .i64 (pz+m)] (0,0) _ rfl kr Tryz.underlying23 rfl (by kernel_rfl)) rfl ⟨rfl,zBh hB (by omega) _ _ _⟩
theorem zC3 (h:Nat) (hh:h≤13) (px py pz m:Int) (hm:m=2 ^ h) (hx : -100000≤px∧px≤100000) (hy : -100000≤py∧py≤100000) (hz : -100000≤pz∧pz≤100000) (w:World) :
 Calls Tryz.prog 85 #[.agg #[px,py,pz],((h+1:Nat):Int),(6:Int)] w fun e w'=>e = .returned (.agg #[px,.int .i64 (py+m),.int .i64 (pz+m)])∧Below w.heap.size w w':=by
 have hp:=zo (n:=h) (by omega)
 have hml:=zn (n:=h) (by omega)
 rw [←hm] at hml;have hp':IntKind.i64.wrap ((2:Int) ^ h)=m:=by rw [hp,hm]
 have b0:bits .and .i64 0 1=0:=by decide
 have b1:bits .and .i64 1 1=1:=by decide
 have b2:bits .and .i64 2 1=0:=by decide
 have b3:bits .and .i64 3 1=1:=by decide
 have b4:bits .and .i64 4 1=0:=by decide
 have b5:bits .and .i64 5 1=1:=by decide
 have b6:bits .and .i64 6 1=0:=by decide
 have b7:bits .and .i64 7 1=1:=by decide
 have w0:IntKind.i64.wrap 0=0:=by decide
 have hadd:=Bx.mk fun W=>zAq px py pz 0 m m W;rw [Int.add_zero px] at hadd;rw [IntWalk.wrap64_in px (by omega),IntWalk.wrap64_in (py+m) (by omega),IntWalk.wrap64_in (pz+m) (by omega)] at hadd
 clear hp hm hml hx hy hz;go_enter Tryz.func85,Tryz.ntmps85;go_wp2_with fail;generalize hW:World.alloc (World.alloc w _) _=W;have hSz:=sz2 hW;have hB:=bl2 hW;have kp:Bk W (w.heap.size) #[px,py,pz] 23:=bk1 hW;have kr:Bk W (w.heap.size+1) #[(0:Int),(0:Int),(0:Int)] 23:=bk0 hW;clear hW;obtain ⟨cp0,cp1,cp2⟩:=kp.r3;have q0:=Bx.mk fun dk osk=>Calls.regrown_of (hadd.out (grow (redrawn W dk) osk));refine zAM 16 (by kernel_rfl) (by kernel_rfl) ?_
 simp only [List.take_succ_cons,List.take_zero,List.drop_succ_cons,List.drop_zero]
 repeat (first | go_big_quiet_step ((first | with_reducible exact q0.out _ _)) | quiet_step (first | with_reducible exact q0.out _ _))
 refine wpQuiet_nil ?_;rintro _ ⟨⟨dq,osq⟩,rfl⟩;have hb:=below_regrown W dq osq;replace hB:=hB.trans (hb.mono hB.size);clear cp0 cp1 cp2;clear q0;replace kp:=kp.later hb;replace kr:=kr.later hb;replace hSz:=Nat.le_trans hSz hb.size;clear hb;generalize grow (redrawn W dq) osq=W1 at *;have cr0:=kr.cell 0 rfl;have fr0:=kr.frozen 0;have cr1:=kr.cell 1 rfl;have fr1:=kr.frozen 1;have cr2:=kr.cell 2 rfl;have fr2:=kr.frozen 2;go_wp2_with fail;replace kr:=kr.put3 (.int .i64 px) (.int .i64 (py+m)) (.int .i64 (pz+m));exact bodyPost_ret (v:=.agg #[px,.int .i64 (py+m),.int .i64 (pz+m)]) (results_cell_row rfl _ _ _ 23 #[px,.int .i64 (py+m),.int .i64 (pz+m)] (0,0) _ rfl kr Tryz.underlying23 rfl (by kernel_rfl)) rfl ⟨rfl,zBh hB (by omega) _ _ _⟩
theorem zC4 (h:Nat) (hh:h≤13) (px py pz m:Int) (hm:m=2 ^ h) (hx : -100000≤px∧px≤100000) (hy : -100000≤py∧py≤100000) (hz : -100000≤pz∧pz≤100000) (w:World) :
 Calls Tryz.prog 85 #[.agg #[px,py,pz],((h+1:Nat):Int),(7:Int)] w fun e w'=>e = .returned (.agg #[.int .i64 (px+m),.int .i64 (py+m),.int .i64 (pz+m)])∧Below w.heap.size w w':=by
 have hp:=zo (n:=h) (by omega)
 have hml:=zn (n:=h) (by omega)
 rw [←hm] at hml;have hp':IntKind.i64.wrap ((2:Int) ^ h)=m:=by rw [hp,hm]
 have b0:bits .and .i64 0 1=0:=by decide
 have b1:bits .and .i64 1 1=1:=by decide
 have b2:bits .and .i64 2 1=0:=by decide
 have b3:bits .and .i64 3 1=1:=by decide
 have b4:bits .and .i64 4 1=0:=by decide
 have b5:bits .and .i64 5 1=1:=by decide
 have b6:bits .and .i64 6 1=0:=by decide
 have b7:bits .and .i64 7 1=1:=by decide
 have w0:IntKind.i64.wrap 0=0:=by decide
 have hadd:=Bx.mk fun W=>zAq px py pz m m m W
 skip
 rw [IntWalk.wrap64_in (px+m) (by omega),IntWalk.wrap64_in (py+m) (by omega),IntWalk.wrap64_in (pz+m) (by omega)] at hadd
 clear hp hm hml hx hy hz;go_enter Tryz.func85,Tryz.ntmps85;go_wp2_with fail;generalize hW:World.alloc (World.alloc w _) _=W;have hSz:=sz2 hW;have hB:=bl2 hW;have kp:Bk W (w.heap.size) #[px,py,pz] 23:=bk1 hW;have kr:Bk W (w.heap.size+1) #[(0:Int),(0:Int),(0:Int)] 23:=bk0 hW;clear hW;obtain ⟨cp0,cp1,cp2⟩:=kp.r3;have q0:=Bx.mk fun dk osk=>Calls.regrown_of (hadd.out (grow (redrawn W dk) osk));refine zAM 16 (by kernel_rfl) (by kernel_rfl) ?_
 simp only [List.take_succ_cons,List.take_zero,List.drop_succ_cons,List.drop_zero]
 repeat (first | go_big_quiet_step ((first | with_reducible exact q0.out _ _)) | quiet_step (first | with_reducible exact q0.out _ _))
 refine wpQuiet_nil ?_;rintro _ ⟨⟨dq,osq⟩,rfl⟩;have hb:=below_regrown W dq osq;replace hB:=hB.trans (hb.mono hB.size);clear cp0 cp1 cp2;clear q0;replace kp:=kp.later hb;replace kr:=kr.later hb;replace hSz:=Nat.le_trans hSz hb.size;clear hb;generalize grow (redrawn W dq) osq=W1 at *;have cr0:=kr.cell 0 rfl;have fr0:=kr.frozen 0;have cr1:=kr.cell 1 rfl;have fr1:=kr.frozen 1;have cr2:=kr.cell 2 rfl;have fr2:=kr.frozen 2;go_wp2_with fail;replace kr:=kr.put3 (.int .i64 (px+m)) (.int .i64 (py+m)) (.int .i64 (pz+m));exact bodyPost_ret (v:=.agg #[.int .i64 (px+m),.int .i64 (py+m),.int .i64 (pz+m)]) (results_cell_row rfl _ _ _ 23 #[.int .i64 (px+m),.int .i64 (py+m),.int .i64 (pz+m)] (0,0) _ rfl kr Tryz.underlying23 rfl (by kernel_rfl)) rfl ⟨rfl,zBh hB (by omega) _ _ _⟩
theorem zC5 (h:Nat) (hh:h≤13) (px py pz:Int) (i:Nat) (hi:i<8) (hx : -100000≤px∧px≤100000) (hy : -100000≤py∧py≤100000) (hz : -100000≤pz∧pz≤100000) (w:World) :
 Calls Tryz.prog 85 #[.agg #[px,py,pz],((h+1:Nat):Int),(i:Int)] w fun e w'=>e = .returned (.agg #[.int .i64 (px+chX i (2 ^ h)),.int .i64 (py+chY i (2 ^ h)),.int .i64 (pz+chZ i (2 ^ h))])∧Below w.heap.size w w':=by
 have hc:i=0∨i=1∨i=2∨i=3∨i=4∨i=5∨i=6∨i=7:=by omega
 rcases hc with rfl | rfl | rfl | rfl | rfl | rfl | rfl | rfl
 · have:=zCx h hh px py pz _ rfl hx hy hz w;simpa [chX,chY,chZ] using this
 · have:=zCy h hh px py pz _ rfl hx hy hz w;simpa [chX,chY,chZ] using this
 · have:=zCz h hh px py pz _ rfl hx hy hz w;simpa [chX,chY,chZ] using this
 · have:=zC0 h hh px py pz _ rfl hx hy hz w;simpa [chX,chY,chZ] using this
 · have:=zC1 h hh px py pz _ rfl hx hy hz w;simpa [chX,chY,chZ] using this
 · have:=zC2 h hh px py pz _ rfl hx hy hz w;simpa [chX,chY,chZ] using this
 · have:=zC3 h hh px py pz _ rfl hx hy hz w;simpa [chX,chY,chZ] using this
 · have:=zC4 h hh px py pz _ rfl hx hy hz w;simpa [chX,chY,chZ] using this
end
section
open Go.RowKit Go.Sort Go.Maps
open Oct
abbrev zLK (i e:Int):Ending:=.returned (.tuple #[i,e])
structure Grew (Far:Nat→Prop) (sb:Nat) (most:Int) (ts ts':List Tr) (t:Tr) (w:World) (e:Ending) (w':World):Prop where
 keeps:Keeps Far w w'
 size:w.heap.size≤w'.heap.size
 way:(Tr.Fits most ts ts'∧e=zLK (idT ts' t:Int) 0∧StoreIs w' Far sb most ts') ∨
  (¬Tr.Fits most ts ts'∧e=zLK 0 14 ∧ ∃ us,Good us∧ts <+: us∧us <+: ts'∧StoreIs w' Far sb most us)
theorem Good.ins {ts:List Tr} (hG:Good ts) {t:Tr} (hl:Leans ts t) (hb:Bytes t):Good (Tr.ins t ts):=by
 by_cases h:t∈ts
 · rw [Tr.ins_of_mem h];exact hG
 · rw [Tr.ins_of_not h];exact hG.add h hl hb
theorem zHd (w:World) (Far:Nat→Prop) (sb:Nat) (most:Int) (ts:List Tr) (t:Tr) (k c d x0 x1 x2 x3 x4 x5 x6 x7:Int) (s:ByteArray) (hV:zh ts t=zII k c s d x0 x1 x2 x3 x4 x5 x6 x7) (hG:Good ts) (hle:Leans ts t) (hby:Bytes t) (hlen:ts.length≤1000000000000) (hFar : ∀ k,Far k→k<w.heap.size)
 (hk : ∃ kl,keyOf Tryz.prog 111 (zII k c s d x0 x1 x2 x3 x4 x5 x6 x7)=some kl) (hS:StoreIs w Far sb most ts) :
 Calls Tryz.prog 74 #[.pointer (some ⟨sb,0,none⟩),.agg #[k,c,.string s,d,x0,x1,x2,x3,x4,x5,x6,x7]] w (Grew Far sb most ts (Tr.ins t ts) t w):=by
 by_cases ht:t∈ts
 · refine (zHf Far sb most ts t k c d x0 x1 x2 x3 x4 x5 x6 x7 s hV hG ht hk w hS).mono ?_;rintro e w' ⟨rfl,hb⟩;rw [Tr.ins_of_mem ht];exact ⟨Keeps.below hb,hb.size,.inl ⟨.inl rfl,rfl,hS.later hb⟩⟩
 · by_cases hm:most≤(ts.length:Int)
   · refine (zHe Far sb most ts t k c d x0 x1 x2 x3 x4 x5 x6 x7 s hV hG ht hle hby hm hk w hS).mono ?_;rintro e w' ⟨rfl,hb⟩;rw [Tr.ins_of_not ht];refine ⟨Keeps.below hb,hb.size,.inr ⟨?_,rfl,ts,hG,List.prefix_refl _,List.prefix_append _ _,hS.later hb⟩⟩;rintro (h | h)
     · simp at h
     · simp at h;omega
   · refine (zHg w Far sb most ts t k c d x0 x1 x2 x3 x4 x5 x6 x7 s hV hG ht hle hby (by omega) hlen hFar hk hS).mono ?_
     rintro e w' ⟨rfl,hs,hb⟩;rw [Tr.ins_of_not ht];refine ⟨hb,hb.size,.inl ⟨.inr (by simp;omega),?_,hs⟩⟩
     rw [zFE ht]
theorem zHh (w:World) (Far:Nat→Prop) (sb:Nat) (most:Int) (ts:List Tr) (c:Int) (hc:0≤c∧c≤255) (hG:Good ts) (hlen:ts.length≤1000000000000) (hFar : ∀ k,Far k→k<w.heap.size) (hS:StoreIs w Far sb most ts) :
 Calls Tryz.prog 74 #[.pointer (some ⟨sb,0,none⟩),.agg #[(1:Int),c,.string ByteArray.empty,(0:Int),(0:Int),(0:Int),(0:Int),(0:Int),(0:Int),(0:Int),(0:Int),(0:Int)]] w (Grew Far sb most ts (Tr.add (.uni c) ts) (.uni c) w):=by
 rw [Tr.add_uni];exact zHd w Far sb most ts (.uni c) 1 c 0 0 0 0 0 0 0 0 0 _ rfl hG (fun d ch h=>by cases h) (Bytes.uni hc) hlen hFar (zFz _ _ _ _ _ _ _ _ _ _ _ _ (by simp [maxLen]) (by intro y hy;simp at hy;rcases hy with rfl | rfl | rfl <;> exact WalkArith.wf_i64 (by omega))) hS
theorem Good.uni {ts:List Tr} (hG:Good ts) {c:Int} (hc:0≤c∧c≤255):Good (Tr.add (.uni c) ts):=by
 rw [Tr.add_uni];exact hG.ins (fun d ch h=>by cases h) (Bytes.uni hc)
theorem zNm (w:World) (Far:Nat→Prop) (sb:Nat) (most:Int) (ts:List Tr) (c:Int) (hc:0≤c∧c≤255) (hG:Good ts) (hlen:ts.length≤1000000000000) (hFar : ∀ k,Far k→k<w.heap.size) (hS:StoreIs w Far sb most ts) :
 Calls Tryz.prog 36 #[.pointer (some ⟨sb,0,none⟩),c] w (Grew Far sb most ts (Tr.add (.uni c) ts) (.uni c) w):=by
 have h1:=Bx.mk (fun W=>zFl c W);rw [show decide (0≤c∧c≤255)=true by simpa using hc] at h1
 have h2:=Bx.mk (zHh w Far sb most ts c hc hG hlen hFar hS);clear hc hG hlen hFar hS;go_enter Tryz.func36,Tryz.ntmps36;go_wp2_with fail;refine (h1.out _).mono ?_;rintro e w1 ⟨rfl,rfl⟩;go_wp2_with fail;refine h2.out.mono ?_;rintro e w1 hg;have Hg:=Bx.mk hg;obtain ⟨-,-,(⟨hf,rfl,hs⟩ | ⟨hf,rfl,us,hs⟩)⟩:=hg
 all_goals
  clear hf hs;unfold zLK at Hg;go_wp2_with fail
  go_ret2
  exact Hg.out
end
end Go.Proofs.YtgnfgblkpnfcnaaGreatDoor
