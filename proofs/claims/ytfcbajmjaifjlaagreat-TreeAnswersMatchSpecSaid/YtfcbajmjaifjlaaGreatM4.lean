/- M9, M10, M11: joined by program. -/
import Derived.Test.YtfcbajmjaifjlaaGreatM3
import Derived.ChangeKeysEq
import Derived.Deep.LoopGhost
import Derived.Deep.QuietTactic
set_option maxHeartbeats 1000000
set_option maxRecDepth 100000
set_option linter.all false
namespace Go.Proofs.YtfcbajmjaifjlaaGreat
section
open Go.RowKit Go.Sort
theorem zGv (c:Int) (w:World) :
 Calls Tryz.prog 108 #[c] w fun e w'=>e = .returned (.bool (decide (0≤c∧c≤255)))∧w=w':=by
 go_enter Tryz.func108,Tryz.ntmps108;go_wp2
 all_goals
  go_ret;exact ⟨zx (by rw [Bool.eq_iff_iff];simp;omega),rfl⟩
theorem zt {n:Nat} (hn:n≤14):(1:Int)≤2 ^ n∧(2:Int) ^ n≤16384:=by
 have h1:2 ^ n≤2 ^ 14:=Nat.pow_le_pow_right (by decide) hn
 have h2:0<2 ^ n:=Nat.pow_pos (by decide)
 have h3:((2 ^ n:Nat):Int)=(2:Int) ^ n:=by simp
 omega
theorem zu {n:Nat} (hn:n≤14):IntKind.i64.wrap ((2:Int) ^ n)=2 ^ n:=wj _ (by have:=zt hn;omega)
theorem zGw (n:Nat) (hn:n≤14) (px py pz:Int) (w:World) :
 Calls Tryz.prog 102 #[(n:Int),.agg #[px,py,pz]] w fun e w'=>e = .returned (.bool (inB ⟨px,py,pz⟩ (zN (2 ^ n))))∧Below w.heap.size w w':=by
 obtain ⟨m,hm⟩ : ∃ m,m=(2:Int) ^ n:=⟨_,rfl⟩;have hp:=zu hn;rw [←hm];have hr:Bx (inB ⟨px,py,pz⟩ (zN m)=inB ⟨px,py,pz⟩ ⟨⟨0,0,0⟩,⟨m,m,m⟩⟩):=⟨rfl⟩;rw [hr.o];have QX:IntKind.i64.wrap ((2:Int) ^ n)=m:=by rw [hp,hm]
 clear hp hm;go_enter Tryz.func102,Tryz.ntmps102;go_wp2_with fail;generalize hW:w.alloc _=W;have JE:=sz1 hW;have hB:=bl1 hW;have kp:Bk W (w.heap.size) #[px,py,pz] 23:=bk0 hW;clear hW;obtain ⟨cp0,cp1,cp2⟩:=kp.r3;have q0:=Bx.mk fun dk osk=>rq (zDz m (grow (redrawn W dk) osk));have q1:=Bx.mk fun dk osk=>rq (zGX px py pz 0 0 0 m m m (grow (redrawn W dk) osk));refine wg ?_
 repeat (first | go_big_quiet_step (with_reducible first | exact q0.o _ _ | exact q1.o _ _) | quiet_step (with_reducible first | exact q0.o _ _ | exact q1.o _ _))
 refine wq ?_;rintro _ ⟨⟨dq,osq⟩,rfl⟩;have hb:=bq W dq osq;clear cp0 cp1 cp2;clear q0;clear q1;replace hB:=tr hB hb;replace kp:=kp.la hb;replace JE:=nlt JE hb.size;clear hb;generalize grow (redrawn W dq) osq=W1 at *;go_wp2_with fail;go_ret;exact ⟨rfl,hB⟩
theorem zDr (n:Nat) (hn:n≤14) (px py pz m:Int) (hm:m=2 ^ n) (hx : -100000≤px∧px≤100000) (hy : -100000≤py∧py≤100000) (hz : -100000≤pz∧pz≤100000) (w:World) :
 Calls Tryz.prog 92 #[.agg #[px,py,pz],(n:Int)] w fun e w'=>e = .returned (.agg #[px,py,pz,(px+m:Int),(py+m:Int),(pz+m:Int)])∧Below w.heap.size w w':=by
 have hp:=zu hn;have PV:=zt hn;rw [←hm] at hp PV;have Rj:=Bx.mk fun W=>zMG 0 0 0 m m m px py pz W
 rw [Int.zero_add,Int.zero_add,Int.zero_add,wi px (by omega),wi py (by omega),wi pz (by omega),Int.add_comm m px,Int.add_comm m py,Int.add_comm m pz,
  wi (px+m) (by omega),wi (py+m) (by omega),wi (pz+m) (by omega)] at Rj
 have QX:IntKind.i64.wrap ((2:Int) ^ n)=m:=by rw [←hm];exact hp
 clear hm PV hx hy hz;go_enter Tryz.func92,Tryz.ntmps92;go_wp2_with fail;generalize hW:(w.alloc _).alloc _=W;have JE:=sz2 hW;have hB:=bl2 hW;have kp:Bk W (w.heap.size) #[px,py,pz] 23:=bk1 hW;have kr:Bk W (w.heap.size+1) #[(0:Int),(0:Int),(0:Int),(0:Int),(0:Int),(0:Int)] 25:=bk0 hW;clear hW;obtain ⟨cp0,cp1,cp2⟩:=kp.r3;have q0:=Bx.mk fun dk osk=>rq (zDz m (grow (redrawn W dk) osk));have q1:=Bx.mk fun dk osk=>rq (Rj.o (grow (redrawn W dk) osk));refine zAK 5 (by kernel_rfl) (by kernel_rfl) ?_
 simp only [List.take_succ_cons,List.take_zero,List.drop_succ_cons,List.drop_zero]
 repeat (first | go_big_quiet_step (with_reducible first | exact q0.o _ _ | exact q1.o _ _) | quiet_step (with_reducible first | exact q0.o _ _ | exact q1.o _ _))
 refine wq ?_;rintro _ ⟨⟨dq,osq⟩,rfl⟩;have hb:=bq W dq osq;replace hB:=tr hB hb;clear cp0 cp1 cp2;clear q0;clear q1;replace kp:=kp.la hb;replace kr:=kr.la hb;replace JE:=nlt JE hb.size;clear hb;generalize grow (redrawn W dq) osq=W1 at *;have Fj:=kr.cell 0 rfl;have GU:=kr.frozen 0;have Fk:=kr.cell 1 rfl;have GV:=kr.frozen 1;have Fl:=kr.cell 2 rfl;have GW:=kr.frozen 2;have Fm:=kr.cell 3 rfl;have GX:=kr.frozen 3;have Fn:=kr.cell 4 rfl;have GY:=kr.frozen 4;have Fo:=kr.cell 5 rfl;have GZ:=kr.frozen 5;go_wp2_with fail;replace kr:=kr.put6 (.int .i64 px) (.int .i64 py) (.int .i64 pz) (.int .i64 (px+m)) (.int .i64 (py+m)) (.int .i64 (pz+m));exact bodyPost_ret (v:=.agg #[px,py,pz,(px+m:Int),(py+m:Int),(pz+m:Int)]) (results_cell_row rfl _ _ _ 25 #[px,py,pz,(px+m:Int),(py+m:Int),(pz+m:Int)] (0,0) _ rfl kr Tryz.underlying25 rfl (by kernel_rfl)) rfl ⟨rfl,zBm hB (by omega) _ _ _ _ _ _⟩
theorem zJC (h:Nat) (hh:h≤14) (px py pz:Int) (hx:0≤px∧px≤100000) (hy:0≤py∧py≤100000) (hz:0≤pz∧pz≤100000) (w:World) :
 Calls Tryz.prog 103 #[((h+1:Nat):Int),.agg #[px,py,pz]] w fun e w'=>e = .returned (.int .i64 (px / 2 ^ h % 2+2 * (py / 2 ^ h % 2)+4 * (pz / 2 ^ h % 2)))∧Below w.heap.size w w':=by
 have Hx:=Bx.mk hx;have Hy:=Bx.mk hy;have Hz:=Bx.mk hz;clear hx hy hz;go_enter Tryz.func103,Tryz.ntmps103;go_wp2_with fail;generalize hW:w.alloc _=W;have JE:=sz1 hW;have hB:=bl1 hW;have kp:Bk W (w.heap.size) #[px,py,pz] 23:=bk0 hW;clear hW;obtain ⟨cp0,cp1,cp2⟩:=kp.r3;refine wg ?_
 repeat (first | go_big_quiet_step (fail) | quiet_step (fail))
 refine wq ?_;rintro _ ⟨⟨dq,osq⟩,rfl⟩;have hb:=bq W dq osq;clear cp0 cp1 cp2;replace hB:=tr hB hb;replace kp:=kp.la hb;replace JE:=nlt JE hb.size;clear hb;generalize grow (redrawn W dq) osq=W1 at *;go_wp2_with fail;go_ret;refine ⟨zLa ?_,hB⟩
 have key : ∀ p:Int,0≤p∧p≤100000→bits .and .i64 (p / 2 ^ h) 1=p / 2 ^ h % 2∧0≤p / 2 ^ h % 2∧p / 2 ^ h % 2<2:=fun p hp=>by
  have Qn:=(zt hh).1;have h0:=Int.ediv_nonneg hp.1 (show 0≤(2:Int) ^ h by omega)
  have h1:=Int.ediv_le_self (2 ^ h) hp.1;exact ⟨zGJ _ h0 (by omega),by omega,by omega⟩
 obtain ⟨x1,x2⟩:=key px Hx.o;obtain ⟨y1,y2⟩:=key py Hy.o;obtain ⟨z1,z2⟩:=key pz Hz.o;rw [x1,y1,z1];exact zJU x2 y2 z2
def chX (i:Nat) (m:Int):Int:=(i % 2:Nat) * m
def chY (i:Nat) (m:Int):Int:=(i / 2 % 2:Nat) * m
def chZ (i:Nat) (m:Int):Int:=(i / 4:Nat) * m
theorem zCg {i:Nat} (hi:i<8) {m:Int} (hm:0≤m):(0≤chX i m∧chX i m≤m)∧(0≤chY i m∧chY i m≤m)∧(0≤chZ i m∧chZ i m≤m):=by
 unfold chX chY chZ;have h:i=0∨i=1∨i=2∨i=3∨i=4∨i=5∨i=6∨i=7:=by omega
 rcases h with rfl | rfl | rfl | rfl | rfl | rfl | rfl | rfl <;> simp <;> omega
theorem zDV (h:Nat) (hh:h≤13) (px py pz m:Int) (hm:m=2 ^ h) (hx : -100000≤px∧px≤100000) (hy : -100000≤py∧py≤100000) (hz : -100000≤pz∧pz≤100000) (w:World) :
 Calls Tryz.prog 95 #[.agg #[px,py,pz],((h+1:Nat):Int),(0:Int)] w fun e w'=>e = .returned (.agg #[px,py,pz])∧Below w.heap.size w w':=by
 have hp:=zu (n:=h) (by omega)
 have PV:=zt (n:=h) (by omega)
 rw [←hm] at PV;have QX:IntKind.i64.wrap ((2:Int) ^ h)=m:=by rw [hp,hm]
 have b0:bits .and .i64 0 1=0:=by decide
 have b1:bits .and .i64 1 1=1:=by decide
 have b2:bits .and .i64 2 1=0:=by decide
 have b3:bits .and .i64 3 1=1:=by decide
 have b4:bits .and .i64 4 1=0:=by decide
 have b5:bits .and .i64 5 1=1:=by decide
 have b6:bits .and .i64 6 1=0:=by decide
 have b7:bits .and .i64 7 1=1:=by decide
 have w0:IntKind.i64.wrap 0=0:=by decide
 have JZ:=Bx.mk fun W=>zA px py pz 0 0 0 W;rw [Int.add_zero px,Int.add_zero py,Int.add_zero pz] at JZ;rw [wi px (by omega),wi py (by omega),wi pz (by omega)] at JZ
 clear hp hm PV hx hy hz;go_enter Tryz.func95,Tryz.ntmps95;go_wp2_with fail;generalize hW:(w.alloc _).alloc _=W;have JE:=sz2 hW;have hB:=bl2 hW;have kp:Bk W (w.heap.size) #[px,py,pz] 23:=bk1 hW;have kr:Bk W (w.heap.size+1) #[(0:Int),(0:Int),(0:Int)] 23:=bk0 hW;clear hW;obtain ⟨cp0,cp1,cp2⟩:=kp.r3;have q0:=Bx.mk fun dk osk=>rq (JZ.o (grow (redrawn W dk) osk));refine zAK 16 (by kernel_rfl) (by kernel_rfl) ?_
 simp only [List.take_succ_cons,List.take_zero,List.drop_succ_cons,List.drop_zero]
 repeat (first | go_big_quiet_step (with_reducible exact q0.o _ _) | quiet_step (with_reducible exact q0.o _ _))
 refine wq ?_;rintro _ ⟨⟨dq,osq⟩,rfl⟩;have hb:=bq W dq osq;replace hB:=tr hB hb;clear cp0 cp1 cp2;clear q0;replace kp:=kp.la hb;replace kr:=kr.la hb;replace JE:=nlt JE hb.size;clear hb;generalize grow (redrawn W dq) osq=W1 at *;have Fj:=kr.cell 0 rfl;have GU:=kr.frozen 0;have Fk:=kr.cell 1 rfl;have GV:=kr.frozen 1;have Fl:=kr.cell 2 rfl;have GW:=kr.frozen 2;go_wp2_with fail;replace kr:=kr.put3 (.int .i64 px) (.int .i64 py) (.int .i64 pz);exact bodyPost_ret (v:=.agg #[px,py,pz]) (results_cell_row rfl _ _ _ 23 #[px,py,pz] (0,0) _ rfl kr Tryz.underlying23 rfl (by kernel_rfl)) rfl ⟨rfl,zBk hB (by omega) _ _ _⟩
theorem zDW (h:Nat) (hh:h≤13) (px py pz m:Int) (hm:m=2 ^ h) (hx : -100000≤px∧px≤100000) (hy : -100000≤py∧py≤100000) (hz : -100000≤pz∧pz≤100000) (w:World) :
 Calls Tryz.prog 95 #[.agg #[px,py,pz],((h+1:Nat):Int),(1:Int)] w fun e w'=>e = .returned (.agg #[(px+m:Int),py,pz])∧Below w.heap.size w w':=by
 have hp:=zu (n:=h) (by omega)
 have PV:=zt (n:=h) (by omega)
 rw [←hm] at PV;have QX:IntKind.i64.wrap ((2:Int) ^ h)=m:=by rw [hp,hm]
 have b0:bits .and .i64 0 1=0:=by decide
 have b1:bits .and .i64 1 1=1:=by decide
 have b2:bits .and .i64 2 1=0:=by decide
 have b3:bits .and .i64 3 1=1:=by decide
 have b4:bits .and .i64 4 1=0:=by decide
 have b5:bits .and .i64 5 1=1:=by decide
 have b6:bits .and .i64 6 1=0:=by decide
 have b7:bits .and .i64 7 1=1:=by decide
 have w0:IntKind.i64.wrap 0=0:=by decide
 have JZ:=Bx.mk fun W=>zA px py pz m 0 0 W;rw [Int.add_zero py,Int.add_zero pz] at JZ;rw [wi (px+m) (by omega),wi py (by omega),wi pz (by omega)] at JZ
 clear hp hm PV hx hy hz;go_enter Tryz.func95,Tryz.ntmps95;go_wp2_with fail;generalize hW:(w.alloc _).alloc _=W;have JE:=sz2 hW;have hB:=bl2 hW;have kp:Bk W (w.heap.size) #[px,py,pz] 23:=bk1 hW;have kr:Bk W (w.heap.size+1) #[(0:Int),(0:Int),(0:Int)] 23:=bk0 hW;clear hW;obtain ⟨cp0,cp1,cp2⟩:=kp.r3;have q0:=Bx.mk fun dk osk=>rq (JZ.o (grow (redrawn W dk) osk));refine zAK 16 (by kernel_rfl) (by kernel_rfl) ?_
 simp only [List.take_succ_cons,List.take_zero,List.drop_succ_cons,List.drop_zero]
 repeat (first | go_big_quiet_step (with_reducible exact q0.o _ _) | quiet_step (with_reducible exact q0.o _ _))
 refine wq ?_;rintro _ ⟨⟨dq,osq⟩,rfl⟩;have hb:=bq W dq osq;replace hB:=tr hB hb;clear cp0 cp1 cp2;clear q0;replace kp:=kp.la hb;replace kr:=kr.la hb;replace JE:=nlt JE hb.size;clear hb;generalize grow (redrawn W dq) osq=W1 at *;have Fj:=kr.cell 0 rfl;have GU:=kr.frozen 0;have Fk:=kr.cell 1 rfl;have GV:=kr.frozen 1;have Fl:=kr.cell 2 rfl;have GW:=kr.frozen 2;go_wp2_with fail;replace kr:=kr.put3 (.int .i64 (px+m)) (.int .i64 py) (.int .i64 pz);exact bodyPost_ret (v:=.agg #[(px+m:Int),py,pz]) (results_cell_row rfl _ _ _ 23 #[(px+m:Int),py,pz] (0,0) _ rfl kr Tryz.underlying23 rfl (by kernel_rfl)) rfl ⟨rfl,zBk hB (by omega) _ _ _⟩
theorem zDX (h:Nat) (hh:h≤13) (px py pz m:Int) (hm:m=2 ^ h) (hx : -100000≤px∧px≤100000) (hy : -100000≤py∧py≤100000) (hz : -100000≤pz∧pz≤100000) (w:World) :
 Calls Tryz.prog 95 #[.agg #[px,py,pz],((h+1:Nat):Int),(2:Int)] w fun e w'=>e = .returned (.agg #[px,(py+m:Int),pz])∧Below w.heap.size w w':=by
 have hp:=zu (n:=h) (by omega)
 have PV:=zt (n:=h) (by omega)
 rw [←hm] at PV;have QX:IntKind.i64.wrap ((2:Int) ^ h)=m:=by rw [hp,hm]
 have b0:bits .and .i64 0 1=0:=by decide
 have b1:bits .and .i64 1 1=1:=by decide
 have b2:bits .and .i64 2 1=0:=by decide
 have b3:bits .and .i64 3 1=1:=by decide
 have b4:bits .and .i64 4 1=0:=by decide
 have b5:bits .and .i64 5 1=1:=by decide
 have b6:bits .and .i64 6 1=0:=by decide
 have b7:bits .and .i64 7 1=1:=by decide
 have w0:IntKind.i64.wrap 0=0:=by decide
 have JZ:=Bx.mk fun W=>zA px py pz 0 m 0 W;rw [Int.add_zero px,Int.add_zero pz] at JZ;rw [wi px (by omega),wi (py+m) (by omega),wi pz (by omega)] at JZ
 clear hp hm PV hx hy hz;go_enter Tryz.func95,Tryz.ntmps95;go_wp2_with fail;generalize hW:(w.alloc _).alloc _=W;have JE:=sz2 hW;have hB:=bl2 hW;have kp:Bk W (w.heap.size) #[px,py,pz] 23:=bk1 hW;have kr:Bk W (w.heap.size+1) #[(0:Int),(0:Int),(0:Int)] 23:=bk0 hW;clear hW;obtain ⟨cp0,cp1,cp2⟩:=kp.r3;have q0:=Bx.mk fun dk osk=>rq (JZ.o (grow (redrawn W dk) osk));refine zAK 16 (by kernel_rfl) (by kernel_rfl) ?_
 simp only [List.take_succ_cons,List.take_zero,List.drop_succ_cons,List.drop_zero]
 repeat (first | go_big_quiet_step (with_reducible exact q0.o _ _) | quiet_step (with_reducible exact q0.o _ _))
 refine wq ?_;rintro _ ⟨⟨dq,osq⟩,rfl⟩;have hb:=bq W dq osq;replace hB:=tr hB hb;clear cp0 cp1 cp2;clear q0;replace kp:=kp.la hb;replace kr:=kr.la hb;replace JE:=nlt JE hb.size;clear hb;generalize grow (redrawn W dq) osq=W1 at *;have Fj:=kr.cell 0 rfl;have GU:=kr.frozen 0;have Fk:=kr.cell 1 rfl;have GV:=kr.frozen 1;have Fl:=kr.cell 2 rfl;have GW:=kr.frozen 2;go_wp2_with fail;replace kr:=kr.put3 (.int .i64 px) (.int .i64 (py+m)) (.int .i64 pz);exact bodyPost_ret (v:=.agg #[px,(py+m:Int),pz]) (results_cell_row rfl _ _ _ 23 #[px,(py+m:Int),pz] (0,0) _ rfl kr Tryz.underlying23 rfl (by kernel_rfl)) rfl ⟨rfl,zBk hB (by omega) _ _ _⟩
theorem zDY (h:Nat) (hh:h≤13) (px py pz m:Int) (hm:m=2 ^ h) (hx : -100000≤px∧px≤100000) (hy : -100000≤py∧py≤100000) (hz : -100000≤pz∧pz≤100000) (w:World) :
 Calls Tryz.prog 95 #[.agg #[px,py,pz],((h+1:Nat):Int),(3:Int)] w fun e w'=>e = .returned (.agg #[(px+m:Int),(py+m:Int),pz])∧Below w.heap.size w w':=by
 have hp:=zu (n:=h) (by omega)
 have PV:=zt (n:=h) (by omega)
 rw [←hm] at PV;have QX:IntKind.i64.wrap ((2:Int) ^ h)=m:=by rw [hp,hm]
 have b0:bits .and .i64 0 1=0:=by decide
 have b1:bits .and .i64 1 1=1:=by decide
 have b2:bits .and .i64 2 1=0:=by decide
 have b3:bits .and .i64 3 1=1:=by decide
 have b4:bits .and .i64 4 1=0:=by decide
 have b5:bits .and .i64 5 1=1:=by decide
 have b6:bits .and .i64 6 1=0:=by decide
 have b7:bits .and .i64 7 1=1:=by decide
 have w0:IntKind.i64.wrap 0=0:=by decide
 have JZ:=Bx.mk fun W=>zA px py pz m m 0 W;rw [Int.add_zero pz] at JZ;rw [wi (px+m) (by omega),wi (py+m) (by omega),wi pz (by omega)] at JZ
 clear hp hm PV hx hy hz;go_enter Tryz.func95,Tryz.ntmps95;go_wp2_with fail;generalize hW:(w.alloc _).alloc _=W;have JE:=sz2 hW;have hB:=bl2 hW;have kp:Bk W (w.heap.size) #[px,py,pz] 23:=bk1 hW;have kr:Bk W (w.heap.size+1) #[(0:Int),(0:Int),(0:Int)] 23:=bk0 hW;clear hW;obtain ⟨cp0,cp1,cp2⟩:=kp.r3;have q0:=Bx.mk fun dk osk=>rq (JZ.o (grow (redrawn W dk) osk));refine zAK 16 (by kernel_rfl) (by kernel_rfl) ?_
 simp only [List.take_succ_cons,List.take_zero,List.drop_succ_cons,List.drop_zero]
 repeat (first | go_big_quiet_step (with_reducible exact q0.o _ _) | quiet_step (with_reducible exact q0.o _ _))
 refine wq ?_;rintro _ ⟨⟨dq,osq⟩,rfl⟩;have hb:=bq W dq osq;replace hB:=tr hB hb;clear cp0 cp1 cp2;clear q0;replace kp:=kp.la hb;replace kr:=kr.la hb;replace JE:=nlt JE hb.size;clear hb;generalize grow (redrawn W dq) osq=W1 at *;have Fj:=kr.cell 0 rfl;have GU:=kr.frozen 0;have Fk:=kr.cell 1 rfl;have GV:=kr.frozen 1;have Fl:=kr.cell 2 rfl;have GW:=kr.frozen 2;go_wp2_with fail;replace kr:=kr.put3 (.int .i64 (px+m)) (.int .i64 (py+m)) (.int .i64 pz);exact bodyPost_ret (v:=.agg #[(px+m:Int),(py+m:Int),pz]) (results_cell_row rfl _ _ _ 23 #[(px+m:Int),(py+m:Int),pz] (0,0) _ rfl kr Tryz.underlying23 rfl (by kernel_rfl)) rfl ⟨rfl,zBk hB (by omega) _ _ _⟩
theorem zDZ (h:Nat) (hh:h≤13) (px py pz m:Int) (hm:m=2 ^ h) (hx : -100000≤px∧px≤100000) (hy : -100000≤py∧py≤100000) (hz : -100000≤pz∧pz≤100000) (w:World) :
 Calls Tryz.prog 95 #[.agg #[px,py,pz],((h+1:Nat):Int),(4:Int)] w fun e w'=>e = .returned (.agg #[px,py,(pz+m:Int)])∧Below w.heap.size w w':=by
 have hp:=zu (n:=h) (by omega)
 have PV:=zt (n:=h) (by omega)
 rw [←hm] at PV;have QX:IntKind.i64.wrap ((2:Int) ^ h)=m:=by rw [hp,hm]
 have b0:bits .and .i64 0 1=0:=by decide
 have b1:bits .and .i64 1 1=1:=by decide
 have b2:bits .and .i64 2 1=0:=by decide
 have b3:bits .and .i64 3 1=1:=by decide
 have b4:bits .and .i64 4 1=0:=by decide
 have b5:bits .and .i64 5 1=1:=by decide
 have b6:bits .and .i64 6 1=0:=by decide
 have b7:bits .and .i64 7 1=1:=by decide
 have w0:IntKind.i64.wrap 0=0:=by decide
 have JZ:=Bx.mk fun W=>zA px py pz 0 0 m W;rw [Int.add_zero px,Int.add_zero py] at JZ;rw [wi px (by omega),wi py (by omega),wi (pz+m) (by omega)] at JZ
 clear hp hm PV hx hy hz;go_enter Tryz.func95,Tryz.ntmps95;go_wp2_with fail;generalize hW:(w.alloc _).alloc _=W;have JE:=sz2 hW;have hB:=bl2 hW;have kp:Bk W (w.heap.size) #[px,py,pz] 23:=bk1 hW;have kr:Bk W (w.heap.size+1) #[(0:Int),(0:Int),(0:Int)] 23:=bk0 hW;clear hW;obtain ⟨cp0,cp1,cp2⟩:=kp.r3;have q0:=Bx.mk fun dk osk=>rq (JZ.o (grow (redrawn W dk) osk));refine zAK 16 (by kernel_rfl) (by kernel_rfl) ?_
 simp only [List.take_succ_cons,List.take_zero,List.drop_succ_cons,List.drop_zero]
 repeat (first | go_big_quiet_step (with_reducible exact q0.o _ _) | quiet_step (with_reducible exact q0.o _ _))
 refine wq ?_;rintro _ ⟨⟨dq,osq⟩,rfl⟩;have hb:=bq W dq osq;replace hB:=tr hB hb;clear cp0 cp1 cp2;clear q0;replace kp:=kp.la hb;replace kr:=kr.la hb;replace JE:=nlt JE hb.size;clear hb;generalize grow (redrawn W dq) osq=W1 at *;have Fj:=kr.cell 0 rfl;have GU:=kr.frozen 0;have Fk:=kr.cell 1 rfl;have GV:=kr.frozen 1;have Fl:=kr.cell 2 rfl;have GW:=kr.frozen 2;go_wp2_with fail;replace kr:=kr.put3 (.int .i64 px) (.int .i64 py) (.int .i64 (pz+m));exact bodyPost_ret (v:=.agg #[px,py,(pz+m:Int)]) (results_cell_row rfl _ _ _ 23 #[px,py,(pz+m:Int)] (0,0) _ rfl kr Tryz.underlying23 rfl (by kernel_rfl)) rfl ⟨rfl,zBk hB (by omega) _ _ _⟩
theorem zDa (h:Nat) (hh:h≤13) (px py pz m:Int) (hm:m=2 ^ h) (hx : -100000≤px∧px≤100000) (hy : -100000≤py∧py≤100000) (hz : -100000≤pz∧pz≤100000) (w:World) :
 Calls Tryz.prog 95 #[.agg #[px,py,pz],((h+1:Nat):Int),(5:Int)] w fun e w'=>e = .returned (.agg #[(px+m:Int),py,(pz+m:Int)])∧Below w.heap.size w w':=by
 have hp:=zu (n:=h) (by omega)
 have PV:=zt (n:=h) (by omega)
 rw [←hm] at PV;have QX:IntKind.i64.wrap ((2:Int) ^ h)=m:=by rw [hp,hm]
 have b0:bits .and .i64 0 1=0:=by decide
 have b1:bits .and .i64 1 1=1:=by decide
 have b2:bits .and .i64 2 1=0:=by decide
 have b3:bits .and .i64 3 1=1:=by decide
 have b4:bits .and .i64 4 1=0:=by decide
 have b5:bits .and .i64 5 1=1:=by decide
 have b6:bits .and .i64 6 1=0:=by decide
 have b7:bits .and .i64 7 1=1:=by decide
 have w0:IntKind.i64.wrap 0=0:=by decide
 have JZ:=Bx.mk fun W=>zA px py pz m 0 m W;rw [Int.add_zero py] at JZ;rw [wi (px+m) (by omega),wi py (by omega),wi (pz+m) (by omega)] at JZ
 clear hp hm PV hx hy hz;go_enter Tryz.func95,Tryz.ntmps95;go_wp2_with fail;generalize hW:(w.alloc _).alloc _=W;have JE:=sz2 hW;have hB:=bl2 hW;have kp:Bk W (w.heap.size) #[px,py,pz] 23:=bk1 hW;have kr:Bk W (w.heap.size+1) #[(0:Int),(0:Int),(0:Int)] 23:=bk0 hW;clear hW;obtain ⟨cp0,cp1,cp2⟩:=kp.r3;have q0:=Bx.mk fun dk osk=>rq (JZ.o (grow (redrawn W dk) osk));refine zAK 16 (by kernel_rfl) (by kernel_rfl) ?_
 simp only [List.take_succ_cons,List.take_zero,List.drop_succ_cons,List.drop_zero]
 repeat (first | go_big_quiet_step (with_reducible exact q0.o _ _) | quiet_step (with_reducible exact q0.o _ _))
 refine wq ?_;rintro _ ⟨⟨dq,osq⟩,rfl⟩;have hb:=bq W dq osq;replace hB:=tr hB hb;clear cp0 cp1 cp2;clear q0;replace kp:=kp.la hb;replace kr:=kr.la hb;replace JE:=nlt JE hb.size;clear hb;generalize grow (redrawn W dq) osq=W1 at *;have Fj:=kr.cell 0 rfl;have GU:=kr.frozen 0;have Fk:=kr.cell 1 rfl;have GV:=kr.frozen 1;have Fl:=kr.cell 2 rfl;have GW:=kr.frozen 2;go_wp2_with fail;replace kr:=kr.put3 (.int .i64 (px+m)) (.int .i64 py) (.int .i64 (pz+m));exact bodyPost_ret (v:=.agg #[(px+m:Int),py,(pz+m:Int)]) (results_cell_row rfl _ _ _ 23 #[(px+m:Int),py,(pz+m:Int)] (0,0) _ rfl kr Tryz.underlying23 rfl (by kernel_rfl)) rfl ⟨rfl,zBk hB (by omega) _ _ _⟩
theorem zDb (h:Nat) (hh:h≤13) (px py pz m:Int) (hm:m=2 ^ h) (hx : -100000≤px∧px≤100000) (hy : -100000≤py∧py≤100000) (hz : -100000≤pz∧pz≤100000) (w:World) :
 Calls Tryz.prog 95 #[.agg #[px,py,pz],((h+1:Nat):Int),(6:Int)] w fun e w'=>e = .returned (.agg #[px,(py+m:Int),(pz+m:Int)])∧Below w.heap.size w w':=by
 have hp:=zu (n:=h) (by omega)
 have PV:=zt (n:=h) (by omega)
 rw [←hm] at PV;have QX:IntKind.i64.wrap ((2:Int) ^ h)=m:=by rw [hp,hm]
 have b0:bits .and .i64 0 1=0:=by decide
 have b1:bits .and .i64 1 1=1:=by decide
 have b2:bits .and .i64 2 1=0:=by decide
 have b3:bits .and .i64 3 1=1:=by decide
 have b4:bits .and .i64 4 1=0:=by decide
 have b5:bits .and .i64 5 1=1:=by decide
 have b6:bits .and .i64 6 1=0:=by decide
 have b7:bits .and .i64 7 1=1:=by decide
 have w0:IntKind.i64.wrap 0=0:=by decide
 have JZ:=Bx.mk fun W=>zA px py pz 0 m m W;rw [Int.add_zero px] at JZ;rw [wi px (by omega),wi (py+m) (by omega),wi (pz+m) (by omega)] at JZ
 clear hp hm PV hx hy hz;go_enter Tryz.func95,Tryz.ntmps95;go_wp2_with fail;generalize hW:(w.alloc _).alloc _=W;have JE:=sz2 hW;have hB:=bl2 hW;have kp:Bk W (w.heap.size) #[px,py,pz] 23:=bk1 hW;have kr:Bk W (w.heap.size+1) #[(0:Int),(0:Int),(0:Int)] 23:=bk0 hW;clear hW;obtain ⟨cp0,cp1,cp2⟩:=kp.r3;have q0:=Bx.mk fun dk osk=>rq (JZ.o (grow (redrawn W dk) osk));refine zAK 16 (by kernel_rfl) (by kernel_rfl) ?_
 simp only [List.take_succ_cons,List.take_zero,List.drop_succ_cons,List.drop_zero]
 repeat (first | go_big_quiet_step (with_reducible exact q0.o _ _) | quiet_step (with_reducible exact q0.o _ _))
 refine wq ?_;rintro _ ⟨⟨dq,osq⟩,rfl⟩;have hb:=bq W dq osq;replace hB:=tr hB hb;clear cp0 cp1 cp2;clear q0;replace kp:=kp.la hb;replace kr:=kr.la hb;replace JE:=nlt JE hb.size;clear hb;generalize grow (redrawn W dq) osq=W1 at *;have Fj:=kr.cell 0 rfl;have GU:=kr.frozen 0;have Fk:=kr.cell 1 rfl;have GV:=kr.frozen 1;have Fl:=kr.cell 2 rfl;have GW:=kr.frozen 2;go_wp2_with fail;replace kr:=kr.put3 (.int .i64 px) (.int .i64 (py+m)) (.int .i64 (pz+m));exact bodyPost_ret (v:=.agg #[px,(py+m:Int),(pz+m:Int)]) (results_cell_row rfl _ _ _ 23 #[px,(py+m:Int),(pz+m:Int)] (0,0) _ rfl kr Tryz.underlying23 rfl (by kernel_rfl)) rfl ⟨rfl,zBk hB (by omega) _ _ _⟩
theorem zDc (h:Nat) (hh:h≤13) (px py pz m:Int) (hm:m=2 ^ h) (hx : -100000≤px∧px≤100000) (hy : -100000≤py∧py≤100000) (hz : -100000≤pz∧pz≤100000) (w:World) :
 Calls Tryz.prog 95 #[.agg #[px,py,pz],((h+1:Nat):Int),(7:Int)] w fun e w'=>e = .returned (.agg #[(px+m:Int),(py+m:Int),(pz+m:Int)])∧Below w.heap.size w w':=by
 have hp:=zu (n:=h) (by omega)
 have PV:=zt (n:=h) (by omega)
 rw [←hm] at PV;have QX:IntKind.i64.wrap ((2:Int) ^ h)=m:=by rw [hp,hm]
 have b0:bits .and .i64 0 1=0:=by decide
 have b1:bits .and .i64 1 1=1:=by decide
 have b2:bits .and .i64 2 1=0:=by decide
 have b3:bits .and .i64 3 1=1:=by decide
 have b4:bits .and .i64 4 1=0:=by decide
 have b5:bits .and .i64 5 1=1:=by decide
 have b6:bits .and .i64 6 1=0:=by decide
 have b7:bits .and .i64 7 1=1:=by decide
 have w0:IntKind.i64.wrap 0=0:=by decide
 have JZ:=Bx.mk fun W=>zA px py pz m m m W
 skip
 rw [wi (px+m) (by omega),wi (py+m) (by omega),wi (pz+m) (by omega)] at JZ
 clear hp hm PV hx hy hz;go_enter Tryz.func95,Tryz.ntmps95;go_wp2_with fail;generalize hW:(w.alloc _).alloc _=W;have JE:=sz2 hW;have hB:=bl2 hW;have kp:Bk W (w.heap.size) #[px,py,pz] 23:=bk1 hW;have kr:Bk W (w.heap.size+1) #[(0:Int),(0:Int),(0:Int)] 23:=bk0 hW;clear hW;obtain ⟨cp0,cp1,cp2⟩:=kp.r3;have q0:=Bx.mk fun dk osk=>rq (JZ.o (grow (redrawn W dk) osk));refine zAK 16 (by kernel_rfl) (by kernel_rfl) ?_
 simp only [List.take_succ_cons,List.take_zero,List.drop_succ_cons,List.drop_zero]
 repeat (first | go_big_quiet_step (with_reducible exact q0.o _ _) | quiet_step (with_reducible exact q0.o _ _))
 refine wq ?_;rintro _ ⟨⟨dq,osq⟩,rfl⟩;have hb:=bq W dq osq;replace hB:=tr hB hb;clear cp0 cp1 cp2;clear q0;replace kp:=kp.la hb;replace kr:=kr.la hb;replace JE:=nlt JE hb.size;clear hb;generalize grow (redrawn W dq) osq=W1 at *;have Fj:=kr.cell 0 rfl;have GU:=kr.frozen 0;have Fk:=kr.cell 1 rfl;have GV:=kr.frozen 1;have Fl:=kr.cell 2 rfl;have GW:=kr.frozen 2;go_wp2_with fail;replace kr:=kr.put3 (.int .i64 (px+m)) (.int .i64 (py+m)) (.int .i64 (pz+m));exact bodyPost_ret (v:=.agg #[(px+m:Int),(py+m:Int),(pz+m:Int)]) (results_cell_row rfl _ _ _ 23 #[(px+m:Int),(py+m:Int),(pz+m:Int)] (0,0) _ rfl kr Tryz.underlying23 rfl (by kernel_rfl)) rfl ⟨rfl,zBk hB (by omega) _ _ _⟩
theorem zDd (h:Nat) (hh:h≤13) (px py pz:Int) (i:Nat) (hi:i<8) (hx : -100000≤px∧px≤100000) (hy : -100000≤py∧py≤100000) (hz : -100000≤pz∧pz≤100000) (w:World) :
 Calls Tryz.prog 95 #[.agg #[px,py,pz],((h+1:Nat):Int),(i:Int)] w fun e w'=>e = .returned (.agg #[(px+chX i (2 ^ h):Int),(py+chY i (2 ^ h):Int),(pz+chZ i (2 ^ h):Int)])∧Below w.heap.size w w':=by
 have hc:i=0∨i=1∨i=2∨i=3∨i=4∨i=5∨i=6∨i=7:=by omega
 rcases hc with rfl | rfl | rfl | rfl | rfl | rfl | rfl | rfl
 · have:=zDV h hh px py pz _ rfl hx hy hz w;simpa [chX,chY,chZ] using this
 · have:=zDW h hh px py pz _ rfl hx hy hz w;simpa [chX,chY,chZ] using this
 · have:=zDX h hh px py pz _ rfl hx hy hz w;simpa [chX,chY,chZ] using this
 · have:=zDY h hh px py pz _ rfl hx hy hz w;simpa [chX,chY,chZ] using this
 · have:=zDZ h hh px py pz _ rfl hx hy hz w;simpa [chX,chY,chZ] using this
 · have:=zDa h hh px py pz _ rfl hx hy hz w;simpa [chX,chY,chZ] using this
 · have:=zDb h hh px py pz _ rfl hx hy hz w;simpa [chX,chY,chZ] using this
 · have:=zDc h hh px py pz _ rfl hx hy hz w;simpa [chX,chY,chZ] using this
end
section
open Go.RowKit Go.Sort Go.Maps
open Oct
abbrev zLY (i e:Int):Ending:=.returned (.tuple #[i,e])
structure Grew (Far:Nat→Prop) (sb:Nat) (UA:Int) (ts ts':List Tr) (t:Tr) (w:World) (e:Ending) (w':World):Prop where
 keeps:Keeps Far w w'
 size:w.heap.size≤w'.heap.size
 way:(Tr.Fits UA ts ts'∧e=zLY (idT ts' t:Int) 0∧StoreIs w' Far sb UA ts') ∨
  (¬Tr.Fits UA ts ts'∧e=zLY 0 14 ∧ ∃ us,Good us∧ts <+: us∧us <+: ts'∧StoreIs w' Far sb UA us)
theorem Good.ins {ts:List Tr} (hG:Good ts) {t:Tr} (hl:Leans ts t) (hb:Bytes t):Good (Tr.ins t ts):=by
 by_cases h:t∈ts
 · rw [Tr.ins_of_mem h];exact hG
 · rw [Tr.ins_of_not h];exact hG.add h hl hb
theorem zIB (w:World) (Far:Nat→Prop) (sb:Nat) (UA:Int) (ts:List Tr) (t:Tr) (k c d x0 x1 x2 x3 x4 x5 x6 x7:Int) (s:ByteArray) (hV:zo ts t=zIq k c s d x0 x1 x2 x3 x4 x5 x6 x7) (hG:Good ts) (OY:Leans ts t) (Kz:Bytes t) (Od:ts.length≤1000000000000) (IV : ∀ k,Far k→k<w.heap.size)
 (hk : ∃ kl,keyOf Tryz.prog 145 (zIq k c s d x0 x1 x2 x3 x4 x5 x6 x7)=some kl) (hS:StoreIs w Far sb UA ts) :
 Calls Tryz.prog 109 #[.pointer (some ⟨sb,0,none⟩),.agg #[k,c,.string s,d,x0,x1,x2,x3,x4,x5,x6,x7]] w (Grew Far sb UA ts (Tr.ins t ts) t w):=by
 by_cases ht:t∈ts
 · refine (zID Far sb UA ts t k c d x0 x1 x2 x3 x4 x5 x6 x7 s hV hG ht hk w hS).mono ?_;rintro e w' ⟨rfl,hb⟩;rw [Tr.ins_of_mem ht];exact ⟨Keeps.below hb,hb.size,.inl ⟨.inl rfl,rfl,hS.la hb⟩⟩
 · by_cases hm:UA≤(ts.length:Int)
   · refine (zIC Far sb UA ts t k c d x0 x1 x2 x3 x4 x5 x6 x7 s hV hG ht OY Kz hm hk w hS).mono ?_;rintro e w' ⟨rfl,hb⟩;rw [Tr.ins_of_not ht];refine ⟨Keeps.below hb,hb.size,.inr ⟨?_,rfl,ts,hG,List.prefix_refl _,List.prefix_append _ _,hS.la hb⟩⟩;rintro (h | h)
     · simp at h
     · simp at h;omega
   · refine (zIE w Far sb UA ts t k c d x0 x1 x2 x3 x4 x5 x6 x7 s hV hG ht OY Kz (by omega) Od IV hk hS).mono ?_
     rintro e w' ⟨rfl,hs,hb⟩;rw [Tr.ins_of_not ht];refine ⟨hb,hb.size,.inl ⟨.inr (by simp;omega),?_,hs⟩⟩
     rw [zGO ht]
theorem zIF (w:World) (Far:Nat→Prop) (sb:Nat) (UA:Int) (ts:List Tr) (c:Int) (hc:0≤c∧c≤255) (hG:Good ts) (Od:ts.length≤1000000000000) (IV : ∀ k,Far k→k<w.heap.size) (hS:StoreIs w Far sb UA ts) :
 Calls Tryz.prog 109 #[.pointer (some ⟨sb,0,none⟩),.agg #[(1:Int),c,.string ByteArray.empty,(0:Int),(0:Int),(0:Int),(0:Int),(0:Int),(0:Int),(0:Int),(0:Int),(0:Int)]] w (Grew Far sb UA ts (Tr.add (.uni c) ts) (.uni c) w):=by
 rw [Tr.add_uni];exact zIB w Far sb UA ts (.uni c) 1 c 0 0 0 0 0 0 0 0 0 _ rfl hG (fun d ch h=>by cases h) (Bytes.uni hc) Od IV (zG8 _ _ _ _ _ _ _ _ _ _ _ _ (by simp [maxLen]) (by intro y hy;simp at hy;rcases hy with rfl | rfl | rfl <;> exact WalkArith.wf_i64 (by omega))) hS
theorem Good.uni {ts:List Tr} (hG:Good ts) {c:Int} (hc:0≤c∧c≤255):Good (Tr.add (.uni c) ts):=by
 rw [Tr.add_uni];exact hG.ins (fun d ch h=>by cases h) (Bytes.uni hc)
theorem zNx (w:World) (Far:Nat→Prop) (sb:Nat) (UA:Int) (ts:List Tr) (c:Int) (hc:0≤c∧c≤255) (hG:Good ts) (Od:ts.length≤1000000000000) (IV : ∀ k,Far k→k<w.heap.size) (hS:StoreIs w Far sb UA ts) :
 Calls Tryz.prog 48 #[.pointer (some ⟨sb,0,none⟩),c] w (Grew Far sb UA ts (Tr.add (.uni c) ts) (.uni c) w):=by
 have h1:=Bx.mk (fun W=>zGv c W);rw [show decide (0≤c∧c≤255)=true by simpa using hc] at h1
 have h2:=Bx.mk (zIF w Far sb UA ts c hc hG Od IV hS);clear hc hG Od IV hS;go_enter Tryz.func48,Tryz.ntmps48;go_wp2_with fail;refine (h1.o _).mono ?_;rintro e w1 ⟨rfl,rfl⟩;go_wp2_with fail;refine h2.o.mono ?_;rintro e w1 hg;have Hg:=Bx.mk hg;obtain ⟨-,-,(⟨hf,rfl,hs⟩ | ⟨hf,rfl,us,hs⟩)⟩:=hg
 all_goals
  clear hf hs;unfold zLY at Hg;go_wp2_with fail
  go_ret2
  exact Hg.o
theorem zBC (o:Oper) (h:o.op = .alloc 145) (ρ:Operand→Value) (w:World) :
 (execOp ρ o).run Tryz.prog w = .ok (.value (.pointer (some ⟨w.heap.size,0,none⟩))) (w.alloc (.cells #[(0:Int),(0:Int),.string ByteArray.empty,(0:Int),(0:Int),(0:Int),(0:Int),(0:Int),(0:Int),(0:Int),(0:Int),(0:Int)] 145)):=by
 unfold execOp;simp only [h];go_simp
 try rfl
theorem zMv (o:Oper) (tp tu:Tmp) (h:o.op = .store 145 (.tmp tp) (.tmp tu)) (z0 z1 z2 z3 z4 z5 z6 z7 z8 z9 z10 z11:Value) (k c:Int) (s:ByteArray) (d y0 y1 y2 y3 y4 y5 y6 y7:Int) (ρ:Operand→Value) (w:World) (g:Nat) (h1:ρ (.tmp tp) = .pointer (some ⟨g,0,none⟩))
 (h2:ρ (.tmp tu) = .agg #[k,c,.string s,d,y0,y1,y2,y3,y4,y5,y6,y7]) (hb:Bk w g #[z0,z1,z2,z3,z4,z5,z6,z7,z8,z9,z10,z11] 145) :
 ∃ w',(execOp ρ o).run Tryz.prog w = .ok .skip w'∧Bk w' g #[k,c,.string s,d,y0,y1,y2,y3,y4,y5,y6,y7] 145∧w.grownBy w' (some g)∧w'.heap.size=w.heap.size:=by
 have c0:=hb.cell 0 rfl;have f0:=hb.frozen 0;have c1:=hb.cell 1 rfl;have f1:=hb.frozen 1;have c2:=hb.cell 2 rfl;have f2:=hb.frozen 2;have c3:=hb.cell 3 rfl;have f3:=hb.frozen 3;have c4:=hb.cell 4 rfl;have f4:=hb.frozen 4;have c5:=hb.cell 5 rfl;have f5:=hb.frozen 5;have c6:=hb.cell 6 rfl;have f6:=hb.frozen 6;have c7:=hb.cell 7 rfl;have f7:=hb.frozen 7;have c8:=hb.cell 8 rfl;have f8:=hb.frozen 8;have c9:=hb.cell 9 rfl;have f9:=hb.frozen 9;have c10:=hb.cell 10 rfl;have f10:=hb.frozen 10;have c11:=hb.cell 11 rfl;have f11:=hb.frozen 11;refine ⟨_,?_,(by simpa using (((((((((((((((((((((((hb.set 0 (.int .i64 k))).set 1 (.int .i64 c))).set 2 (.string s))).set 3 (.int .i64 d))).set 4 (.int .i64 y0))).set 5 (.int .i64 y1))).set 6 (.int .i64 y2))).set 7 (.int .i64 y3))).set 8 (.int .i64 y4))).set 9 (.int .i64 y5))).set 10 (.int .i64 y6))).set 11 (.int .i64 y7))),zW (zW (zW (zW (zW (zW (zW (zW (zW (zW (zW (zW (World.grownBy.refl w _) _ _) _ _) _ _) _ _) _ _) _ _) _ _) _ _) _ _) _ _) _ _) _ _,by simp⟩
 unfold execOp;simp only [h];go_simp
theorem zEt (a0 a1 a2 a3 a4 a5 a6 a7 b0 b1 b2 b3 b4 b5 b6 b7:Int) (w:World):(binOp .eql 108 (.agg #[a0,a1,a2,a3,a4,a5,a6,a7]) (.agg #[b0,b1,b2,b3,b4,b5,b6,b7])).run Tryz.prog w = .ok (.bool (decide ([a0,a1,a2,a3,a4,a5,a6,a7]=[b0,b1,b2,b3,b4,b5,b6,b7]))) w:=by
 obtain ⟨i,hi⟩ : ∃ i,Tryz.prog.info? 3=some i:=Option.isSome_iff_exists.1 (by kernel_rfl)
 have hc : Tryz.prog.cellsOf 3=1:=by kernel_rfl
 rw [run_eql_struct,run_equalIn_array (n:=8) w 9999 _ _ Tryz.underlying108 hi,hc];rw [show List.range 8=[0,1,2,3,4,5,6,7] by decide]
 simp only [Op.eqItems];go_simp;by_cases h3:a0=b0
 rotate_left
 · simp [h3]
 by_cases h4:a1=b1
 rotate_left
 · simp [h4]
 by_cases h5:a2=b2
 rotate_left
 · simp [h5]
 by_cases h6:a3=b3
 rotate_left
 · simp [h6]
 by_cases h7:a4=b4
 rotate_left
 · simp [h7]
 by_cases h8:a5=b5
 rotate_left
 · simp [h8]
 by_cases h9:a6=b6
 rotate_left
 · simp [h9]
 by_cases h10:a7=b7
 rotate_left
 · simp [h10]
 simp [h3,h4,h5,h6,h7,h8,h9,h10]
def zHN:Tr→Int
 | .uni _=>1
 | .brick _=>2
 | .node _ _=>3
theorem zIx (ts:List Tr) (t:Tr) : ∃ c s d y0 y1 y2 y3 y4 y5 y6 y7,zo ts t=zIq (zHN t) c s d y0 y1 y2 y3 y4 y5 y6 y7:=by
 cases t with
 | uni c=>exact ⟨_,_,_,_,_,_,_,_,_,_,_,rfl⟩
 | brick l=>exact ⟨_,_,_,_,_,_,_,_,_,_,_,rfl⟩
 | node d ch=>exact ⟨_,_,_,_,_,_,_,_,_,_,_,rfl⟩
theorem Bx.node {w:World} {Far:Nat→Prop} {sb:Nat} {UA:Int} {ts:List Tr} (h:StoreIs w Far sb UA ts) {t:Tr} (ht:t∈ts) {k c:Int} {s:ByteArray} {d y0 y1 y2 y3 y4 y5 y6 y7:Int} (hV:zo ts t=zIq k c s d y0 y1 y2 y3 y4 y5 y6 y7) :
 ∃ g cap mb,Bk w sb #[UA,.slice (some ⟨g,0,none⟩) ts.length cap,.map (some mb)] 113∧idT ts t<ts.length∧Bx (∀ j u,j<12→(#[k,c,.string s,d,y0,y1,y2,y3,y4,y5,y6,y7]:Array Value).toList[j]? = some u→w.cell? ⟨g,idT ts t * 12+j,none⟩=some u):=by
 obtain ⟨g,cap,mb,h1,h2,h3⟩:=h.node (zGM ht);rw [hV] at h3;exact ⟨g,cap,mb,h1,h2,⟨h3⟩⟩
theorem zGp (w:World) (sb g n cap mb i:Nat) (UA c d dd y0 y1 y2 y3 y4 y5 y6 y7:Int) (s:ByteArray) (hi:i<n) (_hn:n≤1000000000000)
 (ks:Bk w sb #[UA,.slice (some ⟨g,0,none⟩) n cap,.map (some mb)] 113) (hc:Bx (∀ j u,j<12→(#[(1:Int),c,.string s,d,y0,y1,y2,y3,y4,y5,y6,y7]:Array Value).toList[j]? = some u→w.cell? ⟨g,i * 12+j,none⟩=some u)) :
 Calls Tryz.prog 96 #[.pointer (some ⟨sb,0,none⟩),dd,.agg #[(i:Int),(i:Int),(i:Int),(i:Int),(i:Int),(i:Int),(i:Int),(i:Int)]] w fun e w'=>e=zLY (i:Int) 0∧Below w.heap.size w w':=by
 have Mc:=fun W=>zEt (i:Int) (i:Int) (i:Int) (i:Int) (i:Int) (i:Int) (i:Int) (i:Int) (i:Int) (i:Int) (i:Int) (i:Int) (i:Int) (i:Int) (i:Int) (i:Int) W;go_enter Tryz.func96,Tryz.ntmps96;go_wp2_with fail;generalize hW:w.alloc _=W;have JE:=sz1 hW;have hB:=bl1 hW;have ka:Bk W (w.heap.size) #[(i:Int),(i:Int),(i:Int),(i:Int),(i:Int),(i:Int),(i:Int),(i:Int)] 108:=bk0 hW;clear hW;replace ks:=ks.la hB;have b1:(0:Int)≤(i:Int):=by omega
 have b2:(i:Int)<(n:Int):=by omega
 have d0 : ∀ dk osk,(grow (redrawn W dk) osk).cell? ⟨g,i * 12,none⟩=some (.int .i64 1):=cq (cell_later hB (hc.o 0 _ (by omega) rfl))
 have d1 : ∀ dk osk,(grow (redrawn W dk) osk).cell? ⟨g,i * 12+1,none⟩=some (.int .i64 c):=cq (cell_later hB (hc.o 1 _ (by omega) rfl))
 have d2 : ∀ dk osk,(grow (redrawn W dk) osk).cell? ⟨g,i * 12+2,none⟩=some (.string s):=cq (cell_later hB (hc.o 2 _ (by omega) rfl))
 have d3 : ∀ dk osk,(grow (redrawn W dk) osk).cell? ⟨g,i * 12+3,none⟩=some (.int .i64 d):=cq (cell_later hB (hc.o 3 _ (by omega) rfl))
 have d4 : ∀ dk osk,(grow (redrawn W dk) osk).cell? ⟨g,i * 12+4,none⟩=some (.int .i64 y0):=cq (cell_later hB (hc.o 4 _ (by omega) rfl))
 have d5 : ∀ dk osk,(grow (redrawn W dk) osk).cell? ⟨g,i * 12+5,none⟩=some (.int .i64 y1):=cq (cell_later hB (hc.o 5 _ (by omega) rfl))
 have d6 : ∀ dk osk,(grow (redrawn W dk) osk).cell? ⟨g,i * 12+6,none⟩=some (.int .i64 y2):=cq (cell_later hB (hc.o 6 _ (by omega) rfl))
 have d7 : ∀ dk osk,(grow (redrawn W dk) osk).cell? ⟨g,i * 12+7,none⟩=some (.int .i64 y3):=cq (cell_later hB (hc.o 7 _ (by omega) rfl))
 have d8 : ∀ dk osk,(grow (redrawn W dk) osk).cell? ⟨g,i * 12+8,none⟩=some (.int .i64 y4):=cq (cell_later hB (hc.o 8 _ (by omega) rfl))
 have d9 : ∀ dk osk,(grow (redrawn W dk) osk).cell? ⟨g,i * 12+9,none⟩=some (.int .i64 y5):=cq (cell_later hB (hc.o 9 _ (by omega) rfl))
 have G2 : ∀ dk osk,(grow (redrawn W dk) osk).cell? ⟨g,i * 12+10,none⟩=some (.int .i64 y6):=cq (cell_later hB (hc.o 10 _ (by omega) rfl))
 have G3 : ∀ dk osk,(grow (redrawn W dk) osk).cell? ⟨g,i * 12+11,none⟩=some (.int .i64 y7):=cq (cell_later hB (hc.o 11 _ (by omega) rfl))
 obtain ⟨ca0,ca1,ca2,ca3,ca4,ca5,ca6,ca7⟩:=ka.r8;obtain ⟨Ft,Fu,cs2⟩:=ks.r3;refine zAI 8 1 (fun j=>[8].getD j 0) (fun j=>[16].getD j 0) (fun j=>[145].getD j 0) (fun _=>#[.int .i64 0,.int .i64 0,.string ByteArray.empty,.int .i64 0,.int .i64 0,.int .i64 0,.int .i64 0,.int .i64 0,.int .i64 0,.int .i64 0,.int .i64 0,.int .i64 0]) (fun j=>[#[.int .i64 1,.int .i64 c,.string s,.int .i64 d,.int .i64 y0,.int .i64 y1,.int .i64 y2,.int .i64 y3,.int .i64 y4,.int .i64 y5,.int .i64 y6,.int .i64 y7]].getD j #[]) (by kernel_rfl) (by kernel_rfl) ⟨fun j hj=>?_,fun j hj=>?_⟩ 50 (by kernel_rfl) (by rfl) ?_
 · match j,hj with
   | 0,_=>exact ⟨_,rfl,rfl,rfl,zBC _ rfl⟩
   | j+1,hj=>omega
 · match j,hj with
   | 0,_=>exact ⟨_,rfl,rfl,rfl,fun ρ w g h1 h2 hb=>zMv _ 8 16 rfl _ _ _ _ _ _ _ _ _ _ _ _ _ _ _ _ _ _ _ _ _ _ _ _ ρ w g h1 h2 hb⟩
   | j+1,hj=>omega
 simp only [List.take_succ_cons,List.take_zero]
 repeat (refine zOT (fun K hK=>?_);go_simp;first | (refine hK _ ?_;clear hK K) | (apply Exists.intro;refine ⟨fun _=>?_,hK _ ?_⟩;(first | fail);clear hK K))
 refine zOS ⟨fun j hj=>match j,hj with | 0,_=>rfl | j+1,hj=>absurd hj (by omega),fun g W1 hb hg Ph=>?_⟩
 obtain ⟨hf,kf⟩:=hg 0 (by omega)
 clear hg Ph;clear ca0 ca1 ca2 ca3 ca4 ca5 ca6 ca7;clear Ft Fu cs2;replace hB:=tr hB hb;replace ka:=ka.la hb;replace ks:=ks.la hb;replace JE:=nlt JE hb.size;clear hb;simp only [zKg,List.range_succ,List.range_zero,List.nil_append,List.map_cons,List.map_nil,List.foldl_cons,List.foldl_nil,List.getD_cons_zero];generalize g 0=gf at *;replace kf:Bk W1 gf #[(1:Int),c,.string s,d,y0,y1,y2,y3,y4,y5,y6,y7] 145:=kf;clear d0 d1 d2 d3 d4 d5 d6 d7 d8 d9 G2 G3;obtain ⟨ca0,ca1,ca2,ca3,ca4,ca5,ca6,ca7⟩:=ka.c8;obtain ⟨cf0,cf1,cf2,cf3,cf4,cf5,cf6,cf7,cf8,cf9,cf10,cf11⟩:=kf.c12;clear kf ka ks;go_wp2_with fail
 go_ret2
 exact ⟨rfl,hB⟩
theorem Grew.since {w W w':World} {Far:Nat→Prop} {sb:Nat} {UA:Int} {ts ts':List Tr} {t:Tr} {e:Ending} (h:Grew Far sb UA ts ts' t W e w') (hb:Below w.heap.size w W):Grew Far sb UA ts ts' t w e w' :=
 ⟨(Keeps.below hb).trans h.keeps,nlt hb.size h.size,h.way⟩
theorem zGk (w:World) (Far:Nat→Prop) (ts ts':List Tr) (t:Tr) (sb g n cap mb i:Nat) (UA c d dd x1 x2 x3 x4 x5 x6 x7 y0 y1 y2 y3 y4 y5 y6 y7:Int) (s:ByteArray) (hi:i<n) (_hn:n≤1000000000000) (Ph : ¬ [(i:Int),x1,x2,x3,x4,x5,x6,x7]=[(i:Int),(i:Int),(i:Int),(i:Int),(i:Int),(i:Int),(i:Int),(i:Int)])
 (ks:Bk w sb #[UA,.slice (some ⟨g,0,none⟩) n cap,.map (some mb)] 113) (hc:Bx (∀ j u,j<12→(#[(1:Int),c,.string s,d,y0,y1,y2,y3,y4,y5,y6,y7]:Array Value).toList[j]? = some u→w.cell? ⟨g,i * 12+j,none⟩=some u))
 (PU:Bx (∀ W,Below w.heap.size w W→Calls Tryz.prog 109 #[.pointer (some ⟨sb,0,none⟩),.agg #[(3:Int),(0:Int),.string ByteArray.empty,dd,(i:Int),x1,x2,x3,x4,x5,x6,x7]] W (Grew Far sb UA ts ts' t W))) :
 Calls Tryz.prog 96 #[.pointer (some ⟨sb,0,none⟩),dd,.agg #[(i:Int),x1,x2,x3,x4,x5,x6,x7]] w (Grew Far sb UA ts ts' t w):=by
 have Mc:=fun W=>zEt (i:Int) x1 x2 x3 x4 x5 x6 x7 (i:Int) (i:Int) (i:Int) (i:Int) (i:Int) (i:Int) (i:Int) (i:Int) W;rw [show decide ([(i:Int),x1,x2,x3,x4,x5,x6,x7]=[(i:Int),(i:Int),(i:Int),(i:Int),(i:Int),(i:Int),(i:Int),(i:Int)])=false from decide_eq_false Ph] at Mc;clear Ph;go_enter Tryz.func96,Tryz.ntmps96;go_wp2_with fail;generalize hW:w.alloc _=W;have JE:=sz1 hW;have hB:=bl1 hW;have ka:Bk W (w.heap.size) #[(i:Int),x1,x2,x3,x4,x5,x6,x7] 108:=bk0 hW;clear hW;replace ks:=ks.la hB;have b1:(0:Int)≤(i:Int):=by omega
 have b2:(i:Int)<(n:Int):=by omega
 have d0 : ∀ dk osk,(grow (redrawn W dk) osk).cell? ⟨g,i * 12,none⟩=some (.int .i64 1):=cq (cell_later hB (hc.o 0 _ (by omega) rfl))
 have d1 : ∀ dk osk,(grow (redrawn W dk) osk).cell? ⟨g,i * 12+1,none⟩=some (.int .i64 c):=cq (cell_later hB (hc.o 1 _ (by omega) rfl))
 have d2 : ∀ dk osk,(grow (redrawn W dk) osk).cell? ⟨g,i * 12+2,none⟩=some (.string s):=cq (cell_later hB (hc.o 2 _ (by omega) rfl))
 have d3 : ∀ dk osk,(grow (redrawn W dk) osk).cell? ⟨g,i * 12+3,none⟩=some (.int .i64 d):=cq (cell_later hB (hc.o 3 _ (by omega) rfl))
 have d4 : ∀ dk osk,(grow (redrawn W dk) osk).cell? ⟨g,i * 12+4,none⟩=some (.int .i64 y0):=cq (cell_later hB (hc.o 4 _ (by omega) rfl))
 have d5 : ∀ dk osk,(grow (redrawn W dk) osk).cell? ⟨g,i * 12+5,none⟩=some (.int .i64 y1):=cq (cell_later hB (hc.o 5 _ (by omega) rfl))
 have d6 : ∀ dk osk,(grow (redrawn W dk) osk).cell? ⟨g,i * 12+6,none⟩=some (.int .i64 y2):=cq (cell_later hB (hc.o 6 _ (by omega) rfl))
 have d7 : ∀ dk osk,(grow (redrawn W dk) osk).cell? ⟨g,i * 12+7,none⟩=some (.int .i64 y3):=cq (cell_later hB (hc.o 7 _ (by omega) rfl))
 have d8 : ∀ dk osk,(grow (redrawn W dk) osk).cell? ⟨g,i * 12+8,none⟩=some (.int .i64 y4):=cq (cell_later hB (hc.o 8 _ (by omega) rfl))
 have d9 : ∀ dk osk,(grow (redrawn W dk) osk).cell? ⟨g,i * 12+9,none⟩=some (.int .i64 y5):=cq (cell_later hB (hc.o 9 _ (by omega) rfl))
 have G2 : ∀ dk osk,(grow (redrawn W dk) osk).cell? ⟨g,i * 12+10,none⟩=some (.int .i64 y6):=cq (cell_later hB (hc.o 10 _ (by omega) rfl))
 have G3 : ∀ dk osk,(grow (redrawn W dk) osk).cell? ⟨g,i * 12+11,none⟩=some (.int .i64 y7):=cq (cell_later hB (hc.o 11 _ (by omega) rfl))
 obtain ⟨ca0,ca1,ca2,ca3,ca4,ca5,ca6,ca7⟩:=ka.r8;obtain ⟨Ft,Fu,cs2⟩:=ks.r3;refine zAI 8 1 (fun j=>[8].getD j 0) (fun j=>[16].getD j 0) (fun j=>[145].getD j 0) (fun _=>#[.int .i64 0,.int .i64 0,.string ByteArray.empty,.int .i64 0,.int .i64 0,.int .i64 0,.int .i64 0,.int .i64 0,.int .i64 0,.int .i64 0,.int .i64 0,.int .i64 0]) (fun j=>[#[.int .i64 1,.int .i64 c,.string s,.int .i64 d,.int .i64 y0,.int .i64 y1,.int .i64 y2,.int .i64 y3,.int .i64 y4,.int .i64 y5,.int .i64 y6,.int .i64 y7]].getD j #[]) (by kernel_rfl) (by kernel_rfl) ⟨fun j hj=>?_,fun j hj=>?_⟩ 50 (by kernel_rfl) (by rfl) ?_
 · match j,hj with
   | 0,_=>exact ⟨_,rfl,rfl,rfl,zBC _ rfl⟩
   | j+1,hj=>omega
 · match j,hj with
   | 0,_=>exact ⟨_,rfl,rfl,rfl,fun ρ w g h1 h2 hb=>zMv _ 8 16 rfl _ _ _ _ _ _ _ _ _ _ _ _ _ _ _ _ _ _ _ _ _ _ _ _ ρ w g h1 h2 hb⟩
   | j+1,hj=>omega
 simp only [List.take_succ_cons,List.take_zero]
 repeat (refine zOT (fun K hK=>?_);go_simp;first | (refine hK _ ?_;clear hK K) | (apply Exists.intro;refine ⟨fun _=>?_,hK _ ?_⟩;(first | fail);clear hK K))
 refine zOS ⟨fun j hj=>match j,hj with | 0,_=>rfl | j+1,hj=>absurd hj (by omega),fun g W1 hb hg Ph=>?_⟩
 obtain ⟨hf,kf⟩:=hg 0 (by omega)
 clear hg Ph;clear ca0 ca1 ca2 ca3 ca4 ca5 ca6 ca7;clear Ft Fu cs2;replace hB:=tr hB hb;replace ka:=ka.la hb;replace ks:=ks.la hb;replace JE:=nlt JE hb.size;clear hb;simp only [zKg,List.range_succ,List.range_zero,List.nil_append,List.map_cons,List.map_nil,List.foldl_cons,List.foldl_nil,List.getD_cons_zero];generalize g 0=gf at *;replace kf:Bk W1 gf #[(1:Int),c,.string s,d,y0,y1,y2,y3,y4,y5,y6,y7] 145:=kf;clear d0 d1 d2 d3 d4 d5 d6 d7 d8 d9 G2 G3;obtain ⟨ca0,ca1,ca2,ca3,ca4,ca5,ca6,ca7⟩:=ka.c8;obtain ⟨cf0,cf1,cf2,cf3,cf4,cf5,cf6,cf7,cf8,cf9,cf10,cf11⟩:=kf.c12;clear kf ka ks;go_wp2_with fail;refine (PU.o _ hB).mono ?_;rintro e w2 hg;have Hg:=Bx.mk (hg.since hB);obtain ⟨-,-,(⟨hf,rfl,hs⟩ | ⟨hf,rfl,us,hs⟩)⟩:=hg
 all_goals
  clear hf hs;go_wp2_with fail
  go_ret2
  exact Hg.o
theorem zGl (w:World) (Far:Nat→Prop) (ts ts':List Tr) (t:Tr) (sb g n cap mb i:Nat) (UA c d dd x1 x2 x3 x4 x5 x6 x7 y0 y1 y2 y3 y4 y5 y6 y7:Int) (s:ByteArray) (hi:i<n) (_hn:n≤1000000000000)
 (ks:Bk w sb #[UA,.slice (some ⟨g,0,none⟩) n cap,.map (some mb)] 113) (hc:Bx (∀ j u,j<12→(#[(2:Int),c,.string s,d,y0,y1,y2,y3,y4,y5,y6,y7]:Array Value).toList[j]? = some u→w.cell? ⟨g,i * 12+j,none⟩=some u))
 (PU:Bx (∀ W,Below w.heap.size w W→Calls Tryz.prog 109 #[.pointer (some ⟨sb,0,none⟩),.agg #[(3:Int),(0:Int),.string ByteArray.empty,dd,(i:Int),x1,x2,x3,x4,x5,x6,x7]] W (Grew Far sb UA ts ts' t W))) :
 Calls Tryz.prog 96 #[.pointer (some ⟨sb,0,none⟩),dd,.agg #[(i:Int),x1,x2,x3,x4,x5,x6,x7]] w (Grew Far sb UA ts ts' t w):=by
 go_enter Tryz.func96,Tryz.ntmps96;go_wp2_with fail;generalize hW:w.alloc _=W;have JE:=sz1 hW;have hB:=bl1 hW;have ka:Bk W (w.heap.size) #[(i:Int),x1,x2,x3,x4,x5,x6,x7] 108:=bk0 hW;clear hW;replace ks:=ks.la hB;have b1:(0:Int)≤(i:Int):=by omega
 have b2:(i:Int)<(n:Int):=by omega
 have d0 : ∀ dk osk,(grow (redrawn W dk) osk).cell? ⟨g,i * 12,none⟩=some (.int .i64 2):=cq (cell_later hB (hc.o 0 _ (by omega) rfl))
 have d1 : ∀ dk osk,(grow (redrawn W dk) osk).cell? ⟨g,i * 12+1,none⟩=some (.int .i64 c):=cq (cell_later hB (hc.o 1 _ (by omega) rfl))
 have d2 : ∀ dk osk,(grow (redrawn W dk) osk).cell? ⟨g,i * 12+2,none⟩=some (.string s):=cq (cell_later hB (hc.o 2 _ (by omega) rfl))
 have d3 : ∀ dk osk,(grow (redrawn W dk) osk).cell? ⟨g,i * 12+3,none⟩=some (.int .i64 d):=cq (cell_later hB (hc.o 3 _ (by omega) rfl))
 have d4 : ∀ dk osk,(grow (redrawn W dk) osk).cell? ⟨g,i * 12+4,none⟩=some (.int .i64 y0):=cq (cell_later hB (hc.o 4 _ (by omega) rfl))
 have d5 : ∀ dk osk,(grow (redrawn W dk) osk).cell? ⟨g,i * 12+5,none⟩=some (.int .i64 y1):=cq (cell_later hB (hc.o 5 _ (by omega) rfl))
 have d6 : ∀ dk osk,(grow (redrawn W dk) osk).cell? ⟨g,i * 12+6,none⟩=some (.int .i64 y2):=cq (cell_later hB (hc.o 6 _ (by omega) rfl))
 have d7 : ∀ dk osk,(grow (redrawn W dk) osk).cell? ⟨g,i * 12+7,none⟩=some (.int .i64 y3):=cq (cell_later hB (hc.o 7 _ (by omega) rfl))
 have d8 : ∀ dk osk,(grow (redrawn W dk) osk).cell? ⟨g,i * 12+8,none⟩=some (.int .i64 y4):=cq (cell_later hB (hc.o 8 _ (by omega) rfl))
 have d9 : ∀ dk osk,(grow (redrawn W dk) osk).cell? ⟨g,i * 12+9,none⟩=some (.int .i64 y5):=cq (cell_later hB (hc.o 9 _ (by omega) rfl))
 have G2 : ∀ dk osk,(grow (redrawn W dk) osk).cell? ⟨g,i * 12+10,none⟩=some (.int .i64 y6):=cq (cell_later hB (hc.o 10 _ (by omega) rfl))
 have G3 : ∀ dk osk,(grow (redrawn W dk) osk).cell? ⟨g,i * 12+11,none⟩=some (.int .i64 y7):=cq (cell_later hB (hc.o 11 _ (by omega) rfl))
 obtain ⟨ca0,ca1,ca2,ca3,ca4,ca5,ca6,ca7⟩:=ka.r8;obtain ⟨Ft,Fu,cs2⟩:=ks.r3;refine zAI 8 1 (fun j=>[8].getD j 0) (fun j=>[16].getD j 0) (fun j=>[145].getD j 0) (fun _=>#[.int .i64 0,.int .i64 0,.string ByteArray.empty,.int .i64 0,.int .i64 0,.int .i64 0,.int .i64 0,.int .i64 0,.int .i64 0,.int .i64 0,.int .i64 0,.int .i64 0]) (fun j=>[#[.int .i64 2,.int .i64 c,.string s,.int .i64 d,.int .i64 y0,.int .i64 y1,.int .i64 y2,.int .i64 y3,.int .i64 y4,.int .i64 y5,.int .i64 y6,.int .i64 y7]].getD j #[]) (by kernel_rfl) (by kernel_rfl) ⟨fun j hj=>?_,fun j hj=>?_⟩ 50 (by kernel_rfl) (by rfl) ?_
 · match j,hj with
   | 0,_=>exact ⟨_,rfl,rfl,rfl,zBC _ rfl⟩
   | j+1,hj=>omega
 · match j,hj with
   | 0,_=>exact ⟨_,rfl,rfl,rfl,fun ρ w g h1 h2 hb=>zMv _ 8 16 rfl _ _ _ _ _ _ _ _ _ _ _ _ _ _ _ _ _ _ _ _ _ _ _ _ ρ w g h1 h2 hb⟩
   | j+1,hj=>omega
 simp only [List.take_succ_cons,List.take_zero]
 repeat (refine zOT (fun K hK=>?_);go_simp;first | (refine hK _ ?_;clear hK K) | (apply Exists.intro;refine ⟨fun _=>?_,hK _ ?_⟩;(first | fail);clear hK K))
 refine zOS ⟨fun j hj=>match j,hj with | 0,_=>rfl | j+1,hj=>absurd hj (by omega),fun g W1 hb hg Ph=>?_⟩
 obtain ⟨hf,kf⟩:=hg 0 (by omega)
 clear hg Ph;clear ca0 ca1 ca2 ca3 ca4 ca5 ca6 ca7;clear Ft Fu cs2;replace hB:=tr hB hb;replace ka:=ka.la hb;replace ks:=ks.la hb;replace JE:=nlt JE hb.size;clear hb;simp only [zKg,List.range_succ,List.range_zero,List.nil_append,List.map_cons,List.map_nil,List.foldl_cons,List.foldl_nil,List.getD_cons_zero];generalize g 0=gf at *;replace kf:Bk W1 gf #[(2:Int),c,.string s,d,y0,y1,y2,y3,y4,y5,y6,y7] 145:=kf;clear d0 d1 d2 d3 d4 d5 d6 d7 d8 d9 G2 G3;obtain ⟨ca0,ca1,ca2,ca3,ca4,ca5,ca6,ca7⟩:=ka.c8;obtain ⟨cf0,cf1,cf2,cf3,cf4,cf5,cf6,cf7,cf8,cf9,cf10,cf11⟩:=kf.c12;clear kf ka ks;go_wp2_with fail;refine (PU.o _ hB).mono ?_;rintro e w2 hg;have Hg:=Bx.mk (hg.since hB);obtain ⟨-,-,(⟨hf,rfl,hs⟩ | ⟨hf,rfl,us,hs⟩)⟩:=hg
 all_goals
  clear hf hs;go_wp2_with fail
  go_ret2
  exact Hg.o
theorem zGm (w:World) (Far:Nat→Prop) (ts ts':List Tr) (t:Tr) (sb g n cap mb i:Nat) (UA c d dd x1 x2 x3 x4 x5 x6 x7 y0 y1 y2 y3 y4 y5 y6 y7:Int) (s:ByteArray) (hi:i<n) (_hn:n≤1000000000000)
 (ks:Bk w sb #[UA,.slice (some ⟨g,0,none⟩) n cap,.map (some mb)] 113) (hc:Bx (∀ j u,j<12→(#[(3:Int),c,.string s,d,y0,y1,y2,y3,y4,y5,y6,y7]:Array Value).toList[j]? = some u→w.cell? ⟨g,i * 12+j,none⟩=some u))
 (PU:Bx (∀ W,Below w.heap.size w W→Calls Tryz.prog 109 #[.pointer (some ⟨sb,0,none⟩),.agg #[(3:Int),(0:Int),.string ByteArray.empty,dd,(i:Int),x1,x2,x3,x4,x5,x6,x7]] W (Grew Far sb UA ts ts' t W))) :
 Calls Tryz.prog 96 #[.pointer (some ⟨sb,0,none⟩),dd,.agg #[(i:Int),x1,x2,x3,x4,x5,x6,x7]] w (Grew Far sb UA ts ts' t w):=by
 go_enter Tryz.func96,Tryz.ntmps96;go_wp2_with fail;generalize hW:w.alloc _=W;have JE:=sz1 hW;have hB:=bl1 hW;have ka:Bk W (w.heap.size) #[(i:Int),x1,x2,x3,x4,x5,x6,x7] 108:=bk0 hW;clear hW;replace ks:=ks.la hB;have b1:(0:Int)≤(i:Int):=by omega
 have b2:(i:Int)<(n:Int):=by omega
 have d0 : ∀ dk osk,(grow (redrawn W dk) osk).cell? ⟨g,i * 12,none⟩=some (.int .i64 3):=cq (cell_later hB (hc.o 0 _ (by omega) rfl))
 have d1 : ∀ dk osk,(grow (redrawn W dk) osk).cell? ⟨g,i * 12+1,none⟩=some (.int .i64 c):=cq (cell_later hB (hc.o 1 _ (by omega) rfl))
 have d2 : ∀ dk osk,(grow (redrawn W dk) osk).cell? ⟨g,i * 12+2,none⟩=some (.string s):=cq (cell_later hB (hc.o 2 _ (by omega) rfl))
 have d3 : ∀ dk osk,(grow (redrawn W dk) osk).cell? ⟨g,i * 12+3,none⟩=some (.int .i64 d):=cq (cell_later hB (hc.o 3 _ (by omega) rfl))
 have d4 : ∀ dk osk,(grow (redrawn W dk) osk).cell? ⟨g,i * 12+4,none⟩=some (.int .i64 y0):=cq (cell_later hB (hc.o 4 _ (by omega) rfl))
 have d5 : ∀ dk osk,(grow (redrawn W dk) osk).cell? ⟨g,i * 12+5,none⟩=some (.int .i64 y1):=cq (cell_later hB (hc.o 5 _ (by omega) rfl))
 have d6 : ∀ dk osk,(grow (redrawn W dk) osk).cell? ⟨g,i * 12+6,none⟩=some (.int .i64 y2):=cq (cell_later hB (hc.o 6 _ (by omega) rfl))
 have d7 : ∀ dk osk,(grow (redrawn W dk) osk).cell? ⟨g,i * 12+7,none⟩=some (.int .i64 y3):=cq (cell_later hB (hc.o 7 _ (by omega) rfl))
 have d8 : ∀ dk osk,(grow (redrawn W dk) osk).cell? ⟨g,i * 12+8,none⟩=some (.int .i64 y4):=cq (cell_later hB (hc.o 8 _ (by omega) rfl))
 have d9 : ∀ dk osk,(grow (redrawn W dk) osk).cell? ⟨g,i * 12+9,none⟩=some (.int .i64 y5):=cq (cell_later hB (hc.o 9 _ (by omega) rfl))
 have G2 : ∀ dk osk,(grow (redrawn W dk) osk).cell? ⟨g,i * 12+10,none⟩=some (.int .i64 y6):=cq (cell_later hB (hc.o 10 _ (by omega) rfl))
 have G3 : ∀ dk osk,(grow (redrawn W dk) osk).cell? ⟨g,i * 12+11,none⟩=some (.int .i64 y7):=cq (cell_later hB (hc.o 11 _ (by omega) rfl))
 obtain ⟨ca0,ca1,ca2,ca3,ca4,ca5,ca6,ca7⟩:=ka.r8;obtain ⟨Ft,Fu,cs2⟩:=ks.r3;refine zAI 8 1 (fun j=>[8].getD j 0) (fun j=>[16].getD j 0) (fun j=>[145].getD j 0) (fun _=>#[.int .i64 0,.int .i64 0,.string ByteArray.empty,.int .i64 0,.int .i64 0,.int .i64 0,.int .i64 0,.int .i64 0,.int .i64 0,.int .i64 0,.int .i64 0,.int .i64 0]) (fun j=>[#[.int .i64 3,.int .i64 c,.string s,.int .i64 d,.int .i64 y0,.int .i64 y1,.int .i64 y2,.int .i64 y3,.int .i64 y4,.int .i64 y5,.int .i64 y6,.int .i64 y7]].getD j #[]) (by kernel_rfl) (by kernel_rfl) ⟨fun j hj=>?_,fun j hj=>?_⟩ 50 (by kernel_rfl) (by rfl) ?_
 · match j,hj with
   | 0,_=>exact ⟨_,rfl,rfl,rfl,zBC _ rfl⟩
   | j+1,hj=>omega
 · match j,hj with
   | 0,_=>exact ⟨_,rfl,rfl,rfl,fun ρ w g h1 h2 hb=>zMv _ 8 16 rfl _ _ _ _ _ _ _ _ _ _ _ _ _ _ _ _ _ _ _ _ _ _ _ _ ρ w g h1 h2 hb⟩
   | j+1,hj=>omega
 simp only [List.take_succ_cons,List.take_zero]
 repeat (refine zOT (fun K hK=>?_);go_simp;first | (refine hK _ ?_;clear hK K) | (apply Exists.intro;refine ⟨fun _=>?_,hK _ ?_⟩;(first | fail);clear hK K))
 refine zOS ⟨fun j hj=>match j,hj with | 0,_=>rfl | j+1,hj=>absurd hj (by omega),fun g W1 hb hg Ph=>?_⟩
 obtain ⟨hf,kf⟩:=hg 0 (by omega)
 clear hg Ph;clear ca0 ca1 ca2 ca3 ca4 ca5 ca6 ca7;clear Ft Fu cs2;replace hB:=tr hB hb;replace ka:=ka.la hb;replace ks:=ks.la hb;replace JE:=nlt JE hb.size;clear hb;simp only [zKg,List.range_succ,List.range_zero,List.nil_append,List.map_cons,List.map_nil,List.foldl_cons,List.foldl_nil,List.getD_cons_zero];generalize g 0=gf at *;replace kf:Bk W1 gf #[(3:Int),c,.string s,d,y0,y1,y2,y3,y4,y5,y6,y7] 145:=kf;clear d0 d1 d2 d3 d4 d5 d6 d7 d8 d9 G2 G3;obtain ⟨ca0,ca1,ca2,ca3,ca4,ca5,ca6,ca7⟩:=ka.c8;obtain ⟨cf0,cf1,cf2,cf3,cf4,cf5,cf6,cf7,cf8,cf9,cf10,cf11⟩:=kf.c12;clear kf ka ks;go_wp2_with fail;refine (PU.o _ hB).mono ?_;rintro e w2 hg;have Hg:=Bx.mk (hg.since hB);obtain ⟨-,-,(⟨hf,rfl,hs⟩ | ⟨hf,rfl,us,hs⟩)⟩:=hg
 all_goals
  clear hf hs;go_wp2_with fail
  go_ret2
  exact Hg.o
theorem zAo {ch:Fin 8→Tr} {ts:List Tr} (h : ∀ i,ch i∈ts):Tr.addK ch 8 ts=ts:=Tr.addK_ind (P:=fun a=>a=ts) (fun i a ha=>by subst ha;exact Tr.add_same _ _ (h i)) 8 nlr ts rfl
theorem Good.inner {ts:List Tr} (hG:Good ts) {ch:Fin 8→Tr} (LT : ∀ i,ch i∈ts) {d:Nat} (hd:d≤255):Good (Tr.add (Tr.mkInner d ch) ts):=by
 rw [Tr.inner_add hG.closed,zAo LT];split
 · exact hG
 · exact hG.ins (fun d' ch' h i=>by injection h with h1 h2;subst h2;exact LT i) (Bytes.node hd ch)
theorem zGj (w:World) (Far:Nat→Prop) (sb:Nat) (UA:Int) (ts:List Tr) (d:Nat) (hd:d≤255) (ch:Fin 8→Tr) (LT : ∀ i,ch i∈ts) (hG:Good ts) (Od:ts.length≤1000000000000) (IV : ∀ k,Far k→k<w.heap.size) (hS:StoreIs w Far sb UA ts) :
 Calls Tryz.prog 96 #[.pointer (some ⟨sb,0,none⟩),(d:Int),.agg #[(idT ts (ch 0):Int),(idT ts (ch 1):Int),(idT ts (ch 2):Int),(idT ts (ch 3):Int),(idT ts (ch 4):Int),(idT ts (ch 5):Int),(idT ts (ch 6):Int),(idT ts (ch 7):Int)]] w (Grew Far sb UA ts (Tr.add (Tr.mkInner d ch) ts) (Tr.mkInner d ch) w):=by
 have JZ:=Tr.inner_add (d:=d) (ch:=ch) hG.closed;rw [zAo LT] at JZ;by_cases hc:(∃ c,ch 0 = .uni c) ∧ ∀ i,ch i=ch 0
 · have hm:Tr.mkInner d ch=ch 0:=if_pos hc;rw [if_pos ⟨hm,hc.1⟩,hm] at JZ;rw [hm,JZ];obtain ⟨⟨c,hu⟩,Jd⟩:=hc;obtain ⟨g,cap,mb,h1,hlt,h2⟩:=Bx.node hS (LT 0) (k:=1) (by rw [hu];rfl)
   rw [Jd 1,Jd 2,Jd 3,Jd 4,Jd 5,Jd 6,Jd 7];refine (zGp w sb g ts.length cap mb _ UA _ _ _ _ _ _ _ _ _ _ _ _ hlt Od h1 h2).mono ?_;rintro e w' ⟨rfl,hb⟩;exact ⟨Keeps.below hb,hb.size,.inl ⟨.inl rfl,rfl,hS.la hb⟩⟩
 · have hm:Tr.mkInner d ch = .node d ch:=if_neg hc;rw [if_neg (fun h=>by rw [hm] at h;obtain ⟨h1,c,h2⟩:=h;rw [h2] at h1;cases h1),hm] at JZ
   rw [hm,JZ]
   have PU:Bx (∀ W,Below w.heap.size w W→Calls Tryz.prog 109 #[.pointer (some ⟨sb,0,none⟩),.agg #[(3:Int),(0:Int),.string ByteArray.empty,(d:Int),(idT ts (ch 0):Int),(idT ts (ch 1):Int),(idT ts (ch 2):Int),(idT ts (ch 3):Int),(idT ts (ch 4):Int),(idT ts (ch 5):Int),(idT ts (ch 6):Int),(idT ts (ch 7):Int)]] W (Grew Far sb UA ts (Tr.ins (.node d ch) ts) (.node d ch) W)):=⟨fun W hb=>by
    refine zIB W Far sb UA ts (.node d ch) 3 0 (d:Int) (idT ts (ch 0):Int) (idT ts (ch 1):Int) (idT ts (ch 2):Int) (idT ts (ch 3):Int) (idT ts (ch 4):Int) (idT ts (ch 5):Int) (idT ts (ch 6):Int) (idT ts (ch 7):Int) _ rfl hG (fun d' ch' h i=>by injection h with h1 h2;subst h2;exact LT i) (Bytes.node hd ch) Od (fun k hk=>Nat.lt_of_lt_of_le (IV k hk) hb.size) (zG8 _ _ _ _ _ _ _ _ _ _ _ _ (by simp [maxLen]) ?_) (hS.la hb)
    have hi:=fun i=>zGN (LT i);have i0:=hi 0;have i1:=hi 1;have i2:=hi 2;have i3:=hi 3;have i4:=hi 4;have i5:=hi 5;have i6:=hi 6;have i7:=hi 7;intro y hy;simp only [List.mem_cons,List.not_mem_nil,or_false] at hy;rcases hy with rfl | rfl | rfl | rfl | rfl | rfl | rfl | rfl | rfl | rfl | rfl <;> exact WalkArith.wf_i64 (by omega)⟩
   have Mt:=zIx ts (ch 0);cases hu:ch 0 with
   | uni c =>
     have Ph : ¬ [(idT ts (ch 0):Int),(idT ts (ch 1):Int),(idT ts (ch 2):Int),(idT ts (ch 3):Int),(idT ts (ch 4):Int),(idT ts (ch 5):Int),(idT ts (ch 6):Int),(idT ts (ch 7):Int)]=[(idT ts (ch 0):Int),(idT ts (ch 0):Int),(idT ts (ch 0):Int),(idT ts (ch 0):Int),(idT ts (ch 0):Int),(idT ts (ch 0):Int),(idT ts (ch 0):Int),(idT ts (ch 0):Int)]:=fun h=>by
      simp only [List.cons.injEq,and_true,true_and,Int.natCast_inj] at h;refine hc ⟨⟨c,hu⟩,fin8 (P:=fun i=>ch i=ch 0) rfl ?_ ?_ ?_ ?_ ?_ ?_ ?_⟩
      · exact zY (LT _) (LT _) h.1
      · exact zY (LT _) (LT _) h.2.1
      · exact zY (LT _) (LT _) h.2.2.1
      · exact zY (LT _) (LT _) h.2.2.2.1
      · exact zY (LT _) (LT _) h.2.2.2.2.1
      · exact zY (LT _) (LT _) h.2.2.2.2.2.1
      · exact zY (LT _) (LT _) h.2.2.2.2.2.2
     obtain ⟨c',s,d',y0,y1,y2,y3,y4,y5,y6,y7,hV⟩:=Mt;rw [show zHN (ch 0)=1 by rw [hu];rfl] at hV
     obtain ⟨g,cap,mb,h1,hlt,hc⟩:=Bx.node hS (LT 0) hV;rw [←hu];exact zGk w Far ts _ _ sb g ts.length cap mb (idT ts (ch 0)) UA _ _ (d:Int) (idT ts (ch 1)) (idT ts (ch 2)) (idT ts (ch 3)) (idT ts (ch 4)) (idT ts (ch 5)) (idT ts (ch 6)) (idT ts (ch 7)) _ _ _ _ _ _ _ _ _ hlt Od Ph h1 hc PU
   | brick l =>
     obtain ⟨c',s,d',y0,y1,y2,y3,y4,y5,y6,y7,hV⟩:=Mt;rw [show zHN (ch 0)=2 by rw [hu];rfl] at hV
     obtain ⟨g,cap,mb,h1,hlt,hc⟩:=Bx.node hS (LT 0) hV;rw [←hu];exact zGl w Far ts _ _ sb g ts.length cap mb (idT ts (ch 0)) UA _ _ (d:Int) (idT ts (ch 1)) (idT ts (ch 2)) (idT ts (ch 3)) (idT ts (ch 4)) (idT ts (ch 5)) (idT ts (ch 6)) (idT ts (ch 7)) _ _ _ _ _ _ _ _ _ hlt Od h1 hc PU
   | node d2 FE =>
     obtain ⟨c',s,d',y0,y1,y2,y3,y4,y5,y6,y7,hV⟩:=Mt;rw [show zHN (ch 0)=3 by rw [hu];rfl] at hV
     obtain ⟨g,cap,mb,h1,hlt,hc⟩:=Bx.node hS (LT 0) hV;rw [←hu];exact zGm w Far ts _ _ sb g ts.length cap mb (idT ts (ch 0)) UA _ _ (d:Int) (idT ts (ch 1)) (idT ts (ch 2)) (idT ts (ch 3)) (idT ts (ch 4)) (idT ts (ch 5)) (idT ts (ch 6)) (idT ts (ch 7)) _ _ _ _ _ _ _ _ _ hlt Od h1 hc PU
end
section
open Go.Sort Go.RowKit
def zNH (md:Region.Mode) (l:List Oper) (n:Nat):Bool :=
 ((List.range n).all fun k=>Region.waitsFor md l.toArray n k || (List.range n).any fun m=>decide (k<m) && Region.waitsFor md l.toArray m k) && (List.range l.length).all fun t=>decide (t≤n) || Region.waitsFor md l.toArray t (t - 1)
def zGI (l:List Oper) (n:Nat):Bool :=
 decide (n<l.length) && zBa .any l n && zNH .any l n && Region.lexB .any (l.take n).toArray && Region.seqB .any l.toArray (l.length - n) n (Array.replicate n true++Array.replicate (l.length - n) false)
section
variable {P:Program} {md:Region.Mode} {l:List Oper} {n:Nat} {C:World→Prop}
def zAf (md:Region.Mode) (l:List Oper) (s:Array Bool):Prop := ∀ m k,s.getD m false=true→Region.waitsFor md l.toArray m k=true→s.getD k false=true
theorem zI4 {s:Array Bool} (hs:s.size=n) {g:Nat} (Rj:zAf md l s) (ht:zNH md l n=true) (h:n∈Region.ready md l.toArray (s++Array.replicate g false)) : ∀ (d k:Nat),n - k≤d→k<n→s.getD k false=false→False
 | 0,k,h1,h2,_=>by omega
 | d + 1, k, hd, hk, SO => by
   obtain ⟨h1,o,ho,h2⟩:=mem_ready.1 h;have SE:=ht;simp only [zNH,Bool.and_eq_true] at SE;have h3:=List.all_eq_true.1 SE.1 k (List.mem_range.2 hk);simp only [Bool.or_eq_true] at h3;rcases h3 with h3 | h3
   · obtain ⟨o',Q4,e,he,KU,QK⟩:=Region.waitsFor_spec h3;obtain rfl:o'=o:=osi (Q4.symm.trans ho);have:=h2 e he KU;rw [QK,zBQ hs hk,SO] at this;cases this
   · obtain ⟨m,hm,h4⟩:=List.any_eq_true.1 h3;simp only [Bool.and_eq_true,decide_eq_true_eq] at h4;have PX:=List.mem_range.1 hm;refine zI4 hs Rj ht h d m (by omega) PX ?_
     cases hx:s.getD m false with
     | false=>rfl
     | true=>have:=Rj m k hx h4.2;rw [SO] at this;cases this
theorem zKo {s:Array Bool} (hs:s.size=n) (Rj:zAf md l s) {g i k:Nat} (hk:k<n) (SO:s.getD k false=false) (ht:zNH md l n=true) (h:i∈Region.ready md l.toArray (s++Array.replicate g false)):i<n:=by
 obtain ⟨h1,o,ho,h2⟩:=mem_ready.1 h;rcases Nat.lt_or_ge i n with hlt | hge
 · exact hlt
 · exfalso;have Nr:i<l.length:=by have:=(Array.getElem?_eq_some_iff.1 ho).1;simpa using this
   by_cases hin:i=n
   · subst hin;exact zI4 hs Rj ht h (i - k) k nlr hk SO
   · have SE:=ht;simp only [zNH,Bool.and_eq_true] at SE;have h3:=List.all_eq_true.1 SE.2 i (List.mem_range.2 Nr);simp only [Bool.or_eq_true,decide_eq_true_eq] at h3;rcases h3 with h3 | h3
     · omega
     · obtain ⟨o',Q4,e,he,KU,QK⟩:=Region.waitsFor_spec h3;obtain rfl:o'=o:=osi (Q4.symm.trans ho);have:=h2 e he KU;rw [QK,zBS hs (by omega)] at this
       cases this
theorem zMI {s:Array Bool} {i:Nat} (Rj:zAf md l s) (hi:i∈Region.ready md (l.take n).toArray s) (hin:i<n):zAf md l (s.setIfInBounds i true):=by
 intro m k hm hw
 have keep : ∀ j,s.getD j false=true→(s.setIfInBounds i true).getD j false=true:=by
  intro j hj;simp only [Array.getD_eq_getD_getElem?,Array.getElem?_setIfInBounds] at hj ⊢;split
  · split
    · rfl
    · rename_i h;rw [Array.getElem?_eq_none (by omega)] at hj;exact hj
  · exact hj
 by_cases e:i=m
 · subst e;obtain ⟨_,o,ho,h2⟩:=mem_ready.1 hi;obtain ⟨o',Q4,e,he,KU,QK⟩:=Region.waitsFor_spec hw;rw [zNI hin] at ho;obtain rfl:o'=o:=osi (Q4.symm.trans ho);exact keep k (QK ▸ h2 e he KU)
 · refine keep k (Rj m k ?_ hw);simpa [Array.getD_eq_getD_getElem?,Array.getElem?_setIfInBounds,e] using hm
theorem zOQ {Qa:Act→Prop} {Q:Exit→Act→World→Prop} {g:Nat} (hn:n≤l.length) (hb:zBa md l n=true) (ht:zNH md l n=true)
 (MY : ∀ a w,C w→Qa a→wpAny P md l.toArray Q g (Array.replicate n true++Array.replicate g false) a w) :
 ∀ (f : Nat) (s : Array Bool) (a : Act) (w : World), s.size = n → zAf md l s → unl s = f → C w → wpAnyQ P md (l.take n).toArray C Qa f s a →
   wpAny P md l.toArray Q (f+g) (s++Array.replicate g false) a w
 | 0, s, a, w, hs, _, hu, hw, h => by
   rw [Nat.zero_add,zN0 hu,hs];exact MY a w hw h.2
 | f + 1, s, a, w, hs, Rj, hu, hw, h => by
   obtain ⟨k,hk,SO⟩:=zNy (s:=s) (by omega)
   rw [show f+1+g=(f+g)+1 by omega]
   refine ⟨fun h0=>?_,fun i hi=>?_⟩
   · obtain ⟨i,hi⟩:=zKp (g:=g) hs hn hb (k+1) k (by omega) (by omega) SO
     rw [h0] at hi;cases hi
   · have hin:=zKo hs Rj (by omega:k<n) SO ht hi
     have hr:=zKm hs hin hb hi;have hq:=h.2 i hr;obtain ⟨Ny,o,ho,_⟩:=mem_ready.1 hr;have Q4:l.toArray[i]? = some o:=by rw [←zNI hin];exact ho
     have step : ∀ a' w',C w'→wpAnyQ P md (l.take n).toArray C Qa f (s.setIfInBounds i true) a'→wpAny P md l.toArray Q (f+g) ((s++Array.replicate g false).setIfInBounds i true) a' w':=by
      intro a' w' Sp h';rw [zBR (by omega)]
      refine zOQ hn hb ht MY f _ a' w' (by simpa using hs) (zMI Rj hr hin) ?_ Sp h'
      have:=zNz (s:=s) (by omega) Ny
      omega
     have Qx:qOp P l.toArray C i (wpAnyQ P md (l.take n).toArray C Qa f (s.setIfInBounds i true)) a:=by
      unfold qOp at hq ⊢;simp only [ho] at hq;simp only [Q4];rwa [zOC hb hin Q4] at hq
     exact wpOp_of_qOp hw step Qx
theorem zOg {id:Nat} {Q:Exit→Act→World→Prop} {a:Act} {w:World} (n:Nat) (hm:P.follows .mixedOrders=true) (hB:zGI l n=true) (hC:C { w with drawn:=w.drawn+1 })
 (h:wpQuiet P (l.take n).toArray C (fun a' => ∀ w',C w'→wpList P l.toArray Q (l.drop n) a' w') (l.take n) a):(Code.region id l.toArray true).wp P Q a w:=by
 simp only [zGI,Bool.and_eq_true,decide_eq_true_eq] at hB;obtain ⟨⟨⟨⟨hn,hb⟩,ht⟩,On⟩,Rh⟩:=hB;simp only [Region.lexB,Bool.and_eq_true] at On;refine wp_region_any hm ?_;have S9:(l.take n).toArray.size=n:=by simp;omega
 have hq:=wpAnyQ_lex (P:=P) (C:=C) (md:=.any) On.1 (l.take n) 0 (Array.replicate n false) a (by simp) (by have:=On.2;rw [S9] at this;simpa [show (l.take n).length=n by simp;omega] using this) h
 rw [show (l.take n).length=n by simp;omega] at hq
 have:=zOQ (g:=l.length - n) (Q:=Q) (md:=.any) (by omega) hb ht (fun a w hw hQa=>by
  have:=wpAny_of_seq (P:=P) (md:=.any) (ops:=l.toArray) (Q':=Q) (l.drop n) n (Array.replicate n true++Array.replicate (l.length - n) false) a w (fun j=>by simp [List.getElem?_drop]) (by simpa using Rh) (hQa w hw)
  simpa using this) n (Array.replicate n false) a _ (by simp) (fun m k h=>by
   simp only [Array.getD_eq_getD_getElem?,Array.getElem?_replicate] at h;split at h <;> simp at h) (by simp [unl]) hC hq
 have e:Array.replicate n false++Array.replicate (l.length - n) false=Array.replicate l.toArray.size false:=by
  rw [Array.replicate_append_replicate];congr 1;simp;omega
 rw [e,show n+(l.length - n)=l.toArray.size by simp;omega] at this
 exact this
theorem zAJ {id:Nat} {Q:Exit→Act→World→Prop} {a:Act} {w:World} (n:Nat) (hm:P.follows .mixedOrders=true) (hB:zGI l n=true)
 (h:wpQuiet P (l.take n).toArray (fun w' => ∃ p:Regrown,w'=grow (redrawn w p.d) p.os) (fun a' => ∀ w',(∃ p:Regrown,w'=grow (redrawn w p.d) p.os)→wpList P l.toArray Q (l.drop n) a' w') (l.take n) a) :
 (Code.region id l.toArray true).wp P Q a w :=
 zOg (C:=fun w' => ∃ p:Regrown,w'=grow (redrawn w p.d) p.os) n hm hB ⟨⟨w.drawn+1,#[]⟩,by rw [grow_empty];rfl⟩ h
end
end
section
open Go.RowKit Go.Sort Go.Maps
open Oct
theorem zIz {ts:List Tr} {t:Tr} (Od:ts.length≤1000000000000) (OY:Leans ts t) (hw:Bytes t) : ∃ kl,keyOf Tryz.prog 145 (zo ts t)=some kl:=by
 cases t with
 | uni c=>exact zG8 _ _ _ _ _ _ _ _ _ _ _ _ (by simp [maxLen]) (by intro y hy;have:=hw.unis c rfl;simp only [List.mem_cons,List.not_mem_nil,or_false] at hy;exact WalkArith.wf_i64 (by omega))
 | brick l=>exact zG8 _ _ _ _ _ _ _ _ _ _ _ _ (by rw [strOfNums_size,(hw.bricks l rfl).1];simp [maxLen]) (by intro y hy;simp only [List.mem_cons,List.not_mem_nil,or_false] at hy;exact WalkArith.wf_i64 (by omega))
 | node d ch =>
   have hi:=fun i=>zGN (OY d ch rfl i);have i0:=hi 0;have i1:=hi 1;have i2:=hi 2;have i3:=hi 3;have i4:=hi 4;have i5:=hi 5;have i6:=hi 6;have i7:=hi 7;have hd:=hw.nodes d ch rfl;refine zG8 _ _ _ _ _ _ _ _ _ _ _ _ (by simp [maxLen]) ?_
   intro y hy;simp only [List.mem_cons,List.not_mem_nil,or_false] at hy;rcases hy with rfl | rfl | rfl | rfl | rfl | rfl | rfl | rfl | rfl | rfl | rfl <;> exact WalkArith.wf_i64 (by omega)
theorem zOb {P:Program} {w w':World} {ops:Array Oper} {rest:List Oper} {o:Oper} {a:Act} {Q:Exit→Act→World→Prop} (NF:o.guard=none) (x y:Operand) (tm tk:TypeId)
 (ho:o.op = .call { callee:=.builtin .delete,args:=#[x,y],argTypes:=#[tm,tk] }) (m key u:Value) (hx:a.eval x=m) (hy:a.eval y=key)
 (RP:(Builtin.delete_ #[tm,tk] o.type #[m,key]).run P w = .ok u w') (h:wpList P ops Q rest (a.put o.dst u) w'):wpList P ops Q (o::rest) a w:=by
 refine wpList_plain NF fun K hK=>?_;unfold Oper.wp execOp;simp only [ho,resolve,invoke,builtin,Sem.run_bind,Sem.run_pure,Result.andThen_ok,List.map_toArray,List.map_cons,List.map_nil,hx,hy,RP];exact hK _ _ h
theorem zJj {w:World} {B g k cap:Nat} {e:TypeId} {sz:Nat} {xs ys:List Value} (h:w.ownsRow B e sz (.slice (some ⟨g,0,none⟩) (k+1) cap) (k+1) (xs++ys)) (hx:xs.length=k * sz):w.ownsRow B e sz (.slice (some ⟨g,0,none⟩) k cap) k xs:=by
 refine ⟨hx,.inr ?_⟩;rcases h.2 with ⟨h1,_⟩ | ⟨g',Et,cur,h1,h2,h3,h4,h5,h6,h7⟩
 · cases h1
 · injection h1 with e1 e2 e3;injection e1 with e1;injection e1 with e1;subst e1 e3;refine ⟨g,cap,cur,rfl,h2,h3,by omega,h5,h6,?_⟩
   have:=congrArg (List.take (k * sz)) h7;rw [List.take_take,Nat.min_eq_left (Nat.mul_le_mul_right _ (Nat.le_succ k)),←hx,List.take_left] at this;rw [hx] at this;exact this
theorem zLk (ts:List Tr):(zLi ts).length=ts.length * 12:=by
 unfold zLi
 have key : ∀ l:List Tr,(l.flatMap fun t=>(zo ts t).cells.toList).length=l.length * 12:=by
  intro l
  induction l with
  | nil=>rfl
  | cons x r ih=>rw [List.flatMap_cons,List.length_append,ih,zI0,List.length_cons];omega
 exact key ts
theorem zHS {init:List Tr} {t:Tr} (hG:Good (init++[t])):Leans init t∧t ∉ init∧Bytes t:=by
 refine ⟨fun d ch h i=>?_,fun h=>?_,hG.bytes t (by simp)⟩
 · have:=hG.closed.2 d ch (by simp [h]) i
   rcases List.mem_append.1 this with h1 | h1
   · exact h1
   · have h2:=Tr.sz_kid d ch i;rw [List.mem_singleton.1 h1,h] at h2;omega
 · have:=hG.closed.1;rw [List.nodup_append] at this;exact this.2.2 t h t (by simp) rfl
theorem zG2 {init:List Tr} {t:Tr} (hG:Good init) (hl:Leans init t) (hn:t ∉ init) (hb:Bytes t) (v:Value) [Decidable (v=zo (init++[t]) t)]:(if v=zo (init++[t]) t then none else zG0 (init++[t]) v)=zG0 init v:=by
 classical
 have e:=zq (List.prefix_append init [t]) hl;by_cases h:v=zo (init++[t]) t
 · rw [if_pos h,h,e,zG5 hG hn hl hb]
 · rw [if_neg h,zG1 hG hn hl hb,if_neg (e ▸ h)]
structure TrimR (Far:Nat→Prop) (sb:Nat) (UA:Int) (ts us:List Tr) (w:World) (gk:Nat) (vs:List Tr) (wr:World):Prop where
 len:gk=vs.length
 low:ts <+: vs
 up:vs <+: us
 store:StoreIs wr Far sb UA vs
 keeps:Keeps Far w wr
theorem zNj (w:World) (Far:Nat→Prop) (sb:Nat) (UA:Int) (ts us:List Tr) (SJ:ts <+: us) (NQ : ∀ vs,ts <+: vs→vs <+: us→Good vs) (Od:us.length≤1000000000000) (hS:StoreIs w Far sb UA us) :
 Calls Tryz.prog 149 #[.pointer (some ⟨sb,0,none⟩),(ts.length:Int)] w fun e w'=>e = .returned (.tuple #[])∧StoreIs w' Far sb UA ts∧Keeps Far w w':=by
 have HR:TrimR Far sb UA ts us w us.length us w:=⟨rfl,SJ,List.prefix_refl _,hS,Keeps.refl _ _⟩;have NQ:=Bx.mk NQ;have hm0:(0:Int)≤(ts.length:Int):=by omega
 have SJ:=Bx.mk SJ;have hmax:max (0:Int) (ts.length:Int)=(ts.length:Int):=by omega
 clear hS;go_enter Tryz.func149,Tryz.ntmps149;go_wp2_with fail
 go_loopg [4] us.length (fun gk v wr => ∃ vs,TrimR Far sb UA ts us w gk vs wr)
 case atStart=>exact ⟨us,HR⟩
 case round =>
  obtain ⟨vs,hR⟩:=hrel;obtain ⟨NJ,QZ,Qb,hS,hK⟩:=hR;by_cases NU:ts.length<vs.length
  · obtain ⟨init,t,rfl⟩ : ∃ init t,vs=init++[t]:=⟨_,_,(List.dropLast_concat_getLast (by intro h;rw [h] at NU;simp at NU)).symm⟩
    have Qc:ts <+: init:=by
     rw [List.prefix_iff_eq_take] at QZ ⊢;rw [List.take_append_of_le_length (by simp at NU;omega)] at QZ
     exact QZ
    have hG:=NQ.o _ QZ Qb;have IZ:=NQ.o _ Qc ((List.prefix_append _ _).trans Qb);obtain ⟨OY,Pq,Kz⟩:=zHS hG;obtain ⟨mb,nv,ks,RJ,PL,hP⟩:=hS.parts;rw [zLj IZ OY] at RJ;obtain ⟨c,s,d,y0,y1,y2,y3,y4,y5,y6,y7,hV⟩:=zIx init t;rw [←zq (List.prefix_append init [t]) OY] at hV RJ;have Oh:=Qb.length_le;have OM:init.length≤1000000000000:=by simp at Oh;omega
    obtain ⟨kl,ON⟩:=zIz (ts:=init++[t]) (t:=t) (by omega) (OY.la (List.prefix_append _ _)) Kz
    have OO:=zG3 hG (t:=t) (by simp)
    have OE:=fun v=>@zG2 init t IZ OY Pq Kz v (Classical.propDecidable _);have RH:=zLk init;have Ow:(init++[t]).length=init.length+1:=by simp
    rw [hV] at RJ ON OO OE;rw [Ow] at RJ PL NU Oh
    obtain ⟨g,cap,cur,rfl,LF⟩ : ∃ g cap,∃ cur:Bool,nv = .slice (some ⟨g,0,none⟩) (init.length+1) cap∧init.length+1≤cap:=by
     rcases RJ.2 with ⟨_,h0⟩ | ⟨g,cap,cur,h1,_,_,h2,_⟩
     · omega
     · exact ⟨g,cap,true,h1,h2⟩
    have hc : ∀ j u,j<12→(#[(zHN t:Int),c,.string s,d,y0,y1,y2,y3,y4,y5,y6,y7]:Array Value).toList[j]? = some u→wr.cell? ⟨g,init.length * 12+j,none⟩=some u:=fun j u hj hu=>by
     have:=World.ownsRow.cells RJ (g:=g) rfl (init.length * 12+j) u (by rw [List.getElem?_append_right (by omega),RH,Nat.add_sub_cancel_left];exact hu)
     have e:(⟨g,0,none⟩:Addr).add (init.length * 12+j)=⟨g,init.length * 12+j,none⟩:=by unfold Addr.add;split <;> simp_all
     rw [e] at this;exact this
    replace RJ:=Bx.mk (zJj RJ RH);replace PL:=Bx.mk PL;replace ON:=Bx.mk ON;replace OO:=Bx.mk OO;replace OE:=Bx.mk OE;replace hc:=Bx.mk hc;have hp4:=Bx.mk ((List.prefix_append init [t]).trans Qb);replace Qc:=Bx.mk Qc;replace hK:=Bx.mk hK;replace hP:=Bx.mk hP;replace NJ:=Bx.mk NJ;clear Oh hV Ow RH hG IZ OY Pq Kz hS QZ Qb;generalize zHN t=kk at *;generalize hF:zG0 (init++[t])=F at *;generalize IT:zG0 init=F0 at *;replace IT:=Bx.mk IT;generalize hti:(idT (init++[t]) t:Int)=ti at *;generalize R7:zLi init=row0 at *;replace R7:=Bx.mk R7;generalize hk:init.length=k at *;replace hk:=Bx.mk hk;clear hF hti;have LO:=ks.cell 1 rfl;have hB:Below wr.heap.size wr wr:=br;have JE:wr.heap.size≤wr.heap.size:=nlr;have b0:(0:Int)≤(k:Int):=by omega
    have b1:(k:Int)<(k:Int)+1:=by omega
    go_wp2_with fail
    all_goals
     clear LO;have d0 : ∀ dk osk,(grow (redrawn wr dk) osk).cell? ⟨g,k * 12,none⟩=some (.int .i64 kk):=cq (hc.o 0 _ (by omega) rfl)
     have d1 : ∀ dk osk,(grow (redrawn wr dk) osk).cell? ⟨g,k * 12+1,none⟩=some (.int .i64 c):=cq (hc.o 1 _ (by omega) rfl)
     have d2 : ∀ dk osk,(grow (redrawn wr dk) osk).cell? ⟨g,k * 12+2,none⟩=some (.string s):=cq (hc.o 2 _ (by omega) rfl)
     have d3 : ∀ dk osk,(grow (redrawn wr dk) osk).cell? ⟨g,k * 12+3,none⟩=some (.int .i64 d):=cq (hc.o 3 _ (by omega) rfl)
     have d4 : ∀ dk osk,(grow (redrawn wr dk) osk).cell? ⟨g,k * 12+4,none⟩=some (.int .i64 y0):=cq (hc.o 4 _ (by omega) rfl)
     have d5 : ∀ dk osk,(grow (redrawn wr dk) osk).cell? ⟨g,k * 12+5,none⟩=some (.int .i64 y1):=cq (hc.o 5 _ (by omega) rfl)
     have d6 : ∀ dk osk,(grow (redrawn wr dk) osk).cell? ⟨g,k * 12+6,none⟩=some (.int .i64 y2):=cq (hc.o 6 _ (by omega) rfl)
     have d7 : ∀ dk osk,(grow (redrawn wr dk) osk).cell? ⟨g,k * 12+7,none⟩=some (.int .i64 y3):=cq (hc.o 7 _ (by omega) rfl)
     have d8 : ∀ dk osk,(grow (redrawn wr dk) osk).cell? ⟨g,k * 12+8,none⟩=some (.int .i64 y4):=cq (hc.o 8 _ (by omega) rfl)
     have d9 : ∀ dk osk,(grow (redrawn wr dk) osk).cell? ⟨g,k * 12+9,none⟩=some (.int .i64 y5):=cq (hc.o 9 _ (by omega) rfl)
     have G2 : ∀ dk osk,(grow (redrawn wr dk) osk).cell? ⟨g,k * 12+10,none⟩=some (.int .i64 y6):=cq (hc.o 10 _ (by omega) rfl)
     have G3 : ∀ dk osk,(grow (redrawn wr dk) osk).cell? ⟨g,k * 12+11,none⟩=some (.int .i64 y7):=cq (hc.o 11 _ (by omega) rfl)
     obtain ⟨Ft,Fu,cs2⟩:=ks.r3;refine zAJ 11 (by kernel_rfl) (by kernel_rfl) ?_
     simp only [List.take_succ_cons,List.take_zero,List.drop_succ_cons,List.drop_zero]
     repeat (first | go_big_quiet_step (fail) | quiet_step (fail))
     refine wq ?_;rintro _ ⟨⟨dq,osq⟩,rfl⟩;have hb:=bq wr dq osq;replace hB:=tr hB hb;clear Ft Fu cs2;replace ks:=ks.la hb;replace JE:=nlt JE hb.size;clear hb;generalize grow (redrawn wr dq) osq=W1 at *;clear d0 d1 d2 d3 d4 d5 d6 d7 d8 d9 G2 G3;obtain ⟨W2,RP,PG,N4⟩:=(PL.o.kept (row:=none) (zV hB) (by simp)).drop ON.o OO.o 0
     unfold zIq at RP;refine zOb (by rfl) _ _ _ _ (by rfl) _ _ _ (by rfl) (by rfl) RP ?_
     replace ks:=ks.grownO N4 (by simpa using fun e=>hP.o.apart e.symm)
     have RL:=Bx.mk (World.ownsRow.kept (World.ownsRow.kept RJ.o (zV hB) (by simp [Value.ownBlock])) N4 (.inr hP.o.nm))
     have hm3:=Bx.mk (PG.congr (f':=F0) (fun key _ _=>Eq.trans (by congr) (OE.o key)))
     have Ij:=Bx.mk ((hK.o.trans (Keeps.below hB)).trans (Keeps.grown N4 (fun g e=>by simp only [Option.some.injEq] at e;rw [←e];exact hP.o.fm)))
     clear RP PG N4 RJ PL ON OO OE hK hB JE;have Fu:=ks.cell 1 rfl;have Gb:=ks.frozen 1;have b2:(k:Int)≤(cap:Int):=by omega
     have b3 : ¬cap=k:=by omega
     go_wp2_with fail;have hs:=zX W2 ⟨sb,1,none⟩ (.slice (some ⟨g,0,none⟩) k cap);replace ks:Bk (W2.setCell ⟨sb,1,none⟩ (.slice (some ⟨g,0,none⟩) k cap)) sb #[UA,.slice (some ⟨g,0,none⟩) k cap,.map (some mb)] 113:=by simpa using ks.set 1 (.slice (some ⟨g,0,none⟩) k cap)
     have hR:TrimR Far sb UA ts us w k init (W2.setCell ⟨sb,1,none⟩ (.slice (some ⟨g,0,none⟩) k cap)):=by
      have PH:=hm3.o;have RB:=RL.o;rw [←IT.o,Nat.add_sub_cancel,←hk.o] at PH;rw [←R7.o,←hk.o] at RB;rw [←hk.o] at ks hs ⊢;refine ⟨rfl,Qc.o,hp4.o,StoreIs.of ks (World.ownsRow.kept RB hs (.inr hP.o.ns)) (PH.kept hs (by simp only [ne_eq,Option.some.injEq];exact fun e=>hP.o.apart e.symm)) ⟨hP.o.fs,hP.o.fm,hP.o.fn,hP.o.apart,hP.o.ns,hP.o.nm⟩,Ij.o.trans (Keeps.grown hs (fun g e=>by simp only [Option.some.injEq] at e;rw [←e];exact hP.o.fs))⟩
     go_roundg k
     case rel=>exact ⟨init,hR⟩
     case measure=>have h1:=NJ.o;have h2:=hk.o;rw [List.length_append,h2] at h1;simp at h1;omega
  · have hvs:ts=vs:=QZ.eq_of_length_le (by omega)
    subst hvs;obtain ⟨mb,nv,ks,RJ,-,-⟩:=hS.parts;obtain ⟨na,nc,rfl⟩:=zy RJ;have Fu:=ks.cell 1 rfl;have hS:=Bx.mk hS;have hK:=Bx.mk hK;clear RJ ks NJ;go_wp2_with fail
    all_goals
     go_end0
     exact ⟨rfl,hS.o,hK.o⟩
structure Done (Far:Nat→Prop) (sb:Nat) (UA:Int) (ts ts':List Tr) (t:Tr) (w:World) (e:Ending) (w':World):Prop where
 keeps:Keeps Far w w'
 size:w.heap.size≤w'.heap.size
 way:(Tr.Fits UA ts ts'∧e=zLY (idT ts' t:Int) 0∧StoreIs w' Far sb UA ts')∨(¬Tr.Fits UA ts ts'∧e=zLY 0 14∧StoreIs w' Far sb UA ts)
theorem zOK (w:World) (Far:Nat→Prop) (sb:Nat) (UA:Int) (ts ts':List Tr) (t:Tr) (p0 p1:Addr) (NQ : ∀ vs,ts <+: vs→vs <+: ts'→Good vs) (Od:ts'.length≤1000000000000) (hS:StoreIs w Far sb UA ts)
 (hf:Calls Tryz.prog 98 #[.pointer (some p0),.pointer (some p1)] w (Grew Far sb UA ts ts' t w)) :
 Calls Tryz.prog 97 #[.pointer (some ⟨sb,0,none⟩),.func (.func 98) #[] #[.pointer (some p0),.pointer (some p1)]] w (Done Far sb UA ts ts' t w):=by
 obtain ⟨mb,nv,ks,RJ,-,-⟩:=hS.parts;obtain ⟨na,nc,rfl⟩:=zy RJ;have Fu:=ks.cell 1 rfl;have hf:=Bx.mk hf;have NQ:=Bx.mk NQ;clear RJ ks hS;go_enter Tryz.func97,Tryz.ntmps97;go_wp2_with fail;refine hf.o.mono ?_;rintro e w1 hg;have hk:=Bx.mk hg.keeps;have hz:=Bx.mk hg.size;obtain ⟨-,-,(⟨Mq,rfl,hs⟩ | ⟨Mq,rfl,us,SL,SM,SN,hs⟩)⟩:=hg
 · have hd:Done Far sb UA ts ts' t w (zLY (idT ts' t:Int) 0) w1:=⟨hk.o,hz.o,.inl ⟨Mq,rfl,hs⟩⟩;clear hs Mq Fu hf;go_wp2_with fail
   go_ret2
   exact hd
 · have hl:=SN.length_le;have SI:=Bx.mk (zNj w1 Far sb UA ts us SM (fun vs h1 h2=>NQ.o vs h1 (h2.trans SN)) (by omega) hs)
   have Mq:=Bx.mk Mq;clear hs Fu hf SL SM SN hl;go_wp2_with fail;refine SI.o.mono ?_;rintro e w2 ⟨rfl,RY,O6⟩;have hd:Done Far sb UA ts ts' t w (zLY 0 14) w2:=⟨hk.o.trans O6,nlt hz.o O6.size,.inr ⟨Mq.o,rfl,RY⟩⟩;clear RY O6 SI Mq;go_wp2_with fail
   go_ret2
   exact hd
end
section
open Go.RowKit Go.Sort
theorem zJF (a b c d e f:Int):okB ⟨⟨a,b,c⟩,⟨d,e,f⟩⟩=[a,b,c,d,e,f].all okC:=by simp [okB,okP,Bool.and_assoc]
theorem zIM (c:Int) (w:World) :
 Calls Tryz.prog 145 #[c] w fun e w'=>e = .returned (.bool (decide (0≤c∧c≤255)))∧w=w':=by
 go_enter Tryz.func145,Tryz.ntmps145;go_wp2
 all_goals
  go_ret;exact ⟨zx (by rw [Bool.eq_iff_iff];simp;omega),rfl⟩
theorem zN5 (c:Int) (w:World) :
 Calls Tryz.prog 144 #[c] w fun e w'=>e = .returned (.bool (!decide (0≤c∧c≤255)))∧w=w':=by
 have hm:=Bx.mk (zIM c);generalize decide (0≤c∧c≤255)=r at *;go_enter Tryz.func144,Tryz.ntmps144;go_wp2_with fail;refine (hm.o _).mono ?_;rintro e w1 ⟨rfl,rfl⟩;go_wp2;go_ret;exact ⟨rfl,rfl⟩
theorem zKk (a b c d e f:Int) (w:World) :
 Calls Tryz.prog 142 #[.agg #[a,b,c,d,e,f]] w fun e' w'=>e' = .returned (.bool (okB ⟨⟨a,b,c⟩,⟨d,e,f⟩⟩))∧Below w.heap.size w w':=by
 have hl:=Bx.mk (zJF a b c d e f);go_enter Tryz.func142,Tryz.ntmps142;go_wp2_with fail;generalize hW:w.alloc _=W;have JE:=sz1 hW;have hB:=bl1 hW;have kb:Bk W (w.heap.size) #[a,b,c,d,e,f] 25:=bk0 hW;clear hW
 go_loopw [24] (fun i wr => ∃ k:Nat,k≤6∧i = .int .i64 k∧([a,b,c,d,e,f].take k).all okC=true∧wr=W) (fun i _=>6 - (intOf i).toNat)
 case atStart=>exact ⟨0,by omega,rfl,by simp,rfl⟩
 case round =>
  obtain ⟨k,hk,hi,Jd,rfl⟩:=hrel;have CQ:=Bx.mk Jd;clear Jd;by_cases hlt:k<6
  · obtain rfl | rfl | rfl | rfl | rfl | rfl:k=0∨k=1∨k=2∨k=3∨k=4∨k=5:=by omega
    · replace hi:_=Value.int .i64 0:=hi;subst hi;have Nz : ∀ w,(Instr.index 191 (.agg #[a,b,c,d,e,f]) (.int .i64 0)).run Tryz.prog w = .ok (.int .i64 a) w:=fun _=>by kernel_rfl
      by_cases Oy:a < -1048575
      · have hf:Bx (okB ⟨⟨a,b,c⟩,⟨d,e,f⟩⟩=false):=⟨by rw [hl.o];simp [okC];omega⟩
        go_wp2_with fail;go_ret;exact ⟨zx hf.o.symm,hB⟩
      · by_cases NX:1048575<a
        · have hf:Bx (okB ⟨⟨a,b,c⟩,⟨d,e,f⟩⟩=false):=⟨by rw [hl.o];simp [okC];omega⟩
          go_wp2_with fail;go_ret;exact ⟨zx hf.o.symm,hB⟩
        · have hn:Bx (([a,b,c,d,e,f].take 1).all okC=true):=⟨by have:=CQ.o;simp [okC] at this ⊢; omega⟩
          go_wp2_with fail
          go_roundw
          case rel=>exact ⟨1,by omega,by go_num,hn.o,by trivial⟩
          case measure=>simp [intOf]
    · replace hi:_=Value.int .i64 1:=hi;subst hi;have Nz : ∀ w,(Instr.index 191 (.agg #[a,b,c,d,e,f]) (.int .i64 1)).run Tryz.prog w = .ok (.int .i64 b) w:=fun _=>by kernel_rfl
      by_cases Oy:b < -1048575
      · have hf:Bx (okB ⟨⟨a,b,c⟩,⟨d,e,f⟩⟩=false):=⟨by rw [hl.o];simp [okC];omega⟩
        go_wp2_with fail;go_ret;exact ⟨zx hf.o.symm,hB⟩
      · by_cases NX:1048575<b
        · have hf:Bx (okB ⟨⟨a,b,c⟩,⟨d,e,f⟩⟩=false):=⟨by rw [hl.o];simp [okC];omega⟩
          go_wp2_with fail;go_ret;exact ⟨zx hf.o.symm,hB⟩
        · have hn:Bx (([a,b,c,d,e,f].take 2).all okC=true):=⟨by have:=CQ.o;simp [okC] at this ⊢; omega⟩
          go_wp2_with fail
          go_roundw
          case rel=>exact ⟨2,by omega,by go_num,hn.o,by trivial⟩
          case measure=>simp [intOf]
    · replace hi:_=Value.int .i64 2:=hi;subst hi;have Nz : ∀ w,(Instr.index 191 (.agg #[a,b,c,d,e,f]) (.int .i64 2)).run Tryz.prog w = .ok (.int .i64 c) w:=fun _=>by kernel_rfl
      by_cases Oy:c < -1048575
      · have hf:Bx (okB ⟨⟨a,b,c⟩,⟨d,e,f⟩⟩=false):=⟨by rw [hl.o];simp [okC];omega⟩
        go_wp2_with fail;go_ret;exact ⟨zx hf.o.symm,hB⟩
      · by_cases NX:1048575<c
        · have hf:Bx (okB ⟨⟨a,b,c⟩,⟨d,e,f⟩⟩=false):=⟨by rw [hl.o];simp [okC];omega⟩
          go_wp2_with fail;go_ret;exact ⟨zx hf.o.symm,hB⟩
        · have hn:Bx (([a,b,c,d,e,f].take 3).all okC=true):=⟨by have:=CQ.o;simp [okC] at this ⊢; omega⟩
          go_wp2_with fail
          go_roundw
          case rel=>exact ⟨3,by omega,by go_num,hn.o,by trivial⟩
          case measure=>simp [intOf]
    · replace hi:_=Value.int .i64 3:=hi;subst hi;have Nz : ∀ w,(Instr.index 191 (.agg #[a,b,c,d,e,f]) (.int .i64 3)).run Tryz.prog w = .ok (.int .i64 d) w:=fun _=>by kernel_rfl
      by_cases Oy:d < -1048575
      · have hf:Bx (okB ⟨⟨a,b,c⟩,⟨d,e,f⟩⟩=false):=⟨by rw [hl.o];simp [okC];omega⟩
        go_wp2_with fail;go_ret;exact ⟨zx hf.o.symm,hB⟩
      · by_cases NX:1048575<d
        · have hf:Bx (okB ⟨⟨a,b,c⟩,⟨d,e,f⟩⟩=false):=⟨by rw [hl.o];simp [okC];omega⟩
          go_wp2_with fail;go_ret;exact ⟨zx hf.o.symm,hB⟩
        · have hn:Bx (([a,b,c,d,e,f].take 4).all okC=true):=⟨by have:=CQ.o;simp [okC] at this ⊢; omega⟩
          go_wp2_with fail
          go_roundw
          case rel=>exact ⟨4,by omega,by go_num,hn.o,by trivial⟩
          case measure=>simp [intOf]
    · replace hi:_=Value.int .i64 4:=hi;subst hi;have Nz : ∀ w,(Instr.index 191 (.agg #[a,b,c,d,e,f]) (.int .i64 4)).run Tryz.prog w = .ok (.int .i64 e) w:=fun _=>by kernel_rfl
      by_cases Oy:e < -1048575
      · have hf:Bx (okB ⟨⟨a,b,c⟩,⟨d,e,f⟩⟩=false):=⟨by rw [hl.o];simp [okC];omega⟩
        go_wp2_with fail;go_ret;exact ⟨zx hf.o.symm,hB⟩
      · by_cases NX:1048575<e
        · have hf:Bx (okB ⟨⟨a,b,c⟩,⟨d,e,f⟩⟩=false):=⟨by rw [hl.o];simp [okC];omega⟩
          go_wp2_with fail;go_ret;exact ⟨zx hf.o.symm,hB⟩
        · have hn:Bx (([a,b,c,d,e,f].take 5).all okC=true):=⟨by have:=CQ.o;simp [okC] at this ⊢; omega⟩
          go_wp2_with fail
          go_roundw
          case rel=>exact ⟨5,by omega,by go_num,hn.o,by trivial⟩
          case measure=>simp [intOf]
    · replace hi:_=Value.int .i64 5:=hi;subst hi;have Nz : ∀ w,(Instr.index 191 (.agg #[a,b,c,d,e,f]) (.int .i64 5)).run Tryz.prog w = .ok (.int .i64 f) w:=fun _=>by kernel_rfl
      by_cases Oy:f < -1048575
      · have hf:Bx (okB ⟨⟨a,b,c⟩,⟨d,e,f⟩⟩=false):=⟨by rw [hl.o];simp [okC];omega⟩
        go_wp2_with fail;go_ret;exact ⟨zx hf.o.symm,hB⟩
      · by_cases NX:1048575<f
        · have hf:Bx (okB ⟨⟨a,b,c⟩,⟨d,e,f⟩⟩=false):=⟨by rw [hl.o];simp [okC];omega⟩
          go_wp2_with fail;go_ret;exact ⟨zx hf.o.symm,hB⟩
        · have hn:Bx (([a,b,c,d,e,f].take 6).all okC=true):=⟨by have:=CQ.o;simp [okC] at this ⊢; omega⟩
          go_wp2_with fail
          go_roundw
          case rel=>exact ⟨6,by omega,by go_num,hn.o,by trivial⟩
          case measure=>simp [intOf]
  · obtain rfl:k=6:=by omega
    replace hi:_=Value.int .i64 6:=hi;subst hi;go_wp2_with fail;go_ret;exact ⟨zx (by rw [hl.o];have:=CQ.o;simpa using this.symm),hB⟩
end
section
open Go.RowKit
namespace Pal
def cell (c:Int):Bool:=decide (0≤c) && decide (c≤255)
def brick (l:List Int):Bool:=decide (l.length=64) && l.all cell
theorem cell_eq (c:Int):cell c=decide (0≤c∧c≤255):=by simp [cell]
end Pal
theorem zA7 {xs:List Int} {k:Nat} {x:Int} {f:Int→Bool} (hx:xs[k]? = some x) (h:(xs.take k).all f=true) (hf:f x=true):(xs.take (k+1)).all f=true:=by
 rw [List.take_add_one,hx];simp [h,hf]
theorem zA8 {xs:List Int} {k:Nat} {x:Int} {f:Int→Bool} (hx:xs[k]? = some x) (hf:f x=false):xs.all f=false:=by
 obtain ⟨hl,rfl⟩:=List.getElem?_eq_some_iff.1 hx;rw [List.all_eq_false];exact ⟨_,List.getElem_mem hl,by simp [hf]⟩
theorem zA6 {xs:List Int} {n:Nat} {f:Int→Bool} (hn:Bx (xs.length=n)) (h:(xs.take n).all f=true):xs.all f=true:=by
 rw [←hn.o,List.take_length] at h;exact h
theorem zC1 (c:Int) (w:World):Calls Tryz.prog 144 #[c] w fun e w'=>e = .returned (.bool (!Pal.cell c))∧w=w':=by
 rw [Pal.cell_eq];exact zN5 c w
theorem zC0 (c:Int) (w:World):Calls Tryz.prog 146 #[c] w fun e w'=>e = .returned (.bool (!Pal.cell c))∧w=w':=by
 have hm:=Bx.mk (zGv c);rw [Pal.cell_eq];generalize decide (0≤c∧c≤255)=r at *;go_enter Tryz.func146,Tryz.ntmps146;go_wp2_with fail;refine (hm.o _).mono ?_;rintro e w1 ⟨rfl,rfl⟩;go_wp2;go_ret;exact ⟨rfl,rfl⟩
theorem zGh (a:Option Addr) (cap:Nat) (xs:List Int) (w:World) (hl:xs.length≤1000000000) (h:Sl w .i64 a xs) :
 Calls Tryz.prog 137 #[.slice a xs.length cap,.func (.func 144) #[] #[]] w fun e w'=>(∃ r:Int,e = .returned r∧(decide (0≤r) = !xs.all Pal.cell))∧w=w':=by
 generalize hn:xs.length=n at hl;have Hn:=Bx.mk hn;clear hn;go_enter Tryz.func137,Tryz.ntmps137;go_wp2
 go_loop [8] (fun i => ∃ k:Nat,k≤n∧i = .int .i64 k∧(xs.take k).all Pal.cell=true) (fun i=>n - (intOf i).toNat)
 case atStart=>exact ⟨0,Nat.zero_le _,rfl,by simp⟩
 case round =>
  obtain ⟨k,hk,rfl,Jd⟩:=hrel;have CQ:=Bx.mk Jd;clear Jd;by_cases hlt:k<n
  · obtain ⟨x,hx⟩:=zBY Hn hlt;obtain ⟨b,off,rfl,hc⟩:=h k x hx;have Hx:=Bx.mk hx;clear h hx;cases Ly:Pal.cell x with
    | false =>
      have hf:=Bx.mk (zA8 Hx.o Ly);go_wp2_with (go_at_call 144;refine (zC1 x _).mono ?_;rintro e w' ⟨rfl,rfl⟩);go_ret;exact ⟨⟨_,rfl,by rw [hf.o];simp⟩,rfl⟩
    | true =>
      have hf:=Bx.mk (zA7 Hx.o CQ.o Ly);go_wp2_with (go_at_call 144;refine (zC1 x _).mono ?_;rintro e w' ⟨rfl,rfl⟩);go_round
      case rel=>exact ⟨k+1,by omega,by go_num,hf.o⟩
      case measure=>simp [intOf];omega
  · have OP:k=n:=by omega
    have hf:=Bx.mk (zA6 Hn (OP ▸ CQ.o));clear OP;go_wp2;go_ret;exact ⟨⟨_,rfl,by rw [hf.o];simp⟩,rfl⟩
theorem zDJ (a:Option Addr) (cap:Nat) (xs:List Int) (w:World) (hl:xs.length≤1000000000) (h:Sl w .i64 a xs) :
 Calls Tryz.prog 76 #[.slice a xs.length cap,.func (.func 144) #[] #[]] w fun e w'=>e = .returned (.bool (!xs.all Pal.cell))∧w=w':=by
 go_enter Tryz.func76,Tryz.ntmps76;go_wp2_with (go_at_call 137;refine (zGh a cap xs _ hl h).mono ?_;rintro e w' ⟨⟨r,rfl,hr⟩,rfl⟩;have Hr:=Bx.mk hr;clear hr);go_ret;exact ⟨zx Hr.o,rfl⟩
theorem zGf (a:Option Addr) (cap:Nat) (xs:List Int) (w:World) (hl:xs.length≤1000000000) (h:Sl w .i64 a xs) :
 Calls Tryz.prog 137 #[.slice a xs.length cap,.func (.func 146) #[] #[]] w fun e w'=>(∃ r:Int,e = .returned r∧(decide (0≤r) = !xs.all Pal.cell))∧w=w':=by
 generalize hn:xs.length=n at hl;have Hn:=Bx.mk hn;clear hn;go_enter Tryz.func137,Tryz.ntmps137;go_wp2
 go_loop [8] (fun i => ∃ k:Nat,k≤n∧i = .int .i64 k∧(xs.take k).all Pal.cell=true) (fun i=>n - (intOf i).toNat)
 case atStart=>exact ⟨0,Nat.zero_le _,rfl,by simp⟩
 case round =>
  obtain ⟨k,hk,rfl,Jd⟩:=hrel;have CQ:=Bx.mk Jd;clear Jd;by_cases hlt:k<n
  · obtain ⟨x,hx⟩:=zBY Hn hlt;obtain ⟨b,off,rfl,hc⟩:=h k x hx;have Hx:=Bx.mk hx;clear h hx;cases Ly:Pal.cell x with
    | false =>
      have hf:=Bx.mk (zA8 Hx.o Ly);go_wp2_with (go_at_call 146;refine (zC0 x _).mono ?_;rintro e w' ⟨rfl,rfl⟩);go_ret;exact ⟨⟨_,rfl,by rw [hf.o];simp⟩,rfl⟩
    | true =>
      have hf:=Bx.mk (zA7 Hx.o CQ.o Ly);go_wp2_with (go_at_call 146;refine (zC0 x _).mono ?_;rintro e w' ⟨rfl,rfl⟩);go_round
      case rel=>exact ⟨k+1,by omega,by go_num,hf.o⟩
      case measure=>simp [intOf];omega
  · have OP:k=n:=by omega
    have hf:=Bx.mk (zA6 Hn (OP ▸ CQ.o));clear OP;go_wp2;go_ret;exact ⟨⟨_,rfl,by rw [hf.o];simp⟩,rfl⟩
theorem zDG (a:Option Addr) (cap:Nat) (xs:List Int) (w:World) (hl:xs.length≤1000000000) (h:Sl w .i64 a xs) :
 Calls Tryz.prog 76 #[.slice a xs.length cap,.func (.func 146) #[] #[]] w fun e w'=>e = .returned (.bool (!xs.all Pal.cell))∧w=w':=by
 go_enter Tryz.func76,Tryz.ntmps76;go_wp2_with (go_at_call 137;refine (zGf a cap xs _ hl h).mono ?_;rintro e w' ⟨⟨r,rfl,hr⟩,rfl⟩;have Hr:=Bx.mk hr;clear hr);go_ret;exact ⟨zx Hr.o,rfl⟩
end
end Go.Proofs.YtfcbajmjaifjlaaGreat