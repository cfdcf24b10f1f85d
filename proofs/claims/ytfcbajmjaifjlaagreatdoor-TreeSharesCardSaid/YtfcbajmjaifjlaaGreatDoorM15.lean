/- Tsm, Tch, Edt, Gri: joined by program, for one claim. -/
import Derived.Test.YtfcbajmjaifjlaaGreatDoorM14
set_option linter.unusedVariables false
set_option linter.unusedSimpArgs false
namespace Go.Proofs.YtfcbajmjaifjlaaGreatDoor
section
open Go.RowKit Go.Sort Go.Maps
open Oct
theorem Bk.put4 {w:World} {g:Nat} {x y z u:Value} {t:TypeId} (h:Bk w g #[x,y,z,u] t) (a b c d:Value):Bk ((((w.setCell ⟨g,0,none⟩ a).setCell ⟨g,1,none⟩ b).setCell ⟨g,2,none⟩ c).setCell ⟨g,3,none⟩ d) g #[a,b,c,d] t:=by
 simpa using (((h.set 0 a).set 1 b).set 2 c).set 3 d
theorem zMr {B:Nat} {a w:World} (h:Below B a w) {g:Nat} (hg:B≤g) (x y z u:Value):Below B a ((((w.setCell ⟨g,0,none⟩ x).setCell ⟨g,1,none⟩ y).setCell ⟨g,2,none⟩ z).setCell ⟨g,3,none⟩ u) :=
 (((h.setCell hg _).setCell hg _).setCell hg _).setCell hg _
abbrev zH (x y z l:Int):Value:=.agg #[x,y,z,l]
theorem zAY (n:Int) (w:World) :
 Calls Tryz.prog 37 #[n] w fun e w'=>e = .returned (zH 0 0 0 n)∧Below w.heap.size w w':=by
 go_enter Tryz.func37,Tryz.ntmps37;go_wp2;generalize hW:World.alloc w _=W;have hSz:=sz1 hW;have hB:=bl1 hW;have kr:Bk W (w.heap.size) #[(0:Int),(0:Int),(0:Int),n] 52:=bk0 hW;clear hW;exact bodyPost_ret (v:=zH 0 0 0 n) (results_cell_row rfl _ _ _ 52 #[(0:Int),(0:Int),(0:Int),n] (0,0) _ rfl kr Tryz.underlying52 rfl (by kernel_rfl)) rfl ⟨rfl,hB⟩
theorem zOJ (h:Nat) (hh:h≤13) (px py pz m:Int) (hm:m=2 ^ h) (hx : -100000≤px∧px≤100000) (hy : -100000≤py∧py≤100000) (hz : -100000≤pz∧pz≤100000) (w:World) :
 Calls Tryz.prog 74 #[zH px py pz ((h+1:Nat):Int),(0:Int)] w fun e w'=>e = .returned (zH px py pz (h:Int))∧Below w.heap.size w w':=by
 have hp:=zZ (n:=h) (by omega)
 have hml:=zV (n:=h) (by omega)
 rw [←hm] at hml;have hp':IntKind.i64.wrap ((2:Int) ^ h)=m:=by rw [hp,hm]
 have hsub:IntKind.i64.wrap (((h+1:Nat):Int) - 1)=(h:Int):=by rw [show ((h+1:Nat):Int) - 1=(h:Int) by omega];exact IntWalk.i64_in _ (by omega)
 have b0:bits .and .i64 0 1=0:=by decide
 have b1:bits .and .i64 1 1=1:=by decide
 have b2:bits .and .i64 2 1=0:=by decide
 have b3:bits .and .i64 3 1=1:=by decide
 have b4:bits .and .i64 4 1=0:=by decide
 have b5:bits .and .i64 5 1=1:=by decide
 have b6:bits .and .i64 6 1=0:=by decide
 have b7:bits .and .i64 7 1=1:=by decide
 have w0:IntKind.i64.wrap 0=0:=by decide
 have hsc:=Bx.mk fun W=>zAO 0 0 0 m W;rw [Int.mul_zero] at hsc;rw [IntWalk.wrap64_in 0 (by omega)] at hsc
 have hadd:=Bx.mk fun W=>zu px py pz 0 0 0 W;rw [Int.add_zero px,Int.add_zero py,Int.add_zero pz] at hadd;rw [IntWalk.wrap64_in px (by omega),IntWalk.wrap64_in py (by omega),IntWalk.wrap64_in pz (by omega)] at hadd
 clear hp hm hml hx hy hz;go_enter Tryz.func74,Tryz.ntmps74;go_wp2_with fail;generalize hW:World.alloc (World.alloc w _) _=W;have hSz:=sz2 hW;have hB:=bl2 hW;have kp:Bk W (w.heap.size) #[px,py,pz,((h+1:Nat):Int)] 52:=bk1 hW;have kr:Bk W (w.heap.size+1) #[(0:Int),(0:Int),(0:Int),(0:Int)] 52:=bk0 hW;clear hW;have cp3:=kp.cell 3 rfl;go_wp2_with fail;clear cp3;obtain ⟨cp0,cp1,cp2⟩:=kp.r3;have q0:=Bx.mk fun dk osk=>Calls.regrown_of (hsc.out (grow (redrawn W dk) osk));have q1:=Bx.mk fun dk osk=>Calls.regrown_of (hadd.out (grow (redrawn W dk) osk));refine zA 16 (by kernel_rfl) (by kernel_rfl) ?_
 simp only [List.take_succ_cons,List.take_zero,List.drop_succ_cons,List.drop_zero]
 repeat (first | go_big_quiet_step ((first | with_reducible exact q0.out _ _ | with_reducible exact q1.out _ _)) | quiet_step (first | with_reducible exact q0.out _ _ | with_reducible exact q1.out _ _))
 refine wpQuiet_nil ?_;rintro _ ⟨⟨dq,osq⟩,rfl⟩;have hb:=below_regrown W dq osq;replace hB:=hB.trans (hb.mono hB.size);clear cp0 cp1 cp2;clear q0 q1;replace kp:=kp.later hb;replace kr:=kr.later hb;replace hSz:=Nat.le_trans hSz hb.size;clear hb;generalize grow (redrawn W dq) osq=W1 at *;have cr0:=kr.cell 0 rfl;have fr0:=kr.frozen 0;have cr1:=kr.cell 1 rfl;have fr1:=kr.frozen 1;have cr2:=kr.cell 2 rfl;have fr2:=kr.frozen 2;have cr3:=kr.cell 3 rfl;have fr3:=kr.frozen 3;go_wp2_with fail;replace kr:=kr.put4 (.int .i64 px) (.int .i64 py) (.int .i64 pz) (.int .i64 (h:Int));exact bodyPost_ret (v:=.agg #[px,py,pz,(h:Int)]) (results_cell_row rfl _ _ _ 52 #[px,py,pz,(h:Int)] (0,0) _ rfl kr Tryz.underlying52 rfl (by kernel_rfl)) rfl ⟨rfl,zMr hB (by omega) _ _ _ _⟩
theorem zOI (h:Nat) (hh:h≤13) (px py pz m:Int) (hm:m=2 ^ h) (hx : -100000≤px∧px≤100000) (hy : -100000≤py∧py≤100000) (hz : -100000≤pz∧pz≤100000) (w:World) :
 Calls Tryz.prog 74 #[zH px py pz ((h+1:Nat):Int),(1:Int)] w fun e w'=>e = .returned (zH (px+m) py pz (h:Int))∧Below w.heap.size w w':=by
 have hp:=zZ (n:=h) (by omega)
 have hml:=zV (n:=h) (by omega)
 rw [←hm] at hml;have hp':IntKind.i64.wrap ((2:Int) ^ h)=m:=by rw [hp,hm]
 have hsub:IntKind.i64.wrap (((h+1:Nat):Int) - 1)=(h:Int):=by rw [show ((h+1:Nat):Int) - 1=(h:Int) by omega];exact IntWalk.i64_in _ (by omega)
 have b0:bits .and .i64 0 1=0:=by decide
 have b1:bits .and .i64 1 1=1:=by decide
 have b2:bits .and .i64 2 1=0:=by decide
 have b3:bits .and .i64 3 1=1:=by decide
 have b4:bits .and .i64 4 1=0:=by decide
 have b5:bits .and .i64 5 1=1:=by decide
 have b6:bits .and .i64 6 1=0:=by decide
 have b7:bits .and .i64 7 1=1:=by decide
 have w0:IntKind.i64.wrap 0=0:=by decide
 have hsc:=Bx.mk fun W=>zAO 1 0 0 m W;rw [Int.mul_zero,Int.mul_one] at hsc;rw [IntWalk.wrap64_in 0 (by omega),IntWalk.wrap64_in m (by omega)] at hsc
 have hadd:=Bx.mk fun W=>zu px py pz m 0 0 W;rw [Int.add_zero py,Int.add_zero pz] at hadd;rw [IntWalk.wrap64_in (px+m) (by omega),IntWalk.wrap64_in py (by omega),IntWalk.wrap64_in pz (by omega)] at hadd
 clear hp hm hml hx hy hz;go_enter Tryz.func74,Tryz.ntmps74;go_wp2_with fail;generalize hW:World.alloc (World.alloc w _) _=W;have hSz:=sz2 hW;have hB:=bl2 hW;have kp:Bk W (w.heap.size) #[px,py,pz,((h+1:Nat):Int)] 52:=bk1 hW;have kr:Bk W (w.heap.size+1) #[(0:Int),(0:Int),(0:Int),(0:Int)] 52:=bk0 hW;clear hW;have cp3:=kp.cell 3 rfl;go_wp2_with fail;clear cp3;obtain ⟨cp0,cp1,cp2⟩:=kp.r3;have q0:=Bx.mk fun dk osk=>Calls.regrown_of (hsc.out (grow (redrawn W dk) osk));have q1:=Bx.mk fun dk osk=>Calls.regrown_of (hadd.out (grow (redrawn W dk) osk));refine zA 16 (by kernel_rfl) (by kernel_rfl) ?_
 simp only [List.take_succ_cons,List.take_zero,List.drop_succ_cons,List.drop_zero]
 repeat (first | go_big_quiet_step ((first | with_reducible exact q0.out _ _ | with_reducible exact q1.out _ _)) | quiet_step (first | with_reducible exact q0.out _ _ | with_reducible exact q1.out _ _))
 refine wpQuiet_nil ?_;rintro _ ⟨⟨dq,osq⟩,rfl⟩;have hb:=below_regrown W dq osq;replace hB:=hB.trans (hb.mono hB.size);clear cp0 cp1 cp2;clear q0 q1;replace kp:=kp.later hb;replace kr:=kr.later hb;replace hSz:=Nat.le_trans hSz hb.size;clear hb;generalize grow (redrawn W dq) osq=W1 at *;have cr0:=kr.cell 0 rfl;have fr0:=kr.frozen 0;have cr1:=kr.cell 1 rfl;have fr1:=kr.frozen 1;have cr2:=kr.cell 2 rfl;have fr2:=kr.frozen 2;have cr3:=kr.cell 3 rfl;have fr3:=kr.frozen 3;go_wp2_with fail;replace kr:=kr.put4 (.int .i64 (px+m)) (.int .i64 py) (.int .i64 pz) (.int .i64 (h:Int));exact bodyPost_ret (v:=.agg #[.int .i64 (px+m),py,pz,(h:Int)]) (results_cell_row rfl _ _ _ 52 #[.int .i64 (px+m),py,pz,(h:Int)] (0,0) _ rfl kr Tryz.underlying52 rfl (by kernel_rfl)) rfl ⟨rfl,zMr hB (by omega) _ _ _ _⟩
theorem zOH (h:Nat) (hh:h≤13) (px py pz m:Int) (hm:m=2 ^ h) (hx : -100000≤px∧px≤100000) (hy : -100000≤py∧py≤100000) (hz : -100000≤pz∧pz≤100000) (w:World) :
 Calls Tryz.prog 74 #[zH px py pz ((h+1:Nat):Int),(2:Int)] w fun e w'=>e = .returned (zH px (py+m) pz (h:Int))∧Below w.heap.size w w':=by
 have hp:=zZ (n:=h) (by omega)
 have hml:=zV (n:=h) (by omega)
 rw [←hm] at hml;have hp':IntKind.i64.wrap ((2:Int) ^ h)=m:=by rw [hp,hm]
 have hsub:IntKind.i64.wrap (((h+1:Nat):Int) - 1)=(h:Int):=by rw [show ((h+1:Nat):Int) - 1=(h:Int) by omega];exact IntWalk.i64_in _ (by omega)
 have b0:bits .and .i64 0 1=0:=by decide
 have b1:bits .and .i64 1 1=1:=by decide
 have b2:bits .and .i64 2 1=0:=by decide
 have b3:bits .and .i64 3 1=1:=by decide
 have b4:bits .and .i64 4 1=0:=by decide
 have b5:bits .and .i64 5 1=1:=by decide
 have b6:bits .and .i64 6 1=0:=by decide
 have b7:bits .and .i64 7 1=1:=by decide
 have w0:IntKind.i64.wrap 0=0:=by decide
 have hsc:=Bx.mk fun W=>zAO 0 1 0 m W;rw [Int.mul_zero,Int.mul_one] at hsc;rw [IntWalk.wrap64_in 0 (by omega),IntWalk.wrap64_in m (by omega)] at hsc
 have hadd:=Bx.mk fun W=>zu px py pz 0 m 0 W;rw [Int.add_zero px,Int.add_zero pz] at hadd;rw [IntWalk.wrap64_in px (by omega),IntWalk.wrap64_in (py+m) (by omega),IntWalk.wrap64_in pz (by omega)] at hadd
 clear hp hm hml hx hy hz;go_enter Tryz.func74,Tryz.ntmps74;go_wp2_with fail;generalize hW:World.alloc (World.alloc w _) _=W;have hSz:=sz2 hW;have hB:=bl2 hW;have kp:Bk W (w.heap.size) #[px,py,pz,((h+1:Nat):Int)] 52:=bk1 hW;have kr:Bk W (w.heap.size+1) #[(0:Int),(0:Int),(0:Int),(0:Int)] 52:=bk0 hW;clear hW;have cp3:=kp.cell 3 rfl;go_wp2_with fail;clear cp3;obtain ⟨cp0,cp1,cp2⟩:=kp.r3;have q0:=Bx.mk fun dk osk=>Calls.regrown_of (hsc.out (grow (redrawn W dk) osk));have q1:=Bx.mk fun dk osk=>Calls.regrown_of (hadd.out (grow (redrawn W dk) osk));refine zA 16 (by kernel_rfl) (by kernel_rfl) ?_
 simp only [List.take_succ_cons,List.take_zero,List.drop_succ_cons,List.drop_zero]
 repeat (first | go_big_quiet_step ((first | with_reducible exact q0.out _ _ | with_reducible exact q1.out _ _)) | quiet_step (first | with_reducible exact q0.out _ _ | with_reducible exact q1.out _ _))
 refine wpQuiet_nil ?_;rintro _ ⟨⟨dq,osq⟩,rfl⟩;have hb:=below_regrown W dq osq;replace hB:=hB.trans (hb.mono hB.size);clear cp0 cp1 cp2;clear q0 q1;replace kp:=kp.later hb;replace kr:=kr.later hb;replace hSz:=Nat.le_trans hSz hb.size;clear hb;generalize grow (redrawn W dq) osq=W1 at *;have cr0:=kr.cell 0 rfl;have fr0:=kr.frozen 0;have cr1:=kr.cell 1 rfl;have fr1:=kr.frozen 1;have cr2:=kr.cell 2 rfl;have fr2:=kr.frozen 2;have cr3:=kr.cell 3 rfl;have fr3:=kr.frozen 3;go_wp2_with fail;replace kr:=kr.put4 (.int .i64 px) (.int .i64 (py+m)) (.int .i64 pz) (.int .i64 (h:Int));exact bodyPost_ret (v:=.agg #[px,.int .i64 (py+m),pz,(h:Int)]) (results_cell_row rfl _ _ _ 52 #[px,.int .i64 (py+m),pz,(h:Int)] (0,0) _ rfl kr Tryz.underlying52 rfl (by kernel_rfl)) rfl ⟨rfl,zMr hB (by omega) _ _ _ _⟩
theorem zOG (h:Nat) (hh:h≤13) (px py pz m:Int) (hm:m=2 ^ h) (hx : -100000≤px∧px≤100000) (hy : -100000≤py∧py≤100000) (hz : -100000≤pz∧pz≤100000) (w:World) :
 Calls Tryz.prog 74 #[zH px py pz ((h+1:Nat):Int),(3:Int)] w fun e w'=>e = .returned (zH (px+m) (py+m) pz (h:Int))∧Below w.heap.size w w':=by
 have hp:=zZ (n:=h) (by omega)
 have hml:=zV (n:=h) (by omega)
 rw [←hm] at hml;have hp':IntKind.i64.wrap ((2:Int) ^ h)=m:=by rw [hp,hm]
 have hsub:IntKind.i64.wrap (((h+1:Nat):Int) - 1)=(h:Int):=by rw [show ((h+1:Nat):Int) - 1=(h:Int) by omega];exact IntWalk.i64_in _ (by omega)
 have b0:bits .and .i64 0 1=0:=by decide
 have b1:bits .and .i64 1 1=1:=by decide
 have b2:bits .and .i64 2 1=0:=by decide
 have b3:bits .and .i64 3 1=1:=by decide
 have b4:bits .and .i64 4 1=0:=by decide
 have b5:bits .and .i64 5 1=1:=by decide
 have b6:bits .and .i64 6 1=0:=by decide
 have b7:bits .and .i64 7 1=1:=by decide
 have w0:IntKind.i64.wrap 0=0:=by decide
 have hsc:=Bx.mk fun W=>zAO 1 1 0 m W;rw [Int.mul_zero,Int.mul_one] at hsc;rw [IntWalk.wrap64_in 0 (by omega),IntWalk.wrap64_in m (by omega)] at hsc
 have hadd:=Bx.mk fun W=>zu px py pz m m 0 W;rw [Int.add_zero pz] at hadd;rw [IntWalk.wrap64_in (px+m) (by omega),IntWalk.wrap64_in (py+m) (by omega),IntWalk.wrap64_in pz (by omega)] at hadd
 clear hp hm hml hx hy hz;go_enter Tryz.func74,Tryz.ntmps74;go_wp2_with fail;generalize hW:World.alloc (World.alloc w _) _=W;have hSz:=sz2 hW;have hB:=bl2 hW;have kp:Bk W (w.heap.size) #[px,py,pz,((h+1:Nat):Int)] 52:=bk1 hW;have kr:Bk W (w.heap.size+1) #[(0:Int),(0:Int),(0:Int),(0:Int)] 52:=bk0 hW;clear hW;have cp3:=kp.cell 3 rfl;go_wp2_with fail;clear cp3;obtain ⟨cp0,cp1,cp2⟩:=kp.r3;have q0:=Bx.mk fun dk osk=>Calls.regrown_of (hsc.out (grow (redrawn W dk) osk));have q1:=Bx.mk fun dk osk=>Calls.regrown_of (hadd.out (grow (redrawn W dk) osk));refine zA 16 (by kernel_rfl) (by kernel_rfl) ?_
 simp only [List.take_succ_cons,List.take_zero,List.drop_succ_cons,List.drop_zero]
 repeat (first | go_big_quiet_step ((first | with_reducible exact q0.out _ _ | with_reducible exact q1.out _ _)) | quiet_step (first | with_reducible exact q0.out _ _ | with_reducible exact q1.out _ _))
 refine wpQuiet_nil ?_;rintro _ ⟨⟨dq,osq⟩,rfl⟩;have hb:=below_regrown W dq osq;replace hB:=hB.trans (hb.mono hB.size);clear cp0 cp1 cp2;clear q0 q1;replace kp:=kp.later hb;replace kr:=kr.later hb;replace hSz:=Nat.le_trans hSz hb.size;clear hb;generalize grow (redrawn W dq) osq=W1 at *;have cr0:=kr.cell 0 rfl;have fr0:=kr.frozen 0;have cr1:=kr.cell 1 rfl;have fr1:=kr.frozen 1;have cr2:=kr.cell 2 rfl;have fr2:=kr.frozen 2;have cr3:=kr.cell 3 rfl;have fr3:=kr.frozen 3;go_wp2_with fail;replace kr:=kr.put4 (.int .i64 (px+m)) (.int .i64 (py+m)) (.int .i64 pz) (.int .i64 (h:Int));exact bodyPost_ret (v:=.agg #[.int .i64 (px+m),.int .i64 (py+m),pz,(h:Int)]) (results_cell_row rfl _ _ _ 52 #[.int .i64 (px+m),.int .i64 (py+m),pz,(h:Int)] (0,0) _ rfl kr Tryz.underlying52 rfl (by kernel_rfl)) rfl ⟨rfl,zMr hB (by omega) _ _ _ _⟩
theorem zOF (h:Nat) (hh:h≤13) (px py pz m:Int) (hm:m=2 ^ h) (hx : -100000≤px∧px≤100000) (hy : -100000≤py∧py≤100000) (hz : -100000≤pz∧pz≤100000) (w:World) :
 Calls Tryz.prog 74 #[zH px py pz ((h+1:Nat):Int),(4:Int)] w fun e w'=>e = .returned (zH px py (pz+m) (h:Int))∧Below w.heap.size w w':=by
 have hp:=zZ (n:=h) (by omega)
 have hml:=zV (n:=h) (by omega)
 rw [←hm] at hml;have hp':IntKind.i64.wrap ((2:Int) ^ h)=m:=by rw [hp,hm]
 have hsub:IntKind.i64.wrap (((h+1:Nat):Int) - 1)=(h:Int):=by rw [show ((h+1:Nat):Int) - 1=(h:Int) by omega];exact IntWalk.i64_in _ (by omega)
 have b0:bits .and .i64 0 1=0:=by decide
 have b1:bits .and .i64 1 1=1:=by decide
 have b2:bits .and .i64 2 1=0:=by decide
 have b3:bits .and .i64 3 1=1:=by decide
 have b4:bits .and .i64 4 1=0:=by decide
 have b5:bits .and .i64 5 1=1:=by decide
 have b6:bits .and .i64 6 1=0:=by decide
 have b7:bits .and .i64 7 1=1:=by decide
 have w0:IntKind.i64.wrap 0=0:=by decide
 have hsc:=Bx.mk fun W=>zAO 0 0 1 m W;rw [Int.mul_zero,Int.mul_one] at hsc;rw [IntWalk.wrap64_in 0 (by omega),IntWalk.wrap64_in m (by omega)] at hsc
 have hadd:=Bx.mk fun W=>zu px py pz 0 0 m W;rw [Int.add_zero px,Int.add_zero py] at hadd;rw [IntWalk.wrap64_in px (by omega),IntWalk.wrap64_in py (by omega),IntWalk.wrap64_in (pz+m) (by omega)] at hadd
 clear hp hm hml hx hy hz;go_enter Tryz.func74,Tryz.ntmps74;go_wp2_with fail;generalize hW:World.alloc (World.alloc w _) _=W;have hSz:=sz2 hW;have hB:=bl2 hW;have kp:Bk W (w.heap.size) #[px,py,pz,((h+1:Nat):Int)] 52:=bk1 hW;have kr:Bk W (w.heap.size+1) #[(0:Int),(0:Int),(0:Int),(0:Int)] 52:=bk0 hW;clear hW;have cp3:=kp.cell 3 rfl;go_wp2_with fail;clear cp3;obtain ⟨cp0,cp1,cp2⟩:=kp.r3;have q0:=Bx.mk fun dk osk=>Calls.regrown_of (hsc.out (grow (redrawn W dk) osk));have q1:=Bx.mk fun dk osk=>Calls.regrown_of (hadd.out (grow (redrawn W dk) osk));refine zA 16 (by kernel_rfl) (by kernel_rfl) ?_
 simp only [List.take_succ_cons,List.take_zero,List.drop_succ_cons,List.drop_zero]
 repeat (first | go_big_quiet_step ((first | with_reducible exact q0.out _ _ | with_reducible exact q1.out _ _)) | quiet_step (first | with_reducible exact q0.out _ _ | with_reducible exact q1.out _ _))
 refine wpQuiet_nil ?_;rintro _ ⟨⟨dq,osq⟩,rfl⟩;have hb:=below_regrown W dq osq;replace hB:=hB.trans (hb.mono hB.size);clear cp0 cp1 cp2;clear q0 q1;replace kp:=kp.later hb;replace kr:=kr.later hb;replace hSz:=Nat.le_trans hSz hb.size;clear hb;generalize grow (redrawn W dq) osq=W1 at *;have cr0:=kr.cell 0 rfl;have fr0:=kr.frozen 0;have cr1:=kr.cell 1 rfl;have fr1:=kr.frozen 1;have cr2:=kr.cell 2 rfl;have fr2:=kr.frozen 2;have cr3:=kr.cell 3 rfl;have fr3:=kr.frozen 3;go_wp2_with fail;replace kr:=kr.put4 (.int .i64 px) (.int .i64 py) (.int .i64 (pz+m)) (.int .i64 (h:Int));exact bodyPost_ret (v:=.agg #[px,py,.int .i64 (pz+m),(h:Int)]) (results_cell_row rfl _ _ _ 52 #[px,py,.int .i64 (pz+m),(h:Int)] (0,0) _ rfl kr Tryz.underlying52 rfl (by kernel_rfl)) rfl ⟨rfl,zMr hB (by omega) _ _ _ _⟩
theorem zOE (h:Nat) (hh:h≤13) (px py pz m:Int) (hm:m=2 ^ h) (hx : -100000≤px∧px≤100000) (hy : -100000≤py∧py≤100000) (hz : -100000≤pz∧pz≤100000) (w:World) :
 Calls Tryz.prog 74 #[zH px py pz ((h+1:Nat):Int),(5:Int)] w fun e w'=>e = .returned (zH (px+m) py (pz+m) (h:Int))∧Below w.heap.size w w':=by
 have hp:=zZ (n:=h) (by omega)
 have hml:=zV (n:=h) (by omega)
 rw [←hm] at hml;have hp':IntKind.i64.wrap ((2:Int) ^ h)=m:=by rw [hp,hm]
 have hsub:IntKind.i64.wrap (((h+1:Nat):Int) - 1)=(h:Int):=by rw [show ((h+1:Nat):Int) - 1=(h:Int) by omega];exact IntWalk.i64_in _ (by omega)
 have b0:bits .and .i64 0 1=0:=by decide
 have b1:bits .and .i64 1 1=1:=by decide
 have b2:bits .and .i64 2 1=0:=by decide
 have b3:bits .and .i64 3 1=1:=by decide
 have b4:bits .and .i64 4 1=0:=by decide
 have b5:bits .and .i64 5 1=1:=by decide
 have b6:bits .and .i64 6 1=0:=by decide
 have b7:bits .and .i64 7 1=1:=by decide
 have w0:IntKind.i64.wrap 0=0:=by decide
 have hsc:=Bx.mk fun W=>zAO 1 0 1 m W;rw [Int.mul_zero,Int.mul_one] at hsc;rw [IntWalk.wrap64_in 0 (by omega),IntWalk.wrap64_in m (by omega)] at hsc
 have hadd:=Bx.mk fun W=>zu px py pz m 0 m W;rw [Int.add_zero py] at hadd;rw [IntWalk.wrap64_in (px+m) (by omega),IntWalk.wrap64_in py (by omega),IntWalk.wrap64_in (pz+m) (by omega)] at hadd
 clear hp hm hml hx hy hz;go_enter Tryz.func74,Tryz.ntmps74;go_wp2_with fail;generalize hW:World.alloc (World.alloc w _) _=W;have hSz:=sz2 hW;have hB:=bl2 hW;have kp:Bk W (w.heap.size) #[px,py,pz,((h+1:Nat):Int)] 52:=bk1 hW;have kr:Bk W (w.heap.size+1) #[(0:Int),(0:Int),(0:Int),(0:Int)] 52:=bk0 hW;clear hW;have cp3:=kp.cell 3 rfl;go_wp2_with fail;clear cp3;obtain ⟨cp0,cp1,cp2⟩:=kp.r3;have q0:=Bx.mk fun dk osk=>Calls.regrown_of (hsc.out (grow (redrawn W dk) osk));have q1:=Bx.mk fun dk osk=>Calls.regrown_of (hadd.out (grow (redrawn W dk) osk));refine zA 16 (by kernel_rfl) (by kernel_rfl) ?_
 simp only [List.take_succ_cons,List.take_zero,List.drop_succ_cons,List.drop_zero]
 repeat (first | go_big_quiet_step ((first | with_reducible exact q0.out _ _ | with_reducible exact q1.out _ _)) | quiet_step (first | with_reducible exact q0.out _ _ | with_reducible exact q1.out _ _))
 refine wpQuiet_nil ?_;rintro _ ⟨⟨dq,osq⟩,rfl⟩;have hb:=below_regrown W dq osq;replace hB:=hB.trans (hb.mono hB.size);clear cp0 cp1 cp2;clear q0 q1;replace kp:=kp.later hb;replace kr:=kr.later hb;replace hSz:=Nat.le_trans hSz hb.size;clear hb;generalize grow (redrawn W dq) osq=W1 at *;have cr0:=kr.cell 0 rfl;have fr0:=kr.frozen 0;have cr1:=kr.cell 1 rfl;have fr1:=kr.frozen 1;have cr2:=kr.cell 2 rfl;have fr2:=kr.frozen 2;have cr3:=kr.cell 3 rfl;have fr3:=kr.frozen 3;go_wp2_with fail;replace kr:=kr.put4 (.int .i64 (px+m)) (.int .i64 py) (.int .i64 (pz+m)) (.int .i64 (h:Int));exact bodyPost_ret (v:=.agg #[.int .i64 (px+m),py,.int .i64 (pz+m),(h:Int)]) (results_cell_row rfl _ _ _ 52 #[.int .i64 (px+m),py,.int .i64 (pz+m),(h:Int)] (0,0) _ rfl kr Tryz.underlying52 rfl (by kernel_rfl)) rfl ⟨rfl,zMr hB (by omega) _ _ _ _⟩
theorem zOD (h:Nat) (hh:h≤13) (px py pz m:Int) (hm:m=2 ^ h) (hx : -100000≤px∧px≤100000) (hy : -100000≤py∧py≤100000) (hz : -100000≤pz∧pz≤100000) (w:World) :
 Calls Tryz.prog 74 #[zH px py pz ((h+1:Nat):Int),(6:Int)] w fun e w'=>e = .returned (zH px (py+m) (pz+m) (h:Int))∧Below w.heap.size w w':=by
 have hp:=zZ (n:=h) (by omega)
 have hml:=zV (n:=h) (by omega)
 rw [←hm] at hml;have hp':IntKind.i64.wrap ((2:Int) ^ h)=m:=by rw [hp,hm]
 have hsub:IntKind.i64.wrap (((h+1:Nat):Int) - 1)=(h:Int):=by rw [show ((h+1:Nat):Int) - 1=(h:Int) by omega];exact IntWalk.i64_in _ (by omega)
 have b0:bits .and .i64 0 1=0:=by decide
 have b1:bits .and .i64 1 1=1:=by decide
 have b2:bits .and .i64 2 1=0:=by decide
 have b3:bits .and .i64 3 1=1:=by decide
 have b4:bits .and .i64 4 1=0:=by decide
 have b5:bits .and .i64 5 1=1:=by decide
 have b6:bits .and .i64 6 1=0:=by decide
 have b7:bits .and .i64 7 1=1:=by decide
 have w0:IntKind.i64.wrap 0=0:=by decide
 have hsc:=Bx.mk fun W=>zAO 0 1 1 m W;rw [Int.mul_zero,Int.mul_one] at hsc;rw [IntWalk.wrap64_in 0 (by omega),IntWalk.wrap64_in m (by omega)] at hsc
 have hadd:=Bx.mk fun W=>zu px py pz 0 m m W;rw [Int.add_zero px] at hadd;rw [IntWalk.wrap64_in px (by omega),IntWalk.wrap64_in (py+m) (by omega),IntWalk.wrap64_in (pz+m) (by omega)] at hadd
 clear hp hm hml hx hy hz;go_enter Tryz.func74,Tryz.ntmps74;go_wp2_with fail;generalize hW:World.alloc (World.alloc w _) _=W;have hSz:=sz2 hW;have hB:=bl2 hW;have kp:Bk W (w.heap.size) #[px,py,pz,((h+1:Nat):Int)] 52:=bk1 hW;have kr:Bk W (w.heap.size+1) #[(0:Int),(0:Int),(0:Int),(0:Int)] 52:=bk0 hW;clear hW;have cp3:=kp.cell 3 rfl;go_wp2_with fail;clear cp3;obtain ⟨cp0,cp1,cp2⟩:=kp.r3;have q0:=Bx.mk fun dk osk=>Calls.regrown_of (hsc.out (grow (redrawn W dk) osk));have q1:=Bx.mk fun dk osk=>Calls.regrown_of (hadd.out (grow (redrawn W dk) osk));refine zA 16 (by kernel_rfl) (by kernel_rfl) ?_
 simp only [List.take_succ_cons,List.take_zero,List.drop_succ_cons,List.drop_zero]
 repeat (first | go_big_quiet_step ((first | with_reducible exact q0.out _ _ | with_reducible exact q1.out _ _)) | quiet_step (first | with_reducible exact q0.out _ _ | with_reducible exact q1.out _ _))
 refine wpQuiet_nil ?_;rintro _ ⟨⟨dq,osq⟩,rfl⟩;have hb:=below_regrown W dq osq;replace hB:=hB.trans (hb.mono hB.size);clear cp0 cp1 cp2;clear q0 q1;replace kp:=kp.later hb;replace kr:=kr.later hb;replace hSz:=Nat.le_trans hSz hb.size;clear hb;generalize grow (redrawn W dq) osq=W1 at *;have cr0:=kr.cell 0 rfl;have fr0:=kr.frozen 0;have cr1:=kr.cell 1 rfl;have fr1:=kr.frozen 1;have cr2:=kr.cell 2 rfl;have fr2:=kr.frozen 2;have cr3:=kr.cell 3 rfl;have fr3:=kr.frozen 3;go_wp2_with fail;replace kr:=kr.put4 (.int .i64 px) (.int .i64 (py+m)) (.int .i64 (pz+m)) (.int .i64 (h:Int));exact bodyPost_ret (v:=.agg #[px,.int .i64 (py+m),.int .i64 (pz+m),(h:Int)]) (results_cell_row rfl _ _ _ 52 #[px,.int .i64 (py+m),.int .i64 (pz+m),(h:Int)] (0,0) _ rfl kr Tryz.underlying52 rfl (by kernel_rfl)) rfl ⟨rfl,zMr hB (by omega) _ _ _ _⟩
theorem zOC (h:Nat) (hh:h≤13) (px py pz m:Int) (hm:m=2 ^ h) (hx : -100000≤px∧px≤100000) (hy : -100000≤py∧py≤100000) (hz : -100000≤pz∧pz≤100000) (w:World) :
 Calls Tryz.prog 74 #[zH px py pz ((h+1:Nat):Int),(7:Int)] w fun e w'=>e = .returned (zH (px+m) (py+m) (pz+m) (h:Int))∧Below w.heap.size w w':=by
 have hp:=zZ (n:=h) (by omega)
 have hml:=zV (n:=h) (by omega)
 rw [←hm] at hml;have hp':IntKind.i64.wrap ((2:Int) ^ h)=m:=by rw [hp,hm]
 have hsub:IntKind.i64.wrap (((h+1:Nat):Int) - 1)=(h:Int):=by rw [show ((h+1:Nat):Int) - 1=(h:Int) by omega];exact IntWalk.i64_in _ (by omega)
 have b0:bits .and .i64 0 1=0:=by decide
 have b1:bits .and .i64 1 1=1:=by decide
 have b2:bits .and .i64 2 1=0:=by decide
 have b3:bits .and .i64 3 1=1:=by decide
 have b4:bits .and .i64 4 1=0:=by decide
 have b5:bits .and .i64 5 1=1:=by decide
 have b6:bits .and .i64 6 1=0:=by decide
 have b7:bits .and .i64 7 1=1:=by decide
 have w0:IntKind.i64.wrap 0=0:=by decide
 have hsc:=Bx.mk fun W=>zAO 1 1 1 m W;rw [Int.mul_one] at hsc;rw [IntWalk.wrap64_in m (by omega)] at hsc
 have hadd:=Bx.mk fun W=>zu px py pz m m m W;rw [IntWalk.wrap64_in (px+m) (by omega),IntWalk.wrap64_in (py+m) (by omega),IntWalk.wrap64_in (pz+m) (by omega)] at hadd
 clear hp hm hml hx hy hz;go_enter Tryz.func74,Tryz.ntmps74;go_wp2_with fail;generalize hW:World.alloc (World.alloc w _) _=W;have hSz:=sz2 hW;have hB:=bl2 hW;have kp:Bk W (w.heap.size) #[px,py,pz,((h+1:Nat):Int)] 52:=bk1 hW;have kr:Bk W (w.heap.size+1) #[(0:Int),(0:Int),(0:Int),(0:Int)] 52:=bk0 hW;clear hW;have cp3:=kp.cell 3 rfl;go_wp2_with fail;clear cp3;obtain ⟨cp0,cp1,cp2⟩:=kp.r3;have q0:=Bx.mk fun dk osk=>Calls.regrown_of (hsc.out (grow (redrawn W dk) osk));have q1:=Bx.mk fun dk osk=>Calls.regrown_of (hadd.out (grow (redrawn W dk) osk));refine zA 16 (by kernel_rfl) (by kernel_rfl) ?_
 simp only [List.take_succ_cons,List.take_zero,List.drop_succ_cons,List.drop_zero]
 repeat (first | go_big_quiet_step ((first | with_reducible exact q0.out _ _ | with_reducible exact q1.out _ _)) | quiet_step (first | with_reducible exact q0.out _ _ | with_reducible exact q1.out _ _))
 refine wpQuiet_nil ?_;rintro _ ⟨⟨dq,osq⟩,rfl⟩;have hb:=below_regrown W dq osq;replace hB:=hB.trans (hb.mono hB.size);clear cp0 cp1 cp2;clear q0 q1;replace kp:=kp.later hb;replace kr:=kr.later hb;replace hSz:=Nat.le_trans hSz hb.size;clear hb;generalize grow (redrawn W dq) osq=W1 at *;have cr0:=kr.cell 0 rfl;have fr0:=kr.frozen 0;have cr1:=kr.cell 1 rfl;have fr1:=kr.frozen 1;have cr2:=kr.cell 2 rfl;have fr2:=kr.frozen 2;have cr3:=kr.cell 3 rfl;have fr3:=kr.frozen 3;go_wp2_with fail;replace kr:=kr.put4 (.int .i64 (px+m)) (.int .i64 (py+m)) (.int .i64 (pz+m)) (.int .i64 (h:Int));exact bodyPost_ret (v:=.agg #[.int .i64 (px+m),.int .i64 (py+m),.int .i64 (pz+m),(h:Int)]) (results_cell_row rfl _ _ _ 52 #[.int .i64 (px+m),.int .i64 (py+m),.int .i64 (pz+m),(h:Int)] (0,0) _ rfl kr Tryz.underlying52 rfl (by kernel_rfl)) rfl ⟨rfl,zMr hB (by omega) _ _ _ _⟩
theorem zDl (h:Nat) (hh:h≤13) (px py pz:Int) (i:Nat) (hi:i<8) (hx : -100000≤px∧px≤100000) (hy : -100000≤py∧py≤100000) (hz : -100000≤pz∧pz≤100000) (w:World) :
 Calls Tryz.prog 74 #[zH px py pz ((h+1:Nat):Int),(i:Int)] w fun e w'=>e = .returned (zH (px+chX i (2 ^ h)) (py+chY i (2 ^ h)) (pz+chZ i (2 ^ h)) (h:Int))∧Below w.heap.size w w':=by
 have hc:i=0∨i=1∨i=2∨i=3∨i=4∨i=5∨i=6∨i=7:=by omega
 rcases hc with rfl | rfl | rfl | rfl | rfl | rfl | rfl | rfl
 · have:=zOJ h hh px py pz _ rfl hx hy hz w;simpa [chX,chY,chZ] using this
 · have:=zOI h hh px py pz _ rfl hx hy hz w;simpa [chX,chY,chZ] using this
 · have:=zOH h hh px py pz _ rfl hx hy hz w;simpa [chX,chY,chZ] using this
 · have:=zOG h hh px py pz _ rfl hx hy hz w;simpa [chX,chY,chZ] using this
 · have:=zOF h hh px py pz _ rfl hx hy hz w;simpa [chX,chY,chZ] using this
 · have:=zOE h hh px py pz _ rfl hx hy hz w;simpa [chX,chY,chZ] using this
 · have:=zOD h hh px py pz _ rfl hx hy hz w;simpa [chX,chY,chZ] using this
 · have:=zOC h hh px py pz _ rfl hx hy hz w;simpa [chX,chY,chZ] using this
theorem zBe (n:Nat) (hn:n≤14) (px py pz m:Int) (hm:m=2 ^ n) (hx : -100000≤px∧px≤100000) (hy : -100000≤py∧py≤100000) (hz : -100000≤pz∧pz≤100000) (w:World) :
 Calls Tryz.prog 36 #[zH px py pz (n:Int)] w fun e w'=>e = .returned (.agg #[px,py,pz,.int .i64 (px+m),.int .i64 (py+m),.int .i64 (pz+m)])∧Below w.heap.size w w':=by
 have hp:=zZ hn;have hml:=zV hn;rw [←hm] at hp hml;have hsh:=Bx.mk fun W=>zFK 0 0 0 m m m px py pz W
 rw [Int.zero_add,Int.zero_add,Int.zero_add,IntWalk.wrap64_in px (by omega),IntWalk.wrap64_in py (by omega),IntWalk.wrap64_in pz (by omega),Int.add_comm m px,Int.add_comm m py,Int.add_comm m pz,
  IntWalk.wrap64_in (px+m) (by omega),IntWalk.wrap64_in (py+m) (by omega),IntWalk.wrap64_in (pz+m) (by omega)] at hsh
 have hp':IntKind.i64.wrap ((2:Int) ^ n)=m:=by rw [←hm];exact hp
 clear hm hml hx hy hz;go_enter Tryz.func36,Tryz.ntmps36;go_wp2_with fail;generalize hW:World.alloc (World.alloc w _) _=W;have hSz:=sz2 hW;have hB:=bl2 hW;have kp:Bk W (w.heap.size) #[px,py,pz,(n:Int)] 52:=bk1 hW;have kr:Bk W (w.heap.size+1) #[(0:Int),(0:Int),(0:Int),(0:Int),(0:Int),(0:Int)] 25:=bk0 hW;clear hW;obtain ⟨cp0,cp1,cp2,cp3⟩:=kp.r4;have q0:=Bx.mk fun dk osk=>Calls.regrown_of (zEx m (grow (redrawn W dk) osk));have q1:=Bx.mk fun dk osk=>Calls.regrown_of (hsh.out (grow (redrawn W dk) osk));refine zA 7 (by kernel_rfl) (by kernel_rfl) ?_
 simp only [List.take_succ_cons,List.take_zero,List.drop_succ_cons,List.drop_zero]
 repeat (first | go_big_quiet_step ((first | with_reducible exact q0.out _ _ | with_reducible exact q1.out _ _)) | quiet_step (first | with_reducible exact q0.out _ _ | with_reducible exact q1.out _ _))
 refine wpQuiet_nil ?_;rintro _ ⟨⟨dq,osq⟩,rfl⟩;have hb:=below_regrown W dq osq;replace hB:=hB.trans (hb.mono hB.size);clear cp0 cp1 cp2 cp3;clear q0;clear q1;replace kp:=kp.later hb;replace kr:=kr.later hb;replace hSz:=Nat.le_trans hSz hb.size;clear hb;generalize grow (redrawn W dq) osq=W1 at *;have cr0:=kr.cell 0 rfl;have fr0:=kr.frozen 0;have cr1:=kr.cell 1 rfl;have fr1:=kr.frozen 1;have cr2:=kr.cell 2 rfl;have fr2:=kr.frozen 2;have cr3:=kr.cell 3 rfl;have fr3:=kr.frozen 3;have cr4:=kr.cell 4 rfl;have fr4:=kr.frozen 4;have cr5:=kr.cell 5 rfl;have fr5:=kr.frozen 5;go_wp2_with fail;replace kr:=kr.put6 (.int .i64 px) (.int .i64 py) (.int .i64 pz) (.int .i64 (px+m)) (.int .i64 (py+m)) (.int .i64 (pz+m));exact bodyPost_ret (v:=.agg #[px,py,pz,.int .i64 (px+m),.int .i64 (py+m),.int .i64 (pz+m)]) (results_cell_row rfl _ _ _ 25 #[px,py,pz,.int .i64 (px+m),.int .i64 (py+m),.int .i64 (pz+m)] (0,0) _ rfl kr Tryz.underlying25 rfl (by kernel_rfl)) rfl ⟨rfl,zMO hB (by omega) _ _ _ _ _ _⟩
def zKT:Tr→List Int
 | .uni c=>List.replicate 64 c
 | .brick l=>l
 | .node _ _=>[]
def zAE:Tr→Int
 | .uni _=>1
 | .brick _=>2
 | .node _ _=>3
theorem zo (Far:Nat→Prop) (sb:Nat) (most:Int) (ts:List Tr) (t:Tr) (ht:t∈ts) (hlen:ts.length≤4194304) (w:World) (hS:StoreIs w Far sb most ts) :
 Calls Tryz.prog 24 #[.pointer (some ⟨sb,0,none⟩),(idT ts t:Int)] w fun e w'=>e = .returned (.int .i64 (zAE t))∧w=w' :=
 zLm Far sb most ts _ t (zB1 ht) (zAE t) (by cases t <;> rfl) hlen w hS
noncomputable abbrev zDd (ts:List Tr) (t:Tr):Value:=.agg #[(idT ts (t.kid 0):Int),(idT ts (t.kid 1):Int),(idT ts (t.kid 2):Int),(idT ts (t.kid 3):Int),(idT ts (t.kid 4):Int),(idT ts (t.kid 5):Int),(idT ts (t.kid 6):Int),(idT ts (t.kid 7):Int)]
theorem zBE (Far:Nat→Prop) (sb:Nat) (most:Int) (ts:List Tr) (d:Nat) (ch:Fin 8→Tr) (ht:Tr.node d ch∈ts) (w:World) (hS:StoreIs w Far sb most ts) :
 Calls Tryz.prog 49 #[.pointer (some ⟨sb,0,none⟩),(idT ts (.node d ch):Int)] w fun e w'=>e = .returned (zDd ts (.node d ch))∧Below w.heap.size w w' :=
 zBd Far sb most ts _ (.node d ch) (zB1 ht) _ _ _ _ _ _ _ _ (fun j u hu=>by
  match j with
  | 0=>simp at hu;subst hu;rfl
  | 1=>simp at hu;subst hu;rfl
  | 2=>simp at hu;subst hu;rfl
  | 3=>simp at hu;subst hu;rfl
  | 4=>simp at hu;subst hu;rfl
  | 5=>simp at hu;subst hu;rfl
  | 6=>simp at hu;subst hu;rfl
  | 7=>simp at hu;subst hu;rfl
  | j+8=>simp at hu) w hS
theorem bk8 {w:World} {g:Nat} {x0 x1 x2 x3 x4 x5 x6 x7:Value} {t:TypeId} (h:Bk w g #[x0,x1,x2,x3,x4,x5,x6,x7] t) (a b c d e f i j:Value):Bk ((((((((w.setCell ⟨g,0,none⟩ a).setCell ⟨g,1,none⟩ b).setCell ⟨g,2,none⟩ c).setCell ⟨g,3,none⟩ d).setCell ⟨g,4,none⟩ e).setCell ⟨g,5,none⟩ f).setCell ⟨g,6,none⟩ i).setCell ⟨g,7,none⟩ j) g #[a,b,c,d,e,f,i,j] t:=by
 simpa using (((((((h.set 0 a).set 1 b).set 2 c).set 3 d).set 4 e).set 5 f).set 6 i).set 7 j
theorem zJt (Far:Nat→Prop) (sb:Nat) (most:Int) (ts:List Tr) (d:Nat) (ch:Fin 8→Tr) (ht:Tr.node d ch∈ts) (hlen:ts.length≤4194304) (w:World) (hS:StoreIs w Far sb most ts) :
 Calls Tryz.prog 73 #[.pointer (some ⟨sb,0,none⟩),(idT ts (.node d ch):Int)] w fun e w'=>e = .returned (zDd ts (.node d ch))∧Below w.heap.size w w':=by
 have hk:=Bx.mk fun W (hs:StoreIs W Far sb most ts)=>zo Far sb most ts _ ht hlen W hs;have hc:=Bx.mk fun W (hs:StoreIs W Far sb most ts)=>zBE Far sb most ts d ch ht W hs;have HS:=Bx.mk hS;have t1:((3:Int) == 3)=true:=by decide
 unfold zDd at hc;unfold zDd;generalize (idT ts ((Tr.node d ch).kid 0):Int)=x0 at *;generalize (idT ts ((Tr.node d ch).kid 1):Int)=x1 at *;generalize (idT ts ((Tr.node d ch).kid 2):Int)=x2 at *;generalize (idT ts ((Tr.node d ch).kid 3):Int)=x3 at *;generalize (idT ts ((Tr.node d ch).kid 4):Int)=x4 at *;generalize (idT ts ((Tr.node d ch).kid 5):Int)=x5 at *;generalize (idT ts ((Tr.node d ch).kid 6):Int)=x6 at *;generalize (idT ts ((Tr.node d ch).kid 7):Int)=x7 at *;generalize (idT ts (Tr.node d ch):Int)=id at *;clear hS ht hlen;go_enter Tryz.func73,Tryz.ntmps73;go_wp2_with fail;generalize hW:World.alloc w _=W;have hSz:=sz1 hW;have hB:=bl1 hW;have kr:Bk W (w.heap.size) #[(0:Int),(0:Int),(0:Int),(0:Int),(0:Int),(0:Int),(0:Int),(0:Int)] 98:=bk0 hW;clear hW;refine (hk.out _ (HS.out.later hB)).mono ?_;rintro _ _ ⟨rfl,rfl⟩;go_wp2_with fail;refine (hc.out _ (HS.out.later hB)).mono ?_;rintro _ w2 ⟨rfl,hb⟩;replace hB:=hB.trans (hb.mono hB.size);replace kr:=kr.later hb;clear hb;obtain ⟨cr0,cr1,cr2,cr3,cr4,cr5,cr6,cr7⟩:=kr.c8;obtain ⟨fr0,fr1,fr2,fr3,fr4,fr5,fr6,fr7⟩:=kr.f8;go_wp2_with fail;replace kr:=bk8 kr (.int .i64 x0) (.int .i64 x1) (.int .i64 x2) (.int .i64 x3) (.int .i64 x4) (.int .i64 x5) (.int .i64 x6) (.int .i64 x7);exact bodyPost_ret (v:=.agg #[x0,x1,x2,x3,x4,x5,x6,x7]) (results_cell_row rfl _ _ _ 98 #[x0,x1,x2,x3,x4,x5,x6,x7] (0,0) _ rfl kr Tryz.underlying98 rfl (by kernel_rfl)) rfl ⟨rfl,blw8 hB (by omega) _ _ _ _ _ _ _ _⟩
theorem zFj (Far:Nat→Prop) (sb:Nat) (most:Int) (ts:List Tr) (t:Tr) (k:Int) (hk3:zAE t=k) (hne:(k == 3)=false) (ht:t∈ts) (hlen:ts.length≤4194304) (w:World) (hS:StoreIs w Far sb most ts) :
 Calls Tryz.prog 73 #[.pointer (some ⟨sb,0,none⟩),(idT ts t:Int)] w fun e w'=>e = .returned (.agg #[(idT ts t:Int),(idT ts t:Int),(idT ts t:Int),(idT ts t:Int),(idT ts t:Int),(idT ts t:Int),(idT ts t:Int),(idT ts t:Int)])∧Below w.heap.size w w':=by
 have hk:=Bx.mk fun W (hs:StoreIs W Far sb most ts)=>zo Far sb most ts _ ht hlen W hs;rw [hk3] at hk;have HS:=Bx.mk hS;generalize (idT ts t:Int)=id at *;clear hS ht hlen hk3;go_enter Tryz.func73,Tryz.ntmps73;go_wp2_with fail;generalize hW:World.alloc w _=W;have hSz:=sz1 hW;have hB:=bl1 hW;have kr:Bk W (w.heap.size) #[(0:Int),(0:Int),(0:Int),(0:Int),(0:Int),(0:Int),(0:Int),(0:Int)] 98:=bk0 hW;clear hW;refine (hk.out _ (HS.out.later hB)).mono ?_;rintro _ _ ⟨rfl,rfl⟩;obtain ⟨cr0,cr1,cr2,cr3,cr4,cr5,cr6,cr7⟩:=kr.c8;obtain ⟨fr0,fr1,fr2,fr3,fr4,fr5,fr6,fr7⟩:=kr.f8;go_wp2_with fail;replace kr:=bk8 kr (.int .i64 id) (.int .i64 id) (.int .i64 id) (.int .i64 id) (.int .i64 id) (.int .i64 id) (.int .i64 id) (.int .i64 id);exact bodyPost_ret (v:=.agg #[id,id,id,id,id,id,id,id]) (results_cell_row rfl _ _ _ 98 #[id,id,id,id,id,id,id,id] (0,0) _ rfl kr Tryz.underlying98 rfl (by kernel_rfl)) rfl ⟨rfl,blw8 hB (by omega) _ _ _ _ _ _ _ _⟩
theorem zEl (Far:Nat→Prop) (sb:Nat) (most:Int) (ts:List Tr) (t:Tr) (ht:t∈ts) (hlen:ts.length≤4194304) (w:World) (hS:StoreIs w Far sb most ts) :
 Calls Tryz.prog 73 #[.pointer (some ⟨sb,0,none⟩),(idT ts t:Int)] w fun e w'=>e = .returned (zDd ts t)∧Below w.heap.size w w':=by
 cases t with
 | uni c=>exact zFj Far sb most ts (.uni c) 1 rfl rfl ht hlen w hS
 | brick l=>exact zFj Far sb most ts (.brick l) 2 rfl rfl ht hlen w hS
 | node d ch=>exact zJt Far sb most ts d ch ht hlen w hS
theorem zIj (w:World) (Far:Nat→Prop) (sb:Nat) (most:Int) (ts:List Tr) (c:Int) (ht:Tr.uni c∈ts) (hG:Good ts) (hlen:ts.length≤1000000000000) (hS:StoreIs w Far sb most ts) :
 Calls Tryz.prog 94 #[.pointer (some ⟨sb,0,none⟩),(idT ts (.uni c):Int)] w fun e w' => ∃ v,e = .returned v∧Own w' w.heap.size 3 .i64 v (List.replicate 64 c)∧Below w.heap.size w w':=by
 have hC:=Bx.mk fun W (hs:StoreIs W Far sb most ts)=>zAt W Far sb most ts (.uni c) ht hG hlen hs;have hR:=Bx.mk fun W ad cap=>zCd ad cap c 64 (by decide) (by decide) W
 have HS:=Bx.mk hS;generalize (idT ts (Tr.uni c):Int)=id at *;clear hS ht hG hlen;go_enter Tryz.func94,Tryz.ntmps94;go_wp2_with fail;refine (hC.out _ HS.out).mono ?_;rintro _ w1 ⟨v,rfl,hv,hB⟩;obtain ⟨a,cap,rfl,hsl⟩:=hv.form;clear hv hsl;have t1:(((([c]:List Int).length:Nat):Int) != 1)=false:=by simp
 go_wp2_with fail;refine (hC.out _ (HS.out.later hB)).mono ?_;rintro _ w2 ⟨v,rfl,hv,hb⟩;replace hB:=hB.trans (hb.mono hB.size);obtain ⟨a2,cap2,rfl,hsl⟩:=hv.form;obtain ⟨b,off,rfl,hc0⟩:=hsl 0 c rfl;have hR2:=Bx.mk (hR.out w2 ⟨b,off,none⟩ cap2 hc0);clear hv hb hsl hc0 t1;go_wp2_with fail;refine hR2.out.mono ?_;rintro _ w3 ⟨v3,rfl,hv,hb⟩;replace hB':=hB.trans (hb.mono hB.size);have hv2:=Bx.mk (hv.base hB.size);clear hv hb hB;go_wp2_with fail;go_ret;exact ⟨_,rfl,hv2.out,hB'⟩
theorem zIk (w:World) (Far:Nat→Prop) (sb:Nat) (most:Int) (ts:List Tr) (l:List Int) (hl:l.length=64) (ht:Tr.brick l∈ts) (hG:Good ts) (hlen:ts.length≤1000000000000) (hS:StoreIs w Far sb most ts) :
 Calls Tryz.prog 94 #[.pointer (some ⟨sb,0,none⟩),(idT ts (.brick l):Int)] w fun e w' => ∃ v,e = .returned v∧Own w' w.heap.size 3 .i64 v l∧Below w.heap.size w w':=by
 have hC:=Bx.mk fun W (hs:StoreIs W Far sb most ts)=>zAt W Far sb most ts (.brick l) ht hG hlen hs;have HS:=Bx.mk hS;generalize (idT ts (Tr.brick l):Int)=id at *;clear hS ht hG hlen;go_enter Tryz.func94,Tryz.ntmps94;go_wp2_with fail;refine (hC.out _ HS.out).mono ?_;rintro _ w1 ⟨v,rfl,hv,hB⟩;have hf:=hv.form;have hv:=Bx.mk hv;obtain ⟨a,cap,rfl,hsl⟩:=hf;rw [show (zNT (.brick l)).length=64 from hl] at hv ⊢;clear hsl;have t1:(((64:Nat):Int) != 1)=true:=by decide
 go_wp2_with fail;go_ret;exact ⟨_,rfl,hv.out,hB⟩
theorem zIl (w:World) (Far:Nat→Prop) (sb:Nat) (most:Int) (ts:List Tr) (t:Tr) (hd : ∀ d ch,t ≠ .node d ch) (ht:t∈ts) (hW:Tr.WF t) (hG:Good ts) (hlen:ts.length≤1000000000000) (hS:StoreIs w Far sb most ts) :
 Calls Tryz.prog 94 #[.pointer (some ⟨sb,0,none⟩),(idT ts t:Int)] w fun e w' => ∃ v,e = .returned v∧Own w' w.heap.size 3 .i64 v (zKT t)∧Below w.heap.size w w':=by
 cases t with
 | uni c=>exact zIj w Far sb most ts c ht hG hlen hS
 | brick l=>exact zIk w Far sb most ts l ((hG.bytes _ ht).bricks l rfl).1 ht hG hlen hS
 | node d ch=>exact absurd rfl (hd d ch)
abbrev zLK (i:Int) (b:Bool) (e:Int):Ending:=.returned (.tuple #[i,.bool b,e])
abbrev buildV (pe ps pb:Nat):Value:=.func (.func 93) #[] #[.pointer (some ⟨pe,0,none⟩),.pointer (some ⟨ps,0,none⟩),.pointer (some ⟨pb,0,none⟩)]
structure ECtx (w:World) (Far:Nat→Prop) (pe ps pb sb:Nat) (nf bf:Value) (P:World→Prop):Prop where
 ke:Bk w pe #[nf,bf] 91
 kr:Bk w ps #[.pointer (some ⟨sb,0,none⟩)] 33
 kb:Bk w pb #[buildV pe ps pb] 138
 fe:Far pe
 fr:Far ps
 fb:Far pb
 hp:P w
abbrev zDv (Far:Nat→Prop) (P:World→Prop):Prop := ∀ a b,Keeps Far a b→P a→P b
theorem Bk.keeps {w w':World} {Far:Nat→Prop} {g:Nat} {cs:Array Value} {t:TypeId} (h:Bk w g cs t) (hk:Keeps Far w w') (hf:Far g):Bk w' g cs t:=by
 unfold Bk;rw [hk.block g hf h.lt];exact h
theorem ECtx.far {w w':World} {Far:Nat→Prop} {pe ps pb sb:Nat} {nf bf:Value} {P:World→Prop} (h:ECtx w Far pe ps pb sb nf bf P) (HP:zDv Far P) (hk:Keeps Far w w'):ECtx w' Far pe ps pb sb nf bf P :=
 ⟨h.ke.keeps hk h.fe,h.kr.keeps hk h.fr,h.kb.keeps hk h.fb,h.fe,h.fr,h.fb,HP _ _ hk h.hp⟩
theorem ECtx.wider {w:World} {Far Far':Nat→Prop} {pe ps pb sb:Nat} {nf bf:Value} {P:World→Prop} (h:ECtx w Far pe ps pb sb nf bf P) (hf : ∀ k,Far k→Far' k):ECtx w Far' pe ps pb sb nf bf P :=
 ⟨h.ke,h.kr,h.kb,hf _ h.fe,hf _ h.fr,hf _ h.fb,h.hp⟩
structure NodeSays (Far:Nat→Prop) (sb:Nat) (most:Int) (us:List Tr) (t':Tr) (U:Prop) (w:World) (e:Ending) (w':World):Prop where
 keeps:Keeps Far w w'
 way:(Tr.Fits most us (Tr.add t' us)∧e=zLK (idT (Tr.add t' us) t':Int) true 0∧StoreIs w' Far sb most (Tr.add t' us)) ∨
  (¬Tr.Fits most us (Tr.add t' us)∧(∃ kn,e=zLK 0 kn 14) ∧ ∃ vs,Good vs∧us <+: vs∧vs <+: Tr.add t' us∧StoreIs w' Far sb most vs) ∨
  (U∧(∃ i,e=zLK i false 0)∧Below w.heap.size w w')
def zDx (t:Tr) (j:Nat):Tr:=if h:j<8 then t.kid ⟨j,h⟩ else t
theorem zBI (t:Tr) {j:Nat} (h:j<8):zDx t j=t.kid ⟨j,h⟩:=by unfold zDx;rw [dif_pos h]
theorem zNp {ts:List Tr} (hG:Good ts) {t:Tr} (ht:t∈ts) (j:Nat):zDx t j∈ts:=by
 unfold zDx;split
 · exact zHB hG ht _
 · exact ht
structure EI (Far:Nat→Prop) (sb:Nat) (most:Int) (ts:List Tr) (t0:Tr) (ch:Nat→Tr) (gk:Nat) (ax ay az l:Int) (w:World) (k:Nat) (wr:World):Prop where
 store:StoreIs wr (fun x=>Far x∨(w.heap.size≤x∧x≤gk)) sb most (Tr.addK (fun i=>ch i.val) k ts)
 fits:Tr.Fits most ts (Tr.addK (fun i=>ch i.val) k ts)
 row:wr.rowIs gk 98 8 (fun j=>.int .i64 (if j<k then (idT (Tr.addK (fun i=>ch i.val) k ts) (ch j):Int) else (idT ts (zDx t0 j):Int)))
 kp:Bk wr w.heap.size #[ax,ay,az,l] 52
 keeps:Keeps Far w wr
 size:gk<wr.heap.size
theorem zN6 {w wr w4 w5:World} {Far:Nat→Prop} {sb:Nat} {most:Int} {ts:List Tr} {t0:Tr} {ch:Nat→Tr} {gk k:Nat} {ax ay az l:Int} (HF : ∀ k,Far k→k<w.heap.size) (hk:k<8) (hgk:w.heap.size<gk)
 (hI:EI Far sb most ts t0 ch gk ax ay az l w k wr) (hb:Below wr.heap.size wr w4) (hkp:Keeps (fun x=>Far x∨(w.heap.size≤x∧x≤gk)) w4 w5)
 (hf:Tr.Fits most (Tr.addK (fun i=>ch i.val) k ts) (Tr.addK (fun i=>ch i.val) (k+1) ts)) (hs:StoreIs w5 (fun x=>Far x∨(w.heap.size≤x∧x≤gk)) sb most (Tr.addK (fun i=>ch i.val) (k+1) ts)) :
 EI Far sb most ts t0 ch gk ax ay az l w (k+1) (w5.setCell ⟨gk,k,none⟩ (.int .i64 (idT (Tr.addK (fun i=>ch i.val) (k+1) ts) (ch k):Int))):=by
 have hg:=zS w5 ⟨gk,k,none⟩ (.int .i64 (idT (Tr.addK (fun i=>ch i.val) (k+1) ts) (ch k):Int));have hp1:=Tr.addK_prefix (fun i:Fin 8=>ch i.val) k (by omega) ts
 have hp2:Tr.addK (fun i:Fin 8=>ch i.val) k ts <+: Tr.addK (fun i:Fin 8=>ch i.val) (k+1) ts:=zA4 (by omega) (by omega)
 have hfar : ∀ x,Far x→gk ≠ x:=fun x hx e=>by have:=HF x hx;omega
 have hfg:(fun x=>Far x∨(w.heap.size≤x∧x≤gk)) gk:=.inr ⟨by omega,Nat.le_refl _⟩
 refine ⟨hs.apart hg hfg,Tr.fits_trans hp1 hp2 hI.fits hf,?_,?_,?_,?_⟩
 · refine ((zAQ (hI.row.of_block (hb.block gk hI.size)) hkp hfg).set k _).congr (fun j hj=>?_);by_cases e:j=k
   · subst e;rw [if_pos rfl,if_pos (by omega)]
   · rw [if_neg e];by_cases h5:j<k
     · rw [if_pos h5,if_pos (by omega)]
       have hm:=Tr.addK_mem (fun i:Fin 8=>ch i.val) ts k (by omega) ⟨j,hj⟩ h5
       have:=zi hp2 hm;simp only at this;rw [this]
     · rw [if_neg h5,if_neg (by omega)]
 · exact ((hI.kp.later hb).keeps hkp (.inr ⟨Nat.le_refl _,by omega⟩)).grownO hg (by simp;omega)
 · exact ((hI.keeps.trans (Keeps.below hb)).trans (hkp.less (fun k hk=>.inl hk))).trans (Keeps.grown hg (fun g e hx=>by injection e with e;exact hfar _ hx e))
 · have h1:=hb.size;have h2:=hkp.size;have h3:=hI.size;rw [zq];omega
theorem zM6 {w:World} {k:IntKind} {g r off:Nat} {xs:List Int} (h:Sl w k (some ⟨g,off,none⟩) xs) (hne:g ≠ r) (x0 x1 x2 x3 x4 x5 x6:Value) :
 Sl (((((((w.setCell ⟨r,0,none⟩ x0).setCell ⟨r,1,none⟩ x1).setCell ⟨r,2,none⟩ x2).setCell ⟨r,3,none⟩ x3).setCell ⟨r,4,none⟩ x4).setCell ⟨r,5,none⟩ x5).setCell ⟨r,6,none⟩ x6) k (some ⟨g,off,none⟩) xs:=by
 have one : ∀ (w:World) (j:Nat) (x:Value),Sl w k (some ⟨g,off,none⟩) xs→Sl (w.setCell ⟨r,j,none⟩ x) k (some ⟨g,off,none⟩) xs:=fun w j x h=>h.grown (zS w ⟨r,j,none⟩ x) hne;exact one _ _ _ (one _ _ _ (one _ _ _ (one _ _ _ (one _ _ _ (one _ _ _ (one _ _ _ h))))))
end
end Go.Proofs.YtfcbajmjaifjlaaGreatDoor
