/- Tsm: joined by program, for one claim. -/
import Derived.Test.YtfcbajmjaifjlaaGreatMr
import Derived.Test.YtfcbajmjaifjlaaGreatM18
import Derived.Test.YtfcbajmjaifjlaaGreatM11
import Derived.Test.YtfcbajmjaifjlaaGreatM8
set_option linter.unusedVariables false
set_option linter.unusedSimpArgs false
section
namespace Go.Proofs.YtfcbajmjaifjlaaGreat
open Go.RowKit Go.Sort Go.Maps
open Oct
theorem Bk.put4 {w:World} {g:Nat} {x y z u:Value} {t:TypeId} (h:Bk w g #[x,y,z,u] t) (a b c d:Value):Bk ((((w.setCell ⟨g,0,none⟩ a).setCell ⟨g,1,none⟩ b).setCell ⟨g,2,none⟩ c).setCell ⟨g,3,none⟩ d) g #[a,b,c,d] t:=by
 simpa using (((h.set 0 a).set 1 b).set 2 c).set 3 d
theorem blw4 {B:Nat} {a w:World} (h:Below B a w) {g:Nat} (hg:B≤g) (x y z u:Value):Below B a ((((w.setCell ⟨g,0,none⟩ x).setCell ⟨g,1,none⟩ y).setCell ⟨g,2,none⟩ z).setCell ⟨g,3,none⟩ u) :=
 (((h.setCell hg _).setCell hg _).setCell hg _).setCell hg _
abbrev cubeV (x y z l:Int):Value:=.agg #[x,y,z,l]
theorem whole_cube_any (n:Int) (w:World) :
 Calls Tryz.prog 70 #[n] w fun e w'=>e = .returned (cubeV 0 0 0 n)∧Below w.heap.size w w':=by
 go_enter Tryz.func70,Tryz.ntmps70
 go_wp2
 generalize hW:World.alloc w _=W
 have hSz:=sz1 hW
 have hB:=bl1 hW
 have kr:Bk W (w.heap.size) #[(0:Int),(0:Int),(0:Int),n] 39:=bk0 hW
 clear hW
 exact bodyPost_ret (v:=cubeV 0 0 0 n) (results_cell_row rfl _ _ _ 39 #[(0:Int),(0:Int),(0:Int),n] (0,0) _ rfl kr Tryz.underlying39 rfl (by kernel_rfl)) rfl ⟨rfl,hB⟩
theorem child_0 (h:Nat) (hh:h≤13) (px py pz m:Int) (hm:m=2 ^ h) (hx : -100000≤px∧px≤100000) (hy : -100000≤py∧py≤100000) (hz : -100000≤pz∧pz≤100000) (w:World) :
 Calls Tryz.prog 69 #[cubeV px py pz ((h+1:Nat):Int),(0:Int)] w fun e w'=>e = .returned (cubeV px py pz (h:Int))∧Below w.heap.size w w':=by
 have hp:=pow_wrap (n:=h) (by omega)
 have hml:=pow_le (n:=h) (by omega)
 rw [←hm] at hml
 have hp':IntKind.i64.wrap ((2:Int) ^ h)=m:=by rw [hp,hm]
 have hsub:IntKind.i64.wrap (((h+1:Nat):Int) - 1)=(h:Int):=by rw [show ((h+1:Nat):Int) - 1=(h:Int) by omega];exact IntWalk.i64_in _ (by omega)
 have b0:bits .and .i64 0 1=0:=by decide
 have b1:bits .and .i64 1 1=1:=by decide
 have b2:bits .and .i64 2 1=0:=by decide
 have b3:bits .and .i64 3 1=1:=by decide
 have b4:bits .and .i64 4 1=0:=by decide
 have b5:bits .and .i64 5 1=1:=by decide
 have b6:bits .and .i64 6 1=0:=by decide
 have b7:bits .and .i64 7 1=1:=by decide
 have w0:IntKind.i64.wrap 0=0:=by decide
 have hsc:=Bx.mk fun W=>scale_any 0 0 0 m W
 rw [Int.mul_zero] at hsc
 rw [IntWalk.wrap64_in 0 (by omega)] at hsc
 have hadd:=Bx.mk fun W=>add_any px py pz 0 0 0 W
 rw [Int.add_zero px,Int.add_zero py,Int.add_zero pz] at hadd
 rw [IntWalk.wrap64_in px (by omega),IntWalk.wrap64_in py (by omega),IntWalk.wrap64_in pz (by omega)] at hadd
 clear hp hm hml hx hy hz
 go_enter Tryz.func69,Tryz.ntmps69
 go_wp2_with fail
 generalize hW:World.alloc (World.alloc w _) _=W
 have hSz:=sz2 hW
 have hB:=bl2 hW
 have kp:Bk W (w.heap.size) #[px,py,pz,((h+1:Nat):Int)] 39:=bk1 hW
 have kr:Bk W (w.heap.size+1) #[(0:Int),(0:Int),(0:Int),(0:Int)] 39:=bk0 hW
 clear hW
 have cp3:=kp.cell 3 rfl
 go_wp2_with fail
 clear cp3
 obtain ⟨cp0,cp1,cp2⟩:=kp.r3
 have q0:=Bx.mk fun dk osk=>Calls.regrown_of (hsc.out (grow (redrawn W dk) osk))
 have q1:=Bx.mk fun dk osk=>Calls.regrown_of (hadd.out (grow (redrawn W dk) osk))
 refine wp_region_head_below 16 (by kernel_rfl) (by kernel_rfl) ?_
 simp only [List.take_succ_cons,List.take_zero,List.drop_succ_cons,List.drop_zero]
 repeat (first | go_big_quiet_step ((first | with_reducible exact q0.out _ _ | with_reducible exact q1.out _ _)) | quiet_step (first | with_reducible exact q0.out _ _ | with_reducible exact q1.out _ _))
 refine wpQuiet_nil ?_
 rintro _ ⟨⟨dq,osq⟩,rfl⟩
 have hb:=below_regrown W dq osq
 replace hB:=hB.trans (hb.mono hB.size)
 clear cp0 cp1 cp2
 clear q0 q1
 replace kp:=kp.later hb
 replace kr:=kr.later hb
 replace hSz:=Nat.le_trans hSz hb.size
 clear hb
 generalize grow (redrawn W dq) osq=W1 at *
 have cr0:=kr.cell 0 rfl
 have fr0:=kr.frozen 0
 have cr1:=kr.cell 1 rfl
 have fr1:=kr.frozen 1
 have cr2:=kr.cell 2 rfl
 have fr2:=kr.frozen 2
 have cr3:=kr.cell 3 rfl
 have fr3:=kr.frozen 3
 go_wp2_with fail
 replace kr:=kr.put4 (.int .i64 px) (.int .i64 py) (.int .i64 pz) (.int .i64 (h:Int))
 exact bodyPost_ret (v:=.agg #[px,py,pz,(h:Int)]) (results_cell_row rfl _ _ _ 39 #[px,py,pz,(h:Int)] (0,0) _ rfl kr Tryz.underlying39 rfl (by kernel_rfl)) rfl ⟨rfl,blw4 hB (by omega) _ _ _ _⟩
theorem child_1 (h:Nat) (hh:h≤13) (px py pz m:Int) (hm:m=2 ^ h) (hx : -100000≤px∧px≤100000) (hy : -100000≤py∧py≤100000) (hz : -100000≤pz∧pz≤100000) (w:World) :
 Calls Tryz.prog 69 #[cubeV px py pz ((h+1:Nat):Int),(1:Int)] w fun e w'=>e = .returned (cubeV (px+m) py pz (h:Int))∧Below w.heap.size w w':=by
 have hp:=pow_wrap (n:=h) (by omega)
 have hml:=pow_le (n:=h) (by omega)
 rw [←hm] at hml
 have hp':IntKind.i64.wrap ((2:Int) ^ h)=m:=by rw [hp,hm]
 have hsub:IntKind.i64.wrap (((h+1:Nat):Int) - 1)=(h:Int):=by rw [show ((h+1:Nat):Int) - 1=(h:Int) by omega];exact IntWalk.i64_in _ (by omega)
 have b0:bits .and .i64 0 1=0:=by decide
 have b1:bits .and .i64 1 1=1:=by decide
 have b2:bits .and .i64 2 1=0:=by decide
 have b3:bits .and .i64 3 1=1:=by decide
 have b4:bits .and .i64 4 1=0:=by decide
 have b5:bits .and .i64 5 1=1:=by decide
 have b6:bits .and .i64 6 1=0:=by decide
 have b7:bits .and .i64 7 1=1:=by decide
 have w0:IntKind.i64.wrap 0=0:=by decide
 have hsc:=Bx.mk fun W=>scale_any 1 0 0 m W
 rw [Int.mul_zero,Int.mul_one] at hsc
 rw [IntWalk.wrap64_in 0 (by omega),IntWalk.wrap64_in m (by omega)] at hsc
 have hadd:=Bx.mk fun W=>add_any px py pz m 0 0 W
 rw [Int.add_zero py,Int.add_zero pz] at hadd
 rw [IntWalk.wrap64_in (px+m) (by omega),IntWalk.wrap64_in py (by omega),IntWalk.wrap64_in pz (by omega)] at hadd
 clear hp hm hml hx hy hz
 go_enter Tryz.func69,Tryz.ntmps69
 go_wp2_with fail
 generalize hW:World.alloc (World.alloc w _) _=W
 have hSz:=sz2 hW
 have hB:=bl2 hW
 have kp:Bk W (w.heap.size) #[px,py,pz,((h+1:Nat):Int)] 39:=bk1 hW
 have kr:Bk W (w.heap.size+1) #[(0:Int),(0:Int),(0:Int),(0:Int)] 39:=bk0 hW
 clear hW
 have cp3:=kp.cell 3 rfl
 go_wp2_with fail
 clear cp3
 obtain ⟨cp0,cp1,cp2⟩:=kp.r3
 have q0:=Bx.mk fun dk osk=>Calls.regrown_of (hsc.out (grow (redrawn W dk) osk))
 have q1:=Bx.mk fun dk osk=>Calls.regrown_of (hadd.out (grow (redrawn W dk) osk))
 refine wp_region_head_below 16 (by kernel_rfl) (by kernel_rfl) ?_
 simp only [List.take_succ_cons,List.take_zero,List.drop_succ_cons,List.drop_zero]
 repeat (first | go_big_quiet_step ((first | with_reducible exact q0.out _ _ | with_reducible exact q1.out _ _)) | quiet_step (first | with_reducible exact q0.out _ _ | with_reducible exact q1.out _ _))
 refine wpQuiet_nil ?_
 rintro _ ⟨⟨dq,osq⟩,rfl⟩
 have hb:=below_regrown W dq osq
 replace hB:=hB.trans (hb.mono hB.size)
 clear cp0 cp1 cp2
 clear q0 q1
 replace kp:=kp.later hb
 replace kr:=kr.later hb
 replace hSz:=Nat.le_trans hSz hb.size
 clear hb
 generalize grow (redrawn W dq) osq=W1 at *
 have cr0:=kr.cell 0 rfl
 have fr0:=kr.frozen 0
 have cr1:=kr.cell 1 rfl
 have fr1:=kr.frozen 1
 have cr2:=kr.cell 2 rfl
 have fr2:=kr.frozen 2
 have cr3:=kr.cell 3 rfl
 have fr3:=kr.frozen 3
 go_wp2_with fail
 replace kr:=kr.put4 (.int .i64 (px+m)) (.int .i64 py) (.int .i64 pz) (.int .i64 (h:Int))
 exact bodyPost_ret (v:=.agg #[.int .i64 (px+m),py,pz,(h:Int)]) (results_cell_row rfl _ _ _ 39 #[.int .i64 (px+m),py,pz,(h:Int)] (0,0) _ rfl kr Tryz.underlying39 rfl (by kernel_rfl)) rfl ⟨rfl,blw4 hB (by omega) _ _ _ _⟩
theorem child_2 (h:Nat) (hh:h≤13) (px py pz m:Int) (hm:m=2 ^ h) (hx : -100000≤px∧px≤100000) (hy : -100000≤py∧py≤100000) (hz : -100000≤pz∧pz≤100000) (w:World) :
 Calls Tryz.prog 69 #[cubeV px py pz ((h+1:Nat):Int),(2:Int)] w fun e w'=>e = .returned (cubeV px (py+m) pz (h:Int))∧Below w.heap.size w w':=by
 have hp:=pow_wrap (n:=h) (by omega)
 have hml:=pow_le (n:=h) (by omega)
 rw [←hm] at hml
 have hp':IntKind.i64.wrap ((2:Int) ^ h)=m:=by rw [hp,hm]
 have hsub:IntKind.i64.wrap (((h+1:Nat):Int) - 1)=(h:Int):=by rw [show ((h+1:Nat):Int) - 1=(h:Int) by omega];exact IntWalk.i64_in _ (by omega)
 have b0:bits .and .i64 0 1=0:=by decide
 have b1:bits .and .i64 1 1=1:=by decide
 have b2:bits .and .i64 2 1=0:=by decide
 have b3:bits .and .i64 3 1=1:=by decide
 have b4:bits .and .i64 4 1=0:=by decide
 have b5:bits .and .i64 5 1=1:=by decide
 have b6:bits .and .i64 6 1=0:=by decide
 have b7:bits .and .i64 7 1=1:=by decide
 have w0:IntKind.i64.wrap 0=0:=by decide
 have hsc:=Bx.mk fun W=>scale_any 0 1 0 m W
 rw [Int.mul_zero,Int.mul_one] at hsc
 rw [IntWalk.wrap64_in 0 (by omega),IntWalk.wrap64_in m (by omega)] at hsc
 have hadd:=Bx.mk fun W=>add_any px py pz 0 m 0 W
 rw [Int.add_zero px,Int.add_zero pz] at hadd
 rw [IntWalk.wrap64_in px (by omega),IntWalk.wrap64_in (py+m) (by omega),IntWalk.wrap64_in pz (by omega)] at hadd
 clear hp hm hml hx hy hz
 go_enter Tryz.func69,Tryz.ntmps69
 go_wp2_with fail
 generalize hW:World.alloc (World.alloc w _) _=W
 have hSz:=sz2 hW
 have hB:=bl2 hW
 have kp:Bk W (w.heap.size) #[px,py,pz,((h+1:Nat):Int)] 39:=bk1 hW
 have kr:Bk W (w.heap.size+1) #[(0:Int),(0:Int),(0:Int),(0:Int)] 39:=bk0 hW
 clear hW
 have cp3:=kp.cell 3 rfl
 go_wp2_with fail
 clear cp3
 obtain ⟨cp0,cp1,cp2⟩:=kp.r3
 have q0:=Bx.mk fun dk osk=>Calls.regrown_of (hsc.out (grow (redrawn W dk) osk))
 have q1:=Bx.mk fun dk osk=>Calls.regrown_of (hadd.out (grow (redrawn W dk) osk))
 refine wp_region_head_below 16 (by kernel_rfl) (by kernel_rfl) ?_
 simp only [List.take_succ_cons,List.take_zero,List.drop_succ_cons,List.drop_zero]
 repeat (first | go_big_quiet_step ((first | with_reducible exact q0.out _ _ | with_reducible exact q1.out _ _)) | quiet_step (first | with_reducible exact q0.out _ _ | with_reducible exact q1.out _ _))
 refine wpQuiet_nil ?_
 rintro _ ⟨⟨dq,osq⟩,rfl⟩
 have hb:=below_regrown W dq osq
 replace hB:=hB.trans (hb.mono hB.size)
 clear cp0 cp1 cp2
 clear q0 q1
 replace kp:=kp.later hb
 replace kr:=kr.later hb
 replace hSz:=Nat.le_trans hSz hb.size
 clear hb
 generalize grow (redrawn W dq) osq=W1 at *
 have cr0:=kr.cell 0 rfl
 have fr0:=kr.frozen 0
 have cr1:=kr.cell 1 rfl
 have fr1:=kr.frozen 1
 have cr2:=kr.cell 2 rfl
 have fr2:=kr.frozen 2
 have cr3:=kr.cell 3 rfl
 have fr3:=kr.frozen 3
 go_wp2_with fail
 replace kr:=kr.put4 (.int .i64 px) (.int .i64 (py+m)) (.int .i64 pz) (.int .i64 (h:Int))
 exact bodyPost_ret (v:=.agg #[px,.int .i64 (py+m),pz,(h:Int)]) (results_cell_row rfl _ _ _ 39 #[px,.int .i64 (py+m),pz,(h:Int)] (0,0) _ rfl kr Tryz.underlying39 rfl (by kernel_rfl)) rfl ⟨rfl,blw4 hB (by omega) _ _ _ _⟩
theorem child_3 (h:Nat) (hh:h≤13) (px py pz m:Int) (hm:m=2 ^ h) (hx : -100000≤px∧px≤100000) (hy : -100000≤py∧py≤100000) (hz : -100000≤pz∧pz≤100000) (w:World) :
 Calls Tryz.prog 69 #[cubeV px py pz ((h+1:Nat):Int),(3:Int)] w fun e w'=>e = .returned (cubeV (px+m) (py+m) pz (h:Int))∧Below w.heap.size w w':=by
 have hp:=pow_wrap (n:=h) (by omega)
 have hml:=pow_le (n:=h) (by omega)
 rw [←hm] at hml
 have hp':IntKind.i64.wrap ((2:Int) ^ h)=m:=by rw [hp,hm]
 have hsub:IntKind.i64.wrap (((h+1:Nat):Int) - 1)=(h:Int):=by rw [show ((h+1:Nat):Int) - 1=(h:Int) by omega];exact IntWalk.i64_in _ (by omega)
 have b0:bits .and .i64 0 1=0:=by decide
 have b1:bits .and .i64 1 1=1:=by decide
 have b2:bits .and .i64 2 1=0:=by decide
 have b3:bits .and .i64 3 1=1:=by decide
 have b4:bits .and .i64 4 1=0:=by decide
 have b5:bits .and .i64 5 1=1:=by decide
 have b6:bits .and .i64 6 1=0:=by decide
 have b7:bits .and .i64 7 1=1:=by decide
 have w0:IntKind.i64.wrap 0=0:=by decide
 have hsc:=Bx.mk fun W=>scale_any 1 1 0 m W
 rw [Int.mul_zero,Int.mul_one] at hsc
 rw [IntWalk.wrap64_in 0 (by omega),IntWalk.wrap64_in m (by omega)] at hsc
 have hadd:=Bx.mk fun W=>add_any px py pz m m 0 W
 rw [Int.add_zero pz] at hadd
 rw [IntWalk.wrap64_in (px+m) (by omega),IntWalk.wrap64_in (py+m) (by omega),IntWalk.wrap64_in pz (by omega)] at hadd
 clear hp hm hml hx hy hz
 go_enter Tryz.func69,Tryz.ntmps69
 go_wp2_with fail
 generalize hW:World.alloc (World.alloc w _) _=W
 have hSz:=sz2 hW
 have hB:=bl2 hW
 have kp:Bk W (w.heap.size) #[px,py,pz,((h+1:Nat):Int)] 39:=bk1 hW
 have kr:Bk W (w.heap.size+1) #[(0:Int),(0:Int),(0:Int),(0:Int)] 39:=bk0 hW
 clear hW
 have cp3:=kp.cell 3 rfl
 go_wp2_with fail
 clear cp3
 obtain ⟨cp0,cp1,cp2⟩:=kp.r3
 have q0:=Bx.mk fun dk osk=>Calls.regrown_of (hsc.out (grow (redrawn W dk) osk))
 have q1:=Bx.mk fun dk osk=>Calls.regrown_of (hadd.out (grow (redrawn W dk) osk))
 refine wp_region_head_below 16 (by kernel_rfl) (by kernel_rfl) ?_
 simp only [List.take_succ_cons,List.take_zero,List.drop_succ_cons,List.drop_zero]
 repeat (first | go_big_quiet_step ((first | with_reducible exact q0.out _ _ | with_reducible exact q1.out _ _)) | quiet_step (first | with_reducible exact q0.out _ _ | with_reducible exact q1.out _ _))
 refine wpQuiet_nil ?_
 rintro _ ⟨⟨dq,osq⟩,rfl⟩
 have hb:=below_regrown W dq osq
 replace hB:=hB.trans (hb.mono hB.size)
 clear cp0 cp1 cp2
 clear q0 q1
 replace kp:=kp.later hb
 replace kr:=kr.later hb
 replace hSz:=Nat.le_trans hSz hb.size
 clear hb
 generalize grow (redrawn W dq) osq=W1 at *
 have cr0:=kr.cell 0 rfl
 have fr0:=kr.frozen 0
 have cr1:=kr.cell 1 rfl
 have fr1:=kr.frozen 1
 have cr2:=kr.cell 2 rfl
 have fr2:=kr.frozen 2
 have cr3:=kr.cell 3 rfl
 have fr3:=kr.frozen 3
 go_wp2_with fail
 replace kr:=kr.put4 (.int .i64 (px+m)) (.int .i64 (py+m)) (.int .i64 pz) (.int .i64 (h:Int))
 exact bodyPost_ret (v:=.agg #[.int .i64 (px+m),.int .i64 (py+m),pz,(h:Int)]) (results_cell_row rfl _ _ _ 39 #[.int .i64 (px+m),.int .i64 (py+m),pz,(h:Int)] (0,0) _ rfl kr Tryz.underlying39 rfl (by kernel_rfl)) rfl ⟨rfl,blw4 hB (by omega) _ _ _ _⟩
theorem child_4 (h:Nat) (hh:h≤13) (px py pz m:Int) (hm:m=2 ^ h) (hx : -100000≤px∧px≤100000) (hy : -100000≤py∧py≤100000) (hz : -100000≤pz∧pz≤100000) (w:World) :
 Calls Tryz.prog 69 #[cubeV px py pz ((h+1:Nat):Int),(4:Int)] w fun e w'=>e = .returned (cubeV px py (pz+m) (h:Int))∧Below w.heap.size w w':=by
 have hp:=pow_wrap (n:=h) (by omega)
 have hml:=pow_le (n:=h) (by omega)
 rw [←hm] at hml
 have hp':IntKind.i64.wrap ((2:Int) ^ h)=m:=by rw [hp,hm]
 have hsub:IntKind.i64.wrap (((h+1:Nat):Int) - 1)=(h:Int):=by rw [show ((h+1:Nat):Int) - 1=(h:Int) by omega];exact IntWalk.i64_in _ (by omega)
 have b0:bits .and .i64 0 1=0:=by decide
 have b1:bits .and .i64 1 1=1:=by decide
 have b2:bits .and .i64 2 1=0:=by decide
 have b3:bits .and .i64 3 1=1:=by decide
 have b4:bits .and .i64 4 1=0:=by decide
 have b5:bits .and .i64 5 1=1:=by decide
 have b6:bits .and .i64 6 1=0:=by decide
 have b7:bits .and .i64 7 1=1:=by decide
 have w0:IntKind.i64.wrap 0=0:=by decide
 have hsc:=Bx.mk fun W=>scale_any 0 0 1 m W
 rw [Int.mul_zero,Int.mul_one] at hsc
 rw [IntWalk.wrap64_in 0 (by omega),IntWalk.wrap64_in m (by omega)] at hsc
 have hadd:=Bx.mk fun W=>add_any px py pz 0 0 m W
 rw [Int.add_zero px,Int.add_zero py] at hadd
 rw [IntWalk.wrap64_in px (by omega),IntWalk.wrap64_in py (by omega),IntWalk.wrap64_in (pz+m) (by omega)] at hadd
 clear hp hm hml hx hy hz
 go_enter Tryz.func69,Tryz.ntmps69
 go_wp2_with fail
 generalize hW:World.alloc (World.alloc w _) _=W
 have hSz:=sz2 hW
 have hB:=bl2 hW
 have kp:Bk W (w.heap.size) #[px,py,pz,((h+1:Nat):Int)] 39:=bk1 hW
 have kr:Bk W (w.heap.size+1) #[(0:Int),(0:Int),(0:Int),(0:Int)] 39:=bk0 hW
 clear hW
 have cp3:=kp.cell 3 rfl
 go_wp2_with fail
 clear cp3
 obtain ⟨cp0,cp1,cp2⟩:=kp.r3
 have q0:=Bx.mk fun dk osk=>Calls.regrown_of (hsc.out (grow (redrawn W dk) osk))
 have q1:=Bx.mk fun dk osk=>Calls.regrown_of (hadd.out (grow (redrawn W dk) osk))
 refine wp_region_head_below 16 (by kernel_rfl) (by kernel_rfl) ?_
 simp only [List.take_succ_cons,List.take_zero,List.drop_succ_cons,List.drop_zero]
 repeat (first | go_big_quiet_step ((first | with_reducible exact q0.out _ _ | with_reducible exact q1.out _ _)) | quiet_step (first | with_reducible exact q0.out _ _ | with_reducible exact q1.out _ _))
 refine wpQuiet_nil ?_
 rintro _ ⟨⟨dq,osq⟩,rfl⟩
 have hb:=below_regrown W dq osq
 replace hB:=hB.trans (hb.mono hB.size)
 clear cp0 cp1 cp2
 clear q0 q1
 replace kp:=kp.later hb
 replace kr:=kr.later hb
 replace hSz:=Nat.le_trans hSz hb.size
 clear hb
 generalize grow (redrawn W dq) osq=W1 at *
 have cr0:=kr.cell 0 rfl
 have fr0:=kr.frozen 0
 have cr1:=kr.cell 1 rfl
 have fr1:=kr.frozen 1
 have cr2:=kr.cell 2 rfl
 have fr2:=kr.frozen 2
 have cr3:=kr.cell 3 rfl
 have fr3:=kr.frozen 3
 go_wp2_with fail
 replace kr:=kr.put4 (.int .i64 px) (.int .i64 py) (.int .i64 (pz+m)) (.int .i64 (h:Int))
 exact bodyPost_ret (v:=.agg #[px,py,.int .i64 (pz+m),(h:Int)]) (results_cell_row rfl _ _ _ 39 #[px,py,.int .i64 (pz+m),(h:Int)] (0,0) _ rfl kr Tryz.underlying39 rfl (by kernel_rfl)) rfl ⟨rfl,blw4 hB (by omega) _ _ _ _⟩
theorem child_5 (h:Nat) (hh:h≤13) (px py pz m:Int) (hm:m=2 ^ h) (hx : -100000≤px∧px≤100000) (hy : -100000≤py∧py≤100000) (hz : -100000≤pz∧pz≤100000) (w:World) :
 Calls Tryz.prog 69 #[cubeV px py pz ((h+1:Nat):Int),(5:Int)] w fun e w'=>e = .returned (cubeV (px+m) py (pz+m) (h:Int))∧Below w.heap.size w w':=by
 have hp:=pow_wrap (n:=h) (by omega)
 have hml:=pow_le (n:=h) (by omega)
 rw [←hm] at hml
 have hp':IntKind.i64.wrap ((2:Int) ^ h)=m:=by rw [hp,hm]
 have hsub:IntKind.i64.wrap (((h+1:Nat):Int) - 1)=(h:Int):=by rw [show ((h+1:Nat):Int) - 1=(h:Int) by omega];exact IntWalk.i64_in _ (by omega)
 have b0:bits .and .i64 0 1=0:=by decide
 have b1:bits .and .i64 1 1=1:=by decide
 have b2:bits .and .i64 2 1=0:=by decide
 have b3:bits .and .i64 3 1=1:=by decide
 have b4:bits .and .i64 4 1=0:=by decide
 have b5:bits .and .i64 5 1=1:=by decide
 have b6:bits .and .i64 6 1=0:=by decide
 have b7:bits .and .i64 7 1=1:=by decide
 have w0:IntKind.i64.wrap 0=0:=by decide
 have hsc:=Bx.mk fun W=>scale_any 1 0 1 m W
 rw [Int.mul_zero,Int.mul_one] at hsc
 rw [IntWalk.wrap64_in 0 (by omega),IntWalk.wrap64_in m (by omega)] at hsc
 have hadd:=Bx.mk fun W=>add_any px py pz m 0 m W
 rw [Int.add_zero py] at hadd
 rw [IntWalk.wrap64_in (px+m) (by omega),IntWalk.wrap64_in py (by omega),IntWalk.wrap64_in (pz+m) (by omega)] at hadd
 clear hp hm hml hx hy hz
 go_enter Tryz.func69,Tryz.ntmps69
 go_wp2_with fail
 generalize hW:World.alloc (World.alloc w _) _=W
 have hSz:=sz2 hW
 have hB:=bl2 hW
 have kp:Bk W (w.heap.size) #[px,py,pz,((h+1:Nat):Int)] 39:=bk1 hW
 have kr:Bk W (w.heap.size+1) #[(0:Int),(0:Int),(0:Int),(0:Int)] 39:=bk0 hW
 clear hW
 have cp3:=kp.cell 3 rfl
 go_wp2_with fail
 clear cp3
 obtain ⟨cp0,cp1,cp2⟩:=kp.r3
 have q0:=Bx.mk fun dk osk=>Calls.regrown_of (hsc.out (grow (redrawn W dk) osk))
 have q1:=Bx.mk fun dk osk=>Calls.regrown_of (hadd.out (grow (redrawn W dk) osk))
 refine wp_region_head_below 16 (by kernel_rfl) (by kernel_rfl) ?_
 simp only [List.take_succ_cons,List.take_zero,List.drop_succ_cons,List.drop_zero]
 repeat (first | go_big_quiet_step ((first | with_reducible exact q0.out _ _ | with_reducible exact q1.out _ _)) | quiet_step (first | with_reducible exact q0.out _ _ | with_reducible exact q1.out _ _))
 refine wpQuiet_nil ?_
 rintro _ ⟨⟨dq,osq⟩,rfl⟩
 have hb:=below_regrown W dq osq
 replace hB:=hB.trans (hb.mono hB.size)
 clear cp0 cp1 cp2
 clear q0 q1
 replace kp:=kp.later hb
 replace kr:=kr.later hb
 replace hSz:=Nat.le_trans hSz hb.size
 clear hb
 generalize grow (redrawn W dq) osq=W1 at *
 have cr0:=kr.cell 0 rfl
 have fr0:=kr.frozen 0
 have cr1:=kr.cell 1 rfl
 have fr1:=kr.frozen 1
 have cr2:=kr.cell 2 rfl
 have fr2:=kr.frozen 2
 have cr3:=kr.cell 3 rfl
 have fr3:=kr.frozen 3
 go_wp2_with fail
 replace kr:=kr.put4 (.int .i64 (px+m)) (.int .i64 py) (.int .i64 (pz+m)) (.int .i64 (h:Int))
 exact bodyPost_ret (v:=.agg #[.int .i64 (px+m),py,.int .i64 (pz+m),(h:Int)]) (results_cell_row rfl _ _ _ 39 #[.int .i64 (px+m),py,.int .i64 (pz+m),(h:Int)] (0,0) _ rfl kr Tryz.underlying39 rfl (by kernel_rfl)) rfl ⟨rfl,blw4 hB (by omega) _ _ _ _⟩
theorem child_6 (h:Nat) (hh:h≤13) (px py pz m:Int) (hm:m=2 ^ h) (hx : -100000≤px∧px≤100000) (hy : -100000≤py∧py≤100000) (hz : -100000≤pz∧pz≤100000) (w:World) :
 Calls Tryz.prog 69 #[cubeV px py pz ((h+1:Nat):Int),(6:Int)] w fun e w'=>e = .returned (cubeV px (py+m) (pz+m) (h:Int))∧Below w.heap.size w w':=by
 have hp:=pow_wrap (n:=h) (by omega)
 have hml:=pow_le (n:=h) (by omega)
 rw [←hm] at hml
 have hp':IntKind.i64.wrap ((2:Int) ^ h)=m:=by rw [hp,hm]
 have hsub:IntKind.i64.wrap (((h+1:Nat):Int) - 1)=(h:Int):=by rw [show ((h+1:Nat):Int) - 1=(h:Int) by omega];exact IntWalk.i64_in _ (by omega)
 have b0:bits .and .i64 0 1=0:=by decide
 have b1:bits .and .i64 1 1=1:=by decide
 have b2:bits .and .i64 2 1=0:=by decide
 have b3:bits .and .i64 3 1=1:=by decide
 have b4:bits .and .i64 4 1=0:=by decide
 have b5:bits .and .i64 5 1=1:=by decide
 have b6:bits .and .i64 6 1=0:=by decide
 have b7:bits .and .i64 7 1=1:=by decide
 have w0:IntKind.i64.wrap 0=0:=by decide
 have hsc:=Bx.mk fun W=>scale_any 0 1 1 m W
 rw [Int.mul_zero,Int.mul_one] at hsc
 rw [IntWalk.wrap64_in 0 (by omega),IntWalk.wrap64_in m (by omega)] at hsc
 have hadd:=Bx.mk fun W=>add_any px py pz 0 m m W
 rw [Int.add_zero px] at hadd
 rw [IntWalk.wrap64_in px (by omega),IntWalk.wrap64_in (py+m) (by omega),IntWalk.wrap64_in (pz+m) (by omega)] at hadd
 clear hp hm hml hx hy hz
 go_enter Tryz.func69,Tryz.ntmps69
 go_wp2_with fail
 generalize hW:World.alloc (World.alloc w _) _=W
 have hSz:=sz2 hW
 have hB:=bl2 hW
 have kp:Bk W (w.heap.size) #[px,py,pz,((h+1:Nat):Int)] 39:=bk1 hW
 have kr:Bk W (w.heap.size+1) #[(0:Int),(0:Int),(0:Int),(0:Int)] 39:=bk0 hW
 clear hW
 have cp3:=kp.cell 3 rfl
 go_wp2_with fail
 clear cp3
 obtain ⟨cp0,cp1,cp2⟩:=kp.r3
 have q0:=Bx.mk fun dk osk=>Calls.regrown_of (hsc.out (grow (redrawn W dk) osk))
 have q1:=Bx.mk fun dk osk=>Calls.regrown_of (hadd.out (grow (redrawn W dk) osk))
 refine wp_region_head_below 16 (by kernel_rfl) (by kernel_rfl) ?_
 simp only [List.take_succ_cons,List.take_zero,List.drop_succ_cons,List.drop_zero]
 repeat (first | go_big_quiet_step ((first | with_reducible exact q0.out _ _ | with_reducible exact q1.out _ _)) | quiet_step (first | with_reducible exact q0.out _ _ | with_reducible exact q1.out _ _))
 refine wpQuiet_nil ?_
 rintro _ ⟨⟨dq,osq⟩,rfl⟩
 have hb:=below_regrown W dq osq
 replace hB:=hB.trans (hb.mono hB.size)
 clear cp0 cp1 cp2
 clear q0 q1
 replace kp:=kp.later hb
 replace kr:=kr.later hb
 replace hSz:=Nat.le_trans hSz hb.size
 clear hb
 generalize grow (redrawn W dq) osq=W1 at *
 have cr0:=kr.cell 0 rfl
 have fr0:=kr.frozen 0
 have cr1:=kr.cell 1 rfl
 have fr1:=kr.frozen 1
 have cr2:=kr.cell 2 rfl
 have fr2:=kr.frozen 2
 have cr3:=kr.cell 3 rfl
 have fr3:=kr.frozen 3
 go_wp2_with fail
 replace kr:=kr.put4 (.int .i64 px) (.int .i64 (py+m)) (.int .i64 (pz+m)) (.int .i64 (h:Int))
 exact bodyPost_ret (v:=.agg #[px,.int .i64 (py+m),.int .i64 (pz+m),(h:Int)]) (results_cell_row rfl _ _ _ 39 #[px,.int .i64 (py+m),.int .i64 (pz+m),(h:Int)] (0,0) _ rfl kr Tryz.underlying39 rfl (by kernel_rfl)) rfl ⟨rfl,blw4 hB (by omega) _ _ _ _⟩
theorem child_7 (h:Nat) (hh:h≤13) (px py pz m:Int) (hm:m=2 ^ h) (hx : -100000≤px∧px≤100000) (hy : -100000≤py∧py≤100000) (hz : -100000≤pz∧pz≤100000) (w:World) :
 Calls Tryz.prog 69 #[cubeV px py pz ((h+1:Nat):Int),(7:Int)] w fun e w'=>e = .returned (cubeV (px+m) (py+m) (pz+m) (h:Int))∧Below w.heap.size w w':=by
 have hp:=pow_wrap (n:=h) (by omega)
 have hml:=pow_le (n:=h) (by omega)
 rw [←hm] at hml
 have hp':IntKind.i64.wrap ((2:Int) ^ h)=m:=by rw [hp,hm]
 have hsub:IntKind.i64.wrap (((h+1:Nat):Int) - 1)=(h:Int):=by rw [show ((h+1:Nat):Int) - 1=(h:Int) by omega];exact IntWalk.i64_in _ (by omega)
 have b0:bits .and .i64 0 1=0:=by decide
 have b1:bits .and .i64 1 1=1:=by decide
 have b2:bits .and .i64 2 1=0:=by decide
 have b3:bits .and .i64 3 1=1:=by decide
 have b4:bits .and .i64 4 1=0:=by decide
 have b5:bits .and .i64 5 1=1:=by decide
 have b6:bits .and .i64 6 1=0:=by decide
 have b7:bits .and .i64 7 1=1:=by decide
 have w0:IntKind.i64.wrap 0=0:=by decide
 have hsc:=Bx.mk fun W=>scale_any 1 1 1 m W
 rw [Int.mul_one] at hsc
 rw [IntWalk.wrap64_in m (by omega)] at hsc
 have hadd:=Bx.mk fun W=>add_any px py pz m m m W
 rw [IntWalk.wrap64_in (px+m) (by omega),IntWalk.wrap64_in (py+m) (by omega),IntWalk.wrap64_in (pz+m) (by omega)] at hadd
 clear hp hm hml hx hy hz
 go_enter Tryz.func69,Tryz.ntmps69
 go_wp2_with fail
 generalize hW:World.alloc (World.alloc w _) _=W
 have hSz:=sz2 hW
 have hB:=bl2 hW
 have kp:Bk W (w.heap.size) #[px,py,pz,((h+1:Nat):Int)] 39:=bk1 hW
 have kr:Bk W (w.heap.size+1) #[(0:Int),(0:Int),(0:Int),(0:Int)] 39:=bk0 hW
 clear hW
 have cp3:=kp.cell 3 rfl
 go_wp2_with fail
 clear cp3
 obtain ⟨cp0,cp1,cp2⟩:=kp.r3
 have q0:=Bx.mk fun dk osk=>Calls.regrown_of (hsc.out (grow (redrawn W dk) osk))
 have q1:=Bx.mk fun dk osk=>Calls.regrown_of (hadd.out (grow (redrawn W dk) osk))
 refine wp_region_head_below 16 (by kernel_rfl) (by kernel_rfl) ?_
 simp only [List.take_succ_cons,List.take_zero,List.drop_succ_cons,List.drop_zero]
 repeat (first | go_big_quiet_step ((first | with_reducible exact q0.out _ _ | with_reducible exact q1.out _ _)) | quiet_step (first | with_reducible exact q0.out _ _ | with_reducible exact q1.out _ _))
 refine wpQuiet_nil ?_
 rintro _ ⟨⟨dq,osq⟩,rfl⟩
 have hb:=below_regrown W dq osq
 replace hB:=hB.trans (hb.mono hB.size)
 clear cp0 cp1 cp2
 clear q0 q1
 replace kp:=kp.later hb
 replace kr:=kr.later hb
 replace hSz:=Nat.le_trans hSz hb.size
 clear hb
 generalize grow (redrawn W dq) osq=W1 at *
 have cr0:=kr.cell 0 rfl
 have fr0:=kr.frozen 0
 have cr1:=kr.cell 1 rfl
 have fr1:=kr.frozen 1
 have cr2:=kr.cell 2 rfl
 have fr2:=kr.frozen 2
 have cr3:=kr.cell 3 rfl
 have fr3:=kr.frozen 3
 go_wp2_with fail
 replace kr:=kr.put4 (.int .i64 (px+m)) (.int .i64 (py+m)) (.int .i64 (pz+m)) (.int .i64 (h:Int))
 exact bodyPost_ret (v:=.agg #[.int .i64 (px+m),.int .i64 (py+m),.int .i64 (pz+m),(h:Int)]) (results_cell_row rfl _ _ _ 39 #[.int .i64 (px+m),.int .i64 (py+m),.int .i64 (pz+m),(h:Int)] (0,0) _ rfl kr Tryz.underlying39 rfl (by kernel_rfl)) rfl ⟨rfl,blw4 hB (by omega) _ _ _ _⟩
theorem child_any (h:Nat) (hh:h≤13) (px py pz:Int) (i:Nat) (hi:i<8) (hx : -100000≤px∧px≤100000) (hy : -100000≤py∧py≤100000) (hz : -100000≤pz∧pz≤100000) (w:World) :
 Calls Tryz.prog 69 #[cubeV px py pz ((h+1:Nat):Int),(i:Int)] w fun e w'=>e = .returned (cubeV (px+chX i (2 ^ h)) (py+chY i (2 ^ h)) (pz+chZ i (2 ^ h)) (h:Int))∧Below w.heap.size w w':=by
 have hc:i=0∨i=1∨i=2∨i=3∨i=4∨i=5∨i=6∨i=7:=by omega
 rcases hc with rfl | rfl | rfl | rfl | rfl | rfl | rfl | rfl
 · have:=child_0 h hh px py pz _ rfl hx hy hz w
   simpa [chX,chY,chZ] using this
 · have:=child_1 h hh px py pz _ rfl hx hy hz w
   simpa [chX,chY,chZ] using this
 · have:=child_2 h hh px py pz _ rfl hx hy hz w
   simpa [chX,chY,chZ] using this
 · have:=child_3 h hh px py pz _ rfl hx hy hz w
   simpa [chX,chY,chZ] using this
 · have:=child_4 h hh px py pz _ rfl hx hy hz w
   simpa [chX,chY,chZ] using this
 · have:=child_5 h hh px py pz _ rfl hx hy hz w
   simpa [chX,chY,chZ] using this
 · have:=child_6 h hh px py pz _ rfl hx hy hz w
   simpa [chX,chY,chZ] using this
 · have:=child_7 h hh px py pz _ rfl hx hy hz w
   simpa [chX,chY,chZ] using this
theorem box_any (n:Nat) (hn:n≤14) (px py pz m:Int) (hm:m=2 ^ n) (hx : -100000≤px∧px≤100000) (hy : -100000≤py∧py≤100000) (hz : -100000≤pz∧pz≤100000) (w:World) :
 Calls Tryz.prog 73 #[cubeV px py pz (n:Int)] w fun e w'=>e = .returned (.agg #[px,py,pz,.int .i64 (px+m),.int .i64 (py+m),.int .i64 (pz+m)])∧Below w.heap.size w w':=by
 have hp:=pow_wrap hn
 have hml:=pow_le hn
 rw [←hm] at hp hml
 have hsh:=Bx.mk fun W=>shift_any 0 0 0 m m m px py pz W
 rw [Int.zero_add,Int.zero_add,Int.zero_add,IntWalk.wrap64_in px (by omega),IntWalk.wrap64_in py (by omega),IntWalk.wrap64_in pz (by omega),Int.add_comm m px,Int.add_comm m py,Int.add_comm m pz,
  IntWalk.wrap64_in (px+m) (by omega),IntWalk.wrap64_in (py+m) (by omega),IntWalk.wrap64_in (pz+m) (by omega)] at hsh
 have hp':IntKind.i64.wrap ((2:Int) ^ n)=m:=by rw [←hm];exact hp
 clear hm hml hx hy hz
 go_enter Tryz.func73,Tryz.ntmps73
 go_wp2_with fail
 generalize hW:World.alloc (World.alloc w _) _=W
 have hSz:=sz2 hW
 have hB:=bl2 hW
 have kp:Bk W (w.heap.size) #[px,py,pz,(n:Int)] 39:=bk1 hW
 have kr:Bk W (w.heap.size+1) #[(0:Int),(0:Int),(0:Int),(0:Int),(0:Int),(0:Int)] 25:=bk0 hW
 clear hW
 obtain ⟨cp0,cp1,cp2,cp3⟩:=kp.r4
 have q0:=Bx.mk fun dk osk=>Calls.regrown_of (cube_any m (grow (redrawn W dk) osk))
 have q1:=Bx.mk fun dk osk=>Calls.regrown_of (hsh.out (grow (redrawn W dk) osk))
 refine wp_region_head_below 7 (by kernel_rfl) (by kernel_rfl) ?_
 simp only [List.take_succ_cons,List.take_zero,List.drop_succ_cons,List.drop_zero]
 repeat (first | go_big_quiet_step ((first | with_reducible exact q0.out _ _ | with_reducible exact q1.out _ _)) | quiet_step (first | with_reducible exact q0.out _ _ | with_reducible exact q1.out _ _))
 refine wpQuiet_nil ?_
 rintro _ ⟨⟨dq,osq⟩,rfl⟩
 have hb:=below_regrown W dq osq
 replace hB:=hB.trans (hb.mono hB.size)
 clear cp0 cp1 cp2 cp3
 clear q0
 clear q1
 replace kp:=kp.later hb
 replace kr:=kr.later hb
 replace hSz:=Nat.le_trans hSz hb.size
 clear hb
 generalize grow (redrawn W dq) osq=W1 at *
 have cr0:=kr.cell 0 rfl
 have fr0:=kr.frozen 0
 have cr1:=kr.cell 1 rfl
 have fr1:=kr.frozen 1
 have cr2:=kr.cell 2 rfl
 have fr2:=kr.frozen 2
 have cr3:=kr.cell 3 rfl
 have fr3:=kr.frozen 3
 have cr4:=kr.cell 4 rfl
 have fr4:=kr.frozen 4
 have cr5:=kr.cell 5 rfl
 have fr5:=kr.frozen 5
 go_wp2_with fail
 replace kr:=kr.put6 (.int .i64 px) (.int .i64 py) (.int .i64 pz) (.int .i64 (px+m)) (.int .i64 (py+m)) (.int .i64 (pz+m))
 exact bodyPost_ret (v:=.agg #[px,py,pz,.int .i64 (px+m),.int .i64 (py+m),.int .i64 (pz+m)]) (results_cell_row rfl _ _ _ 25 #[px,py,pz,.int .i64 (px+m),.int .i64 (py+m),.int .i64 (pz+m)] (0,0) _ rfl kr Tryz.underlying25 rfl (by kernel_rfl)) rfl ⟨rfl,blw6 hB (by omega) _ _ _ _ _ _⟩
end Go.Proofs.YtfcbajmjaifjlaaGreat
end
