/- Pnt3, Eq, Pnt4: joined by program, for one claim. -/
import Derived.Test.YtfcbajmjaifjlaaGreatMr
import Derived.Test.YtfcbajmjaifjlaaGreatM5
import Derived.Test.YtfcbajmjaifjlaaGreatProg
import Derived.Test.YtfcbajmjaifjlaaGreatM4
import Derived.WalkKit
import Derived.WalkLawsBesides
import Derived.WalkSpells
import Derived.Laws.StructEq
import Derived.Test.YtfcbajmjaifjlaaGreatM6
set_option linter.unusedVariables false
set_option linter.unusedSimpArgs false
namespace Go.Proofs.YtfcbajmjaifjlaaGreat
section
open Go.RowKit Go.Sort
theorem list_any (px py pz:Int) (w:World) :
 Calls Tryz.prog 171 #[.agg #[px,py,pz]] w fun e w'=>e = .returned (.agg #[px,py,pz])∧Below w.heap.size w w':=by
 go_enter Tryz.func171,Tryz.ntmps171
 go_wp2
 generalize hW:World.alloc (World.alloc w _) _=W
 have hSz:=sz2 hW
 have hB:=bl2 hW
 have kp:Bk W (w.heap.size) #[px,py,pz] 23:=bk1 hW
 have kr:Bk W (w.heap.size+1) #[px,py,pz] 173:=bk0 hW
 clear hW
 exact bodyPost_ret (v:=.agg #[px,py,pz]) (results_cell_row rfl _ _ _ 173 #[px,py,pz] (0,0) _ rfl kr Tryz.underlying173 rfl (by kernel_rfl)) rfl ⟨rfl,hB⟩
theorem greater_any (x y:Int) (w:World) :
 Calls Tryz.prog 132 #[x,y] w fun e w'=>e = .returned (.int .i64 (max x y))∧w=w':=by
 go_enter Tryz.func132,Tryz.ntmps132
 go_wp2
 all_goals
  go_ret
  exact ⟨ret_int (by omega),rfl⟩
theorem lesser_any (x y:Int) (w:World) :
 Calls Tryz.prog 133 #[x,y] w fun e w'=>e = .returned (.int .i64 (min x y))∧w=w':=by
 go_enter Tryz.func133,Tryz.ntmps133
 go_wp2
 all_goals
  go_ret
  exact ⟨ret_int (by omega),rfl⟩
set_option maxHeartbeats 400000 in
theorem each_1 (p1 p2 p3:Addr) (v0 v1 v2:Int) (w:World)
 (hf : ∀ (k v:Int),(k=0∧v=v0)∨(k=1∧v=v1)∨(k=2∧v=v2) → ∀ W,Below w.heap.size w W→Calls Tryz.prog 173 #[k,.pointer (some p1),.pointer (some p2),.pointer (some p3)] W fun e w'=>e = .returned (.int .i64 v)∧Below W.heap.size W w') :
 Calls Tryz.prog 172 #[.func (.func 173) #[] #[.pointer (some p1),.pointer (some p2),.pointer (some p3)]] w fun e w'=>e = .returned (.agg #[v0,v1,v2])∧Below w.heap.size w w':=by
 have f0:=Bx.mk fun W=>hf 0 v0 (by omega) W
 have f1:=Bx.mk fun W=>hf 1 v1 (by omega) W
 have f2:=Bx.mk fun W=>hf 2 v2 (by omega) W
 clear hf
 go_enter Tryz.func172,Tryz.ntmps172
 go_wp2_with fail
 generalize hW:World.alloc (World.alloc w _) _=W
 have hSz:=sz2 hW
 have hB:=bl2 hW
 have kr:Bk W (w.heap.size) #[(0:Int),(0:Int),(0:Int)] 23:=bk1 hW
 have kc:Bk W (w.heap.size+1) #[(0:Int),(0:Int),(0:Int)] 173:=bk0 hW
 clear hW
 go_loopw [5] (fun i wr => ∃ k:Nat,k≤3∧i = .int .i64 k∧Bk wr (w.heap.size) #[(0:Int),(0:Int),(0:Int)] 23∧Bk wr (w.heap.size+1) #[.int .i64 (if 0<k then v0 else 0),.int .i64 (if 1<k then v1 else 0),.int .i64 (if 2<k then v2 else 0)] 173∧Below w.heap.size w wr∧w.heap.size+1<wr.heap.size) (fun i _=>3 - (intOf i).toNat)
 case atStart=>exact ⟨0,by omega,rfl,kr,kc,hB,by omega⟩
 case round =>
  clear kr kc hB hSz
  obtain ⟨k,hk,rfl,kr,kc,hB,hSz⟩:=hrel
  by_cases hlt:k<3
  · have hcall:Bx (Calls Tryz.prog 173 #[(k:Int),.pointer (some p1),.pointer (some p2),.pointer (some p3)] wr fun e w'=>e = .returned (.int .i64 (if k=0 then v0 else if k=1 then v1 else v2))∧Below wr.heap.size wr w'):=⟨by
     obtain rfl | rfl | rfl:k=0∨k=1∨k=2:=by omega
     · exact f0.out wr hB
     · exact f1.out wr hB
     · exact f2.out wr hB⟩
    go_wp2_with fail
    refine hcall.out.mono ?_
    rintro e w1 ⟨rfl,hb⟩
    replace hB:=hB.trans (hb.mono hB.size)
    replace kr:=kr.later hb
    replace kc:=kc.later hb
    replace hSz:=Nat.lt_of_lt_of_le hSz hb.size
    clear hb hcall f0 f1 f2
    have hcc : ∃ v,w1.cell? ⟨w.heap.size+1,k,none⟩=some v:=by
     obtain rfl | rfl | rfl:k=0∨k=1∨k=2:=by omega
     · exact ⟨_,kc.cell 0 rfl⟩
     · exact ⟨_,kc.cell 1 rfl⟩
     · exact ⟨_,kc.cell 2 rfl⟩
    obtain ⟨vc,hcc⟩:=hcc
    have hff:=kc.frozen k
    have kc':=kc.set k (.int .i64 (if k=0 then v0 else if k=1 then v1 else v2))
    have kr':=kr.other ⟨w.heap.size+1,k,none⟩ (.int .i64 (if k=0 then v0 else if k=1 then v1 else v2)) (by simp)
    have Kc:Bx (Bk (w1.setCell ⟨w.heap.size+1,k,none⟩ (.int .i64 (if k=0 then v0 else if k=1 then v1 else v2))) (w.heap.size+1) #[.int .i64 (if 0<k+1 then v0 else 0),.int .i64 (if 1<k+1 then v1 else 0),.int .i64 (if 2<k+1 then v2 else 0)] 173):=⟨by
     obtain rfl | rfl | rfl:k=0∨k=1∨k=2:=by omega
     all_goals simpa using kc'⟩
    have Kr:=Bx.mk kr'
    clear kc kr kc' kr'
    generalize (if k=0 then v0 else if k=1 then v1 else v2)=vv at *
    go_wp2_with fail
    go_roundw
    case rel=>exact ⟨k+1,by omega,by go_num,Kr.out,Kc.out,hB.setCell (by simp) _,by rw [size_setCell];omega⟩
    case measure=>simp [intOf];omega
  · obtain rfl:k=3:=by omega
    obtain ⟨cc0,cc1,cc2⟩:=kc.c3
    obtain ⟨cr0,cr1,cr2⟩:=kr.c3
    obtain ⟨fr0,fr1,fr2⟩:=kr.f3
    go_wp2_with fail
    replace kr:=kr.put3 (.int .i64 v0) (.int .i64 v1) (.int .i64 v2)
    exact bodyPost_ret (v:=.agg #[v0,v1,v2]) (results_cell_row rfl _ _ _ 23 #[v0,v1,v2] (0,0) _ rfl kr Tryz.underlying23 rfl (by kernel_rfl)) rfl ⟨rfl,blw3 hB (by omega) _ _ _⟩
set_option maxHeartbeats 400000 in
theorem each_2 (p1 p2 p3:Addr) (v0 v1 v2:Int) (w:World)
 (hf : ∀ (k v:Int),(k=0∧v=v0)∨(k=1∧v=v1)∨(k=2∧v=v2) → ∀ W,Below w.heap.size w W→Calls Tryz.prog 174 #[k,.pointer (some p1),.pointer (some p2),.pointer (some p3)] W fun e w'=>e = .returned (.int .i64 v)∧Below W.heap.size W w') :
 Calls Tryz.prog 172 #[.func (.func 174) #[] #[.pointer (some p1),.pointer (some p2),.pointer (some p3)]] w fun e w'=>e = .returned (.agg #[v0,v1,v2])∧Below w.heap.size w w':=by
 have f0:=Bx.mk fun W=>hf 0 v0 (by omega) W
 have f1:=Bx.mk fun W=>hf 1 v1 (by omega) W
 have f2:=Bx.mk fun W=>hf 2 v2 (by omega) W
 clear hf
 go_enter Tryz.func172,Tryz.ntmps172
 go_wp2_with fail
 generalize hW:World.alloc (World.alloc w _) _=W
 have hSz:=sz2 hW
 have hB:=bl2 hW
 have kr:Bk W (w.heap.size) #[(0:Int),(0:Int),(0:Int)] 23:=bk1 hW
 have kc:Bk W (w.heap.size+1) #[(0:Int),(0:Int),(0:Int)] 173:=bk0 hW
 clear hW
 go_loopw [5] (fun i wr => ∃ k:Nat,k≤3∧i = .int .i64 k∧Bk wr (w.heap.size) #[(0:Int),(0:Int),(0:Int)] 23∧Bk wr (w.heap.size+1) #[.int .i64 (if 0<k then v0 else 0),.int .i64 (if 1<k then v1 else 0),.int .i64 (if 2<k then v2 else 0)] 173∧Below w.heap.size w wr∧w.heap.size+1<wr.heap.size) (fun i _=>3 - (intOf i).toNat)
 case atStart=>exact ⟨0,by omega,rfl,kr,kc,hB,by omega⟩
 case round =>
  clear kr kc hB hSz
  obtain ⟨k,hk,rfl,kr,kc,hB,hSz⟩:=hrel
  by_cases hlt:k<3
  · have hcall:Bx (Calls Tryz.prog 174 #[(k:Int),.pointer (some p1),.pointer (some p2),.pointer (some p3)] wr fun e w'=>e = .returned (.int .i64 (if k=0 then v0 else if k=1 then v1 else v2))∧Below wr.heap.size wr w'):=⟨by
     obtain rfl | rfl | rfl:k=0∨k=1∨k=2:=by omega
     · exact f0.out wr hB
     · exact f1.out wr hB
     · exact f2.out wr hB⟩
    go_wp2_with fail
    refine hcall.out.mono ?_
    rintro e w1 ⟨rfl,hb⟩
    replace hB:=hB.trans (hb.mono hB.size)
    replace kr:=kr.later hb
    replace kc:=kc.later hb
    replace hSz:=Nat.lt_of_lt_of_le hSz hb.size
    clear hb hcall f0 f1 f2
    have hcc : ∃ v,w1.cell? ⟨w.heap.size+1,k,none⟩=some v:=by
     obtain rfl | rfl | rfl:k=0∨k=1∨k=2:=by omega
     · exact ⟨_,kc.cell 0 rfl⟩
     · exact ⟨_,kc.cell 1 rfl⟩
     · exact ⟨_,kc.cell 2 rfl⟩
    obtain ⟨vc,hcc⟩:=hcc
    have hff:=kc.frozen k
    have kc':=kc.set k (.int .i64 (if k=0 then v0 else if k=1 then v1 else v2))
    have kr':=kr.other ⟨w.heap.size+1,k,none⟩ (.int .i64 (if k=0 then v0 else if k=1 then v1 else v2)) (by simp)
    have Kc:Bx (Bk (w1.setCell ⟨w.heap.size+1,k,none⟩ (.int .i64 (if k=0 then v0 else if k=1 then v1 else v2))) (w.heap.size+1) #[.int .i64 (if 0<k+1 then v0 else 0),.int .i64 (if 1<k+1 then v1 else 0),.int .i64 (if 2<k+1 then v2 else 0)] 173):=⟨by
     obtain rfl | rfl | rfl:k=0∨k=1∨k=2:=by omega
     all_goals simpa using kc'⟩
    have Kr:=Bx.mk kr'
    clear kc kr kc' kr'
    generalize (if k=0 then v0 else if k=1 then v1 else v2)=vv at *
    go_wp2_with fail
    go_roundw
    case rel=>exact ⟨k+1,by omega,by go_num,Kr.out,Kc.out,hB.setCell (by simp) _,by rw [size_setCell];omega⟩
    case measure=>simp [intOf];omega
  · obtain rfl:k=3:=by omega
    obtain ⟨cc0,cc1,cc2⟩:=kc.c3
    obtain ⟨cr0,cr1,cr2⟩:=kr.c3
    obtain ⟨fr0,fr1,fr2⟩:=kr.f3
    go_wp2_with fail
    replace kr:=kr.put3 (.int .i64 v0) (.int .i64 v1) (.int .i64 v2)
    exact bodyPost_ret (v:=.agg #[v0,v1,v2]) (results_cell_row rfl _ _ _ 23 #[v0,v1,v2] (0,0) _ rfl kr Tryz.underlying23 rfl (by kernel_rfl)) rfl ⟨rfl,blw3 hB (by omega) _ _ _⟩
theorem clo_1 (ga gb gc:Nat) (a0 a1 a2 b0 b1 b2:Int) (k v:Int) (hk:(k=0∧v=max a0 b0)∨(k=1∧v=max a1 b1)∨(k=2∧v=max a2 b2)) (w:World)
 (hf:w.cell? ⟨ga,0,none⟩=some (.func (.func 132) #[] #[])) (ha:Bk w gb #[a0,a1,a2] 173) (hb:Bk w gc #[b0,b1,b2] 173) :
 Calls Tryz.prog 173 #[k,.pointer (some ⟨ga,0,none⟩),.pointer (some ⟨gb,0,none⟩),.pointer (some ⟨gc,0,none⟩)] w fun e w'=>e = .returned (.int .i64 v)∧Below w.heap.size w w':=by
 obtain ⟨i,x,y,hi,hi3,hv,hx,hy⟩ : ∃ (i:Nat) (x y:Int),k=(i:Int)∧i<3∧v=max x y∧w.cell? ⟨gb,i,none⟩=some (.int .i64 x)∧w.cell? ⟨gc,i,none⟩=some (.int .i64 y):=by
  rcases hk with ⟨rfl,rfl⟩ | ⟨rfl,rfl⟩ | ⟨rfl,rfl⟩
  · exact ⟨0,_,_,rfl,by omega,rfl,ha.cell 0 rfl,hb.cell 0 rfl⟩
  · exact ⟨1,_,_,rfl,by omega,rfl,ha.cell 1 rfl,hb.cell 1 rfl⟩
  · exact ⟨2,_,_,rfl,by omega,rfl,ha.cell 2 rfl,hb.cell 2 rfl⟩
 subst hi
 clear hk ha hb
 have Hv:=Bx.mk hv
 clear hv
 have b1:(0:Int)≤(i:Int):=by omega
 have b2:(i:Int)<3:=by omega
 have cf : ∀ dk osk,(grow (redrawn w dk) osk).cell? ⟨ga,0,none⟩=some (.func (.func 132) #[] #[]):=cell_regrown hf
 have cx : ∀ dk osk,(grow (redrawn w dk) osk).cell? ⟨gb,i,none⟩=some (.int .i64 x):=cell_regrown hx
 have cy : ∀ dk osk,(grow (redrawn w dk) osk).cell? ⟨gc,i,none⟩=some (.int .i64 y):=cell_regrown hy
 have q0:=Bx.mk fun dk osk=>Calls.regrown_of ((greater_any x y (grow (redrawn w dk) osk)).mono fun _ _ ⟨h1,h2⟩=>⟨h1,by subst h2;exact Below.refl _ _⟩)
 clear hf hx hy
 go_enter Tryz.func173,Tryz.ntmps173
 go_wp2_with fail
 refine wp_region_quiet_below (by kernel_rfl) (by kernel_rfl) ?_
 repeat (first | go_big_quiet_step ((with_reducible exact q0.out _ _)) | quiet_step (with_reducible exact q0.out _ _))
 refine wpQuiet_nil ?_
 rintro _ ⟨⟨dq,osq⟩,rfl⟩
 have hb:=below_regrown w dq osq
 clear cf cx cy q0
 generalize grow (redrawn w dq) osq=W1 at *
 go_wp2_with fail
 go_ret
 exact ⟨ret_int Hv.out.symm,hb⟩
theorem clo_2 (ga gb gc:Nat) (a0 a1 a2 b0 b1 b2:Int) (k v:Int) (hk:(k=0∧v=min a0 b0)∨(k=1∧v=min a1 b1)∨(k=2∧v=min a2 b2)) (w:World)
 (hf:w.cell? ⟨ga,0,none⟩=some (.func (.func 133) #[] #[])) (ha:Bk w gb #[a0,a1,a2] 173) (hb:Bk w gc #[b0,b1,b2] 173) :
 Calls Tryz.prog 174 #[k,.pointer (some ⟨ga,0,none⟩),.pointer (some ⟨gb,0,none⟩),.pointer (some ⟨gc,0,none⟩)] w fun e w'=>e = .returned (.int .i64 v)∧Below w.heap.size w w':=by
 obtain ⟨i,x,y,hi,hi3,hv,hx,hy⟩ : ∃ (i:Nat) (x y:Int),k=(i:Int)∧i<3∧v=min x y∧w.cell? ⟨gb,i,none⟩=some (.int .i64 x)∧w.cell? ⟨gc,i,none⟩=some (.int .i64 y):=by
  rcases hk with ⟨rfl,rfl⟩ | ⟨rfl,rfl⟩ | ⟨rfl,rfl⟩
  · exact ⟨0,_,_,rfl,by omega,rfl,ha.cell 0 rfl,hb.cell 0 rfl⟩
  · exact ⟨1,_,_,rfl,by omega,rfl,ha.cell 1 rfl,hb.cell 1 rfl⟩
  · exact ⟨2,_,_,rfl,by omega,rfl,ha.cell 2 rfl,hb.cell 2 rfl⟩
 subst hi
 clear hk ha hb
 have Hv:=Bx.mk hv
 clear hv
 have b1:(0:Int)≤(i:Int):=by omega
 have b2:(i:Int)<3:=by omega
 have cf : ∀ dk osk,(grow (redrawn w dk) osk).cell? ⟨ga,0,none⟩=some (.func (.func 133) #[] #[]):=cell_regrown hf
 have cx : ∀ dk osk,(grow (redrawn w dk) osk).cell? ⟨gb,i,none⟩=some (.int .i64 x):=cell_regrown hx
 have cy : ∀ dk osk,(grow (redrawn w dk) osk).cell? ⟨gc,i,none⟩=some (.int .i64 y):=cell_regrown hy
 have q0:=Bx.mk fun dk osk=>Calls.regrown_of ((lesser_any x y (grow (redrawn w dk) osk)).mono fun _ _ ⟨h1,h2⟩=>⟨h1,by subst h2;exact Below.refl _ _⟩)
 clear hf hx hy
 go_enter Tryz.func174,Tryz.ntmps174
 go_wp2_with fail
 refine wp_region_quiet_below (by kernel_rfl) (by kernel_rfl) ?_
 repeat (first | go_big_quiet_step ((with_reducible exact q0.out _ _)) | quiet_step (with_reducible exact q0.out _ _))
 refine wpQuiet_nil ?_
 rintro _ ⟨⟨dq,osq⟩,rfl⟩
 have hb:=below_regrown w dq osq
 clear cf cx cy q0
 generalize grow (redrawn w dq) osq=W1 at *
 go_wp2_with fail
 go_ret
 exact ⟨ret_int Hv.out.symm,hb⟩
end
section
open Go.RowKit
theorem eql_box (a0 a1 a2 a3 a4 a5 b0 b1 b2 b3 b4 b5:Int) (w:World):(binOp .eql 25 (.agg #[a0,a1,a2,a3,a4,a5]) (.agg #[b0,b1,b2,b3,b4,b5])).run Tryz.prog w = .ok (.bool (decide ((⟨⟨a0,a1,a2⟩,⟨a3,a4,a5⟩⟩:Box)=⟨⟨b0,b1,b2⟩,⟨b3,b4,b5⟩⟩))) w:=by
 have h1 : Tryz.prog.stoodInHeld 25=false:=by kernel_rfl
 have h2 : Tryz.prog.stoodInHeld 23=false:=by kernel_rfl
 rw [run_eql_struct,run_equalIn_agg _ _ _ _ _ (by kernel_rfl) h1]
 go_simp
 by_cases h3:a0=b0
 rotate_left
 · simp [h3]
 by_cases h4:a1=b1
 rotate_left
 · simp [h4]
 by_cases h5:a2=b2
 rotate_left
 · simp [h5]
 by_cases h6:a3=b3
 rotate_left
 · simp [h6]
 by_cases h7:a4=b4
 rotate_left
 · simp [h7]
 by_cases h8:a5=b5
 rotate_left
 · simp [h8]
 simp [h3,h4,h5,h6,h7,h8]
theorem neq_box (a0 a1 a2 a3 a4 a5 b0 b1 b2 b3 b4 b5:Int) (w:World):(binOp .neq 25 (.agg #[a0,a1,a2,a3,a4,a5]) (.agg #[b0,b1,b2,b3,b4,b5])).run Tryz.prog w = .ok (.bool (!decide ((⟨⟨a0,a1,a2⟩,⟨a3,a4,a5⟩⟩:Box)=⟨⟨b0,b1,b2⟩,⟨b3,b4,b5⟩⟩))) w:=by
 have h1 : Tryz.prog.stoodInHeld 25=false:=by kernel_rfl
 have h2 : Tryz.prog.stoodInHeld 23=false:=by kernel_rfl
 rw [run_neq_struct,run_equalIn_agg _ _ _ _ _ (by kernel_rfl) h1]
 go_simp
 by_cases h3:a0=b0
 rotate_left
 · simp [h3]
 by_cases h4:a1=b1
 rotate_left
 · simp [h4]
 by_cases h5:a2=b2
 rotate_left
 · simp [h5]
 by_cases h6:a3=b3
 rotate_left
 · simp [h6]
 by_cases h7:a4=b4
 rotate_left
 · simp [h7]
 by_cases h8:a5=b5
 rotate_left
 · simp [h8]
 simp [h3,h4,h5,h6,h7,h8]
end
section
open Go.RowKit Go.Sort
set_option maxHeartbeats 1000000 in
set_option maxRecDepth 100000 in
theorem join_any (a0 a1 a2 a3 a4 a5 b0 b1 b2 b3 b4 b5:Int) (w:World) :
 Calls Tryz.prog 131 #[.agg #[a0,a1,a2,a3,a4,a5],.agg #[b0,b1,b2,b3,b4,b5],.func (.func 132) #[] #[],.func (.func 133) #[] #[]] w fun e' w'=>e' = .returned (.agg #[.int .i64 (max a0 b0),.int .i64 (max a1 b1),.int .i64 (max a2 b2),.int .i64 (min a3 b3),.int .i64 (min a4 b4),.int .i64 (min a5 b5)])∧Below w.heap.size w w':=by
 go_enter Tryz.func131,Tryz.ntmps131
 go_wp2_with fail
 generalize hW:World.alloc (World.alloc (World.alloc (World.alloc (World.alloc w _) _) _) _) _=W
 have hSz:w.heap.size+1+1+1+1+1≤W.heap.size:=by rw [←hW];simp
 have hB:Below w.heap.size w W:=by rw [←hW];exact (((((Below.refl _ _).alloc (Nat.le_refl _) _).alloc (by simp) _).alloc (by simp;omega) _).alloc (by simp;omega) _).alloc (by simp;omega) _
 have ka:Bk W (w.heap.size) #[a0,a1,a2,a3,a4,a5] 25:=by rw [←hW];exact blk_old (blk_old (blk_old (blk_old (blk_new _ _ _ (by simp)))))
 have kb:Bk W (w.heap.size+1) #[b0,b1,b2,b3,b4,b5] 25:=by rw [←hW];exact blk_old (blk_old (blk_old (blk_new _ _ _ (by simp))))
 have kl:Bk W (w.heap.size+1+1) #[.func (.func 132) #[] #[]] 169:=bk2 hW
 have kh:Bk W (w.heap.size+1+1+1) #[.func (.func 133) #[] #[]] 169:=bk1 hW
 have kr:Bk W (w.heap.size+1+1+1+1) #[(0:Int),(0:Int),(0:Int),(0:Int),(0:Int),(0:Int)] 25:=bk0 hW
 clear hW
 obtain ⟨ca0,ca1,ca2,ca3,ca4,ca5⟩:=ka.r6
 obtain ⟨cb0,cb1,cb2,cb3,cb4,cb5⟩:=kb.r6
 have q0:=Bx.mk fun dk osk=>(list_any a0 a1 a2 (grow (redrawn W dk) osk))
 have q1:=Bx.mk fun dk osk=>(list_any b0 b1 b2 (grow (redrawn W dk) osk))
 have q2:=Bx.mk fun dk osk=>(list_any a3 a4 a5 (grow (redrawn W dk) osk))
 have q3:=Bx.mk fun dk osk=>(list_any b3 b4 b5 (grow (redrawn W dk) osk))
 refine wp_region_decl 12 4 (fun j=>[9,10,11,12].getD j 0) (fun j=>[15,18,21,24].getD j 0) (fun j=>[173,173,173,173].getD j 0) (fun _=>#[.int .i64 0,.int .i64 0,.int .i64 0]) (fun j=>[#[.int .i64 a0,.int .i64 a1,.int .i64 a2],#[.int .i64 b0,.int .i64 b1,.int .i64 b2],#[.int .i64 a3,.int .i64 a4,.int .i64 a5],#[.int .i64 b3,.int .i64 b4,.int .i64 b5]].getD j #[]) (by kernel_rfl) (by kernel_rfl) ⟨fun j hj=>?_,fun j hj=>?_⟩ 30 (by kernel_rfl) (by rfl) ?_
 · match j,hj with
   | 0,_=>exact ⟨_,rfl,rfl,rfl,alloc_tri _ rfl⟩
   | 1,_=>exact ⟨_,rfl,rfl,rfl,alloc_tri _ rfl⟩
   | 2,_=>exact ⟨_,rfl,rfl,rfl,alloc_tri _ rfl⟩
   | 3,_=>exact ⟨_,rfl,rfl,rfl,alloc_tri _ rfl⟩
   | j+4,hj=>omega
 · match j,hj with
   | 0,_=>exact ⟨_,rfl,rfl,rfl,fun ρ w g h1 h2 hb=>store_tri _ 9 15 rfl _ _ _ _ _ _ ρ w g h1 h2 hb⟩
   | 1,_=>exact ⟨_,rfl,rfl,rfl,fun ρ w g h1 h2 hb=>store_tri _ 10 18 rfl _ _ _ _ _ _ ρ w g h1 h2 hb⟩
   | 2,_=>exact ⟨_,rfl,rfl,rfl,fun ρ w g h1 h2 hb=>store_tri _ 11 21 rfl _ _ _ _ _ _ ρ w g h1 h2 hb⟩
   | 3,_=>exact ⟨_,rfl,rfl,rfl,fun ρ w g h1 h2 hb=>store_tri _ 12 24 rfl _ _ _ _ _ _ ρ w g h1 h2 hb⟩
   | j+4,hj=>omega
 simp only [List.take_succ_cons,List.take_zero]
 repeat (refine wpCalm_step (fun K hK=>?_);go_simp;first | (refine hK _ ?_;clear hK K) | (apply Exists.intro;refine ⟨fun _=>?_,hK _ ?_⟩;(first | ((with_reducible refine (q0.out _ _).mono ?_);exact fun _ _ h=>by simpa using h) | ((with_reducible refine (q1.out _ _).mono ?_);exact fun _ _ h=>by simpa using h) | ((with_reducible refine (q2.out _ _).mono ?_);exact fun _ _ h=>by simpa using h) | ((with_reducible refine (q3.out _ _).mono ?_);exact fun _ _ h=>by simpa using h));clear hK K))
 refine wpCalm_nil ⟨fun j hj=>match j,hj with | 0,_=>rfl | 1,_=>rfl | 2,_=>rfl | 3,_=>rfl | j+4,hj=>absurd hj (by omega),fun g W1 hb hg hne=>?_⟩
 obtain ⟨hp,kp⟩:=hg 0 (by omega)
 obtain ⟨hq,kq⟩:=hg 1 (by omega)
 obtain ⟨hs,ks⟩:=hg 2 (by omega)
 obtain ⟨ht,kt⟩:=hg 3 (by omega)
 have npq:=hne 0 1 (by omega) (by omega) (by omega)
 have nps:=hne 0 2 (by omega) (by omega) (by omega)
 have npt:=hne 0 3 (by omega) (by omega) (by omega)
 have nqs:=hne 1 2 (by omega) (by omega) (by omega)
 have nqt:=hne 1 3 (by omega) (by omega) (by omega)
 have nst:=hne 2 3 (by omega) (by omega) (by omega)
 clear hg hne
 clear ca0 ca1 ca2 ca3 ca4 ca5
 clear cb0 cb1 cb2 cb3 cb4 cb5
 clear q0
 clear q1
 clear q2
 clear q3
 replace hB:=hB.trans (hb.mono hB.size)
 replace ka:=ka.later hb
 replace kb:=kb.later hb
 replace kl:=kl.later hb
 replace kh:=kh.later hb
 replace kr:=kr.later hb
 replace hSz:=Nat.le_trans hSz hb.size
 clear hb
 simp only [puts,List.range_succ,List.range_zero,List.nil_append,List.cons_append,List.map_cons,List.map_nil,List.foldl_cons,List.foldl_nil,List.getD_cons_zero,List.getD_cons_succ]
 generalize g 0=gp at *
 generalize g 1=gq at *
 generalize g 2=gs at *
 generalize g 3=gt at *
 replace kp:Bk W1 gp #[a0,a1,a2] 173:=kp
 replace kq:Bk W1 gq #[b0,b1,b2] 173:=kq
 replace ks:Bk W1 gs #[a3,a4,a5] 173:=ks
 replace kt:Bk W1 gt #[b3,b4,b5] 173:=kt
 go_wp2_with fail
 refine (each_1 ⟨w.heap.size+1+1,0,none⟩ ⟨gp,0,none⟩ ⟨gq,0,none⟩ (max a0 b0) (max a1 b1) (max a2 b2) _ (fun k v hkv W' hb'=>clo_1 _ _ _ a0 a1 a2 b0 b1 b2 k v hkv W' ((kl.later hb').cell 0 rfl) (kp.later hb') (kq.later hb'))).mono ?_
 rintro e' w1 ⟨rfl,hb⟩
 replace hB:=hB.trans (hb.mono hB.size)
 replace ka:=ka.later hb
 replace kb:=kb.later hb
 replace kl:=kl.later hb
 replace kh:=kh.later hb
 replace kr:=kr.later hb
 replace kp:=kp.later hb
 replace kq:=kq.later hb
 replace ks:=ks.later hb
 replace kt:=kt.later hb
 replace hSz:=Nat.le_trans hSz hb.size
 clear hb
 go_wp2_with fail
 refine (each_2 ⟨w.heap.size+1+1+1,0,none⟩ ⟨gs,0,none⟩ ⟨gt,0,none⟩ (min a3 b3) (min a4 b4) (min a5 b5) _ (fun k v hkv W' hb'=>clo_2 _ _ _ a3 a4 a5 b3 b4 b5 k v hkv W' ((kh.later hb').cell 0 rfl) (ks.later hb') (kt.later hb'))).mono ?_
 rintro e' w2 ⟨rfl,hb⟩
 replace hB:=hB.trans (hb.mono hB.size)
 replace ka:=ka.later hb
 replace kb:=kb.later hb
 replace kl:=kl.later hb
 replace kh:=kh.later hb
 replace kr:=kr.later hb
 replace kp:=kp.later hb
 replace kq:=kq.later hb
 replace ks:=ks.later hb
 replace kt:=kt.later hb
 replace hSz:=Nat.le_trans hSz hb.size
 clear hb
 obtain ⟨cr0,cr1,cr2,cr3,cr4,cr5⟩:=kr.c6
 obtain ⟨fr0,fr1,fr2,fr3,fr4,fr5⟩:=kr.f6
 go_wp2_with fail
 replace kr:=kr.put6 (.int .i64 (max a0 b0)) (.int .i64 (max a1 b1)) (.int .i64 (max a2 b2)) (.int .i64 (min a3 b3)) (.int .i64 (min a4 b4)) (.int .i64 (min a5 b5))
 exact bodyPost_ret (v:=.agg #[.int .i64 (max a0 b0),.int .i64 (max a1 b1),.int .i64 (max a2 b2),.int .i64 (min a3 b3),.int .i64 (min a4 b4),.int .i64 (min a5 b5)]) (results_cell_row rfl _ _ _ 25 #[.int .i64 (max a0 b0),.int .i64 (max a1 b1),.int .i64 (max a2 b2),.int .i64 (min a3 b3),.int .i64 (min a4 b4),.int .i64 (min a5 b5)] (0,0) _ rfl kr Tryz.underlying25 rfl (by kernel_rfl)) rfl ⟨rfl,blw6 hB (by omega) _ _ _ _ _ _⟩
set_option maxHeartbeats 1000000 in
theorem meet_any (a0 a1 a2 a3 a4 a5 b0 b1 b2 b3 b4 b5:Int) (w:World) :
 Calls Tryz.prog 72 #[.agg #[a0,a1,a2,a3,a4,a5],.agg #[b0,b1,b2,b3,b4,b5]] w fun e' w'=>e' = .returned (.agg #[.int .i64 (meetB ⟨⟨a0,a1,a2⟩,⟨a3,a4,a5⟩⟩ ⟨⟨b0,b1,b2⟩,⟨b3,b4,b5⟩⟩).lo.x,.int .i64 (meetB ⟨⟨a0,a1,a2⟩,⟨a3,a4,a5⟩⟩ ⟨⟨b0,b1,b2⟩,⟨b3,b4,b5⟩⟩).lo.y,.int .i64 (meetB ⟨⟨a0,a1,a2⟩,⟨a3,a4,a5⟩⟩ ⟨⟨b0,b1,b2⟩,⟨b3,b4,b5⟩⟩).lo.z,.int .i64 (meetB ⟨⟨a0,a1,a2⟩,⟨a3,a4,a5⟩⟩ ⟨⟨b0,b1,b2⟩,⟨b3,b4,b5⟩⟩).hi.x,.int .i64 (meetB ⟨⟨a0,a1,a2⟩,⟨a3,a4,a5⟩⟩ ⟨⟨b0,b1,b2⟩,⟨b3,b4,b5⟩⟩).hi.y,.int .i64 (meetB ⟨⟨a0,a1,a2⟩,⟨a3,a4,a5⟩⟩ ⟨⟨b0,b1,b2⟩,⟨b3,b4,b5⟩⟩).hi.z])∧Below w.heap.size w w':=by
 have hM:=Bx.mk (show meetB ⟨⟨a0,a1,a2⟩,⟨a3,a4,a5⟩⟩ ⟨⟨b0,b1,b2⟩,⟨b3,b4,b5⟩⟩=if emptyB (joinB ⟨⟨a0,a1,a2⟩,⟨a3,a4,a5⟩⟩ ⟨⟨b0,b1,b2⟩,⟨b3,b4,b5⟩⟩)=true then Box.zero else joinB ⟨⟨a0,a1,a2⟩,⟨a3,a4,a5⟩⟩ ⟨⟨b0,b1,b2⟩,⟨b3,b4,b5⟩⟩ from rfl)
 have hJ:=Bx.mk (show joinB ⟨⟨a0,a1,a2⟩,⟨a3,a4,a5⟩⟩ ⟨⟨b0,b1,b2⟩,⟨b3,b4,b5⟩⟩=⟨⟨max a0 b0,max a1 b1,max a2 b2⟩,⟨min a3 b3,min a4 b4,min a5 b5⟩⟩ from rfl)
 rw [hJ.out] at hM
 cases he:emptyB ⟨⟨max a0 b0,max a1 b1,max a2 b2⟩,⟨min a3 b3,min a4 b4,min a5 b5⟩⟩ with
 | false =>
   have He:=Bx.mk he
   rw [he] at hM
   rw [if_neg (by decide)] at hM
   clear he hJ
   go_enter Tryz.func72,Tryz.ntmps72
   go_wp2_with fail
   generalize hW:World.alloc (World.alloc (World.alloc w _) _) _=W
   have hSz:=sz3 hW
   have hB:=bl3 hW
   have ka:Bk W (w.heap.size) #[a0,a1,a2,a3,a4,a5] 25:=bk2 hW
   have kb:Bk W (w.heap.size+1) #[b0,b1,b2,b3,b4,b5] 25:=bk1 hW
   have kr:Bk W (w.heap.size+1+1) #[(0:Int),(0:Int),(0:Int),(0:Int),(0:Int),(0:Int)] 25:=bk0 hW
   clear hW
   refine (join_any _ _ _ _ _ _ _ _ _ _ _ _ _).mono ?_
   rintro e' w1 ⟨rfl,hb⟩
   replace hB:=hB.trans (hb.mono hB.size)
   replace ka:=ka.later hb
   replace kb:=kb.later hb
   replace kr:=kr.later hb
   replace hSz:=Nat.le_trans hSz hb.size
   clear hb
   go_wp2_with fail
   generalize hW1:World.alloc w1 _=W2
   have kc:Bk W2 w1.heap.size #[.int .i64 (max a0 b0),.int .i64 (max a1 b1),.int .i64 (max a2 b2),.int .i64 (min a3 b3),.int .i64 (min a4 b4),.int .i64 (min a5 b5)] 25:=bk0 hW1 rfl
   have hb:=bl1 hW1
   clear hW1
   replace hB:=hB.trans (hb.mono hB.size)
   replace ka:=ka.later hb
   replace kb:=kb.later hb
   replace kr:=kr.later hb
   replace hSz:=Nat.le_trans hSz hb.size
   clear hb
   refine (empty_any _ _ _ _ _ _ _).mono ?_
   rintro e' w3 ⟨rfl,hb⟩
   rw [He.out]
   replace hB:=hB.trans (hb.mono hB.size)
   replace ka:=ka.later hb
   replace kb:=kb.later hb
   replace kr:=kr.later hb
   replace kc:=kc.later hb
   replace hSz:=Nat.le_trans hSz hb.size
   clear hb
   obtain ⟨cr0,cr1,cr2,cr3,cr4,cr5⟩:=kr.c6
   obtain ⟨cc0,cc1,cc2,cc3,cc4,cc5⟩:=kc.c6
   obtain ⟨fr0,fr1,fr2,fr3,fr4,fr5⟩:=kr.f6
   go_wp2_with fail
   replace kr:=kr.put6 (.int .i64 (max a0 b0)) (.int .i64 (max a1 b1)) (.int .i64 (max a2 b2)) (.int .i64 (min a3 b3)) (.int .i64 (min a4 b4)) (.int .i64 (min a5 b5))
   exact bodyPost_ret (v:=.agg #[.int .i64 (max a0 b0),.int .i64 (max a1 b1),.int .i64 (max a2 b2),.int .i64 (min a3 b3),.int .i64 (min a4 b4),.int .i64 (min a5 b5)]) (results_cell_row rfl _ _ _ 25 #[.int .i64 (max a0 b0),.int .i64 (max a1 b1),.int .i64 (max a2 b2),.int .i64 (min a3 b3),.int .i64 (min a4 b4),.int .i64 (min a5 b5)] (0,0) _ rfl kr Tryz.underlying25 rfl (by kernel_rfl)) rfl ⟨by rw [hM.out],blw6 hB (by omega) _ _ _ _ _ _⟩
 | true =>
   have He:=Bx.mk he
   rw [he] at hM
   rw [if_pos rfl] at hM
   clear he hJ
   go_enter Tryz.func72,Tryz.ntmps72
   go_wp2_with fail
   generalize hW:World.alloc (World.alloc (World.alloc w _) _) _=W
   have hSz:=sz3 hW
   have hB:=bl3 hW
   have ka:Bk W (w.heap.size) #[a0,a1,a2,a3,a4,a5] 25:=bk2 hW
   have kb:Bk W (w.heap.size+1) #[b0,b1,b2,b3,b4,b5] 25:=bk1 hW
   have kr:Bk W (w.heap.size+1+1) #[(0:Int),(0:Int),(0:Int),(0:Int),(0:Int),(0:Int)] 25:=bk0 hW
   clear hW
   refine (join_any _ _ _ _ _ _ _ _ _ _ _ _ _).mono ?_
   rintro e' w1 ⟨rfl,hb⟩
   replace hB:=hB.trans (hb.mono hB.size)
   replace ka:=ka.later hb
   replace kb:=kb.later hb
   replace kr:=kr.later hb
   replace hSz:=Nat.le_trans hSz hb.size
   clear hb
   go_wp2_with fail
   generalize hW1:World.alloc w1 _=W2
   have kc:Bk W2 w1.heap.size #[.int .i64 (max a0 b0),.int .i64 (max a1 b1),.int .i64 (max a2 b2),.int .i64 (min a3 b3),.int .i64 (min a4 b4),.int .i64 (min a5 b5)] 25:=bk0 hW1 rfl
   have hb:=bl1 hW1
   clear hW1
   replace hB:=hB.trans (hb.mono hB.size)
   replace ka:=ka.later hb
   replace kb:=kb.later hb
   replace kr:=kr.later hb
   replace hSz:=Nat.le_trans hSz hb.size
   clear hb
   refine (empty_any _ _ _ _ _ _ _).mono ?_
   rintro e' w3 ⟨rfl,hb⟩
   rw [He.out]
   replace hB:=hB.trans (hb.mono hB.size)
   replace ka:=ka.later hb
   replace kb:=kb.later hb
   replace kr:=kr.later hb
   replace kc:=kc.later hb
   replace hSz:=Nat.le_trans hSz hb.size
   clear hb
   obtain ⟨cr0,cr1,cr2,cr3,cr4,cr5⟩:=kr.c6
   obtain ⟨cc0,cc1,cc2,cc3,cc4,cc5⟩:=kc.c6
   obtain ⟨fr0,fr1,fr2,fr3,fr4,fr5⟩:=kr.f6
   go_wp2_with fail
   replace kr:=kr.put6 (.int .i64 0) (.int .i64 0) (.int .i64 0) (.int .i64 0) (.int .i64 0) (.int .i64 0)
   exact bodyPost_ret (v:=.agg #[(0:Int),(0:Int),(0:Int),(0:Int),(0:Int),(0:Int)]) (results_cell_row rfl _ _ _ 25 #[(0:Int),(0:Int),(0:Int),(0:Int),(0:Int),(0:Int)] (0,0) _ rfl kr Tryz.underlying25 rfl (by kernel_rfl)) rfl ⟨by rw [hM.out];rfl,blw6 hB (by omega) _ _ _ _ _ _⟩
theorem contains_any (a0 a1 a2 a3 a4 a5 b0 b1 b2 b3 b4 b5:Int) (w:World) :
 Calls Tryz.prog 91 #[.agg #[a0,a1,a2,a3,a4,a5],.agg #[b0,b1,b2,b3,b4,b5]] w fun e' w'=>e' = .returned (.bool (containsB ⟨⟨a0,a1,a2⟩,⟨a3,a4,a5⟩⟩ ⟨⟨b0,b1,b2⟩,⟨b3,b4,b5⟩⟩))∧Below w.heap.size w w':=by
 cases he:emptyB ⟨⟨b0,b1,b2⟩,⟨b3,b4,b5⟩⟩ with
 | true =>
   have hc:=Bx.mk (show containsB ⟨⟨a0,a1,a2⟩,⟨a3,a4,a5⟩⟩ ⟨⟨b0,b1,b2⟩,⟨b3,b4,b5⟩⟩=true by simp [containsB,he])
   have he':=Bx.mk fun W=>((empty_any b0 b1 b2 b3 b4 b5 W).mono (R':=fun e w'=>e = .returned (.bool true)∧Below W.heap.size W w') (by rw [he];exact fun _ _ h=>h))
   clear he
   go_enter Tryz.func91,Tryz.ntmps91
   go_wp2_with fail
   generalize hW:World.alloc (World.alloc w _) _=W
   have hSz:=sz2 hW
   have hB:=bl2 hW
   have ka:Bk W (w.heap.size) #[a0,a1,a2,a3,a4,a5] 25:=bk1 hW
   have kb:Bk W (w.heap.size+1) #[b0,b1,b2,b3,b4,b5] 25:=bk0 hW
   clear hW
   obtain ⟨ca0,ca1,ca2,ca3,ca4,ca5⟩:=ka.r6
   obtain ⟨cb0,cb1,cb2,cb3,cb4,cb5⟩:=kb.r6
   have q0:=Bx.mk fun dk osk=>Calls.regrown_of (he'.out (grow (redrawn W dk) osk))
   refine wp_region_quiet_below (by kernel_rfl) (by kernel_rfl) ?_
   repeat (first | go_big_quiet_step ((first | with_reducible exact q0.out _ _)) | quiet_step (first | with_reducible exact q0.out _ _))
   refine wpQuiet_nil ?_
   rintro _ ⟨⟨dq,osq⟩,rfl⟩
   have hb:=below_regrown W dq osq
   clear ca0 ca1 ca2 ca3 ca4 ca5
   clear cb0 cb1 cb2 cb3 cb4 cb5
   clear q0
   replace hB:=hB.trans (hb.mono hB.size)
   replace ka:=ka.later hb
   replace kb:=kb.later hb
   replace hSz:=Nat.le_trans hSz hb.size
   clear hb
   generalize grow (redrawn W dq) osq=W1 at *
   go_wp2_with fail
   go_ret
   exact ⟨ret_bool hc.out.symm,hB⟩
 | false =>
   have hc:=Bx.mk (show containsB ⟨⟨a0,a1,a2⟩,⟨a3,a4,a5⟩⟩ ⟨⟨b0,b1,b2⟩,⟨b3,b4,b5⟩⟩=decide (meetB ⟨⟨a0,a1,a2⟩,⟨a3,a4,a5⟩⟩ ⟨⟨b0,b1,b2⟩,⟨b3,b4,b5⟩⟩=⟨⟨b0,b1,b2⟩,⟨b3,b4,b5⟩⟩) by simp [containsB,he])
   have he':=Bx.mk fun W=>((empty_any b0 b1 b2 b3 b4 b5 W).mono (R':=fun e w'=>e = .returned (.bool false)∧Below W.heap.size W w') (by rw [he];exact fun _ _ h=>h))
   have hm:=Bx.mk fun W=>meet_any a0 a1 a2 a3 a4 a5 b0 b1 b2 b3 b4 b5 W
   generalize meetB ⟨⟨a0,a1,a2⟩,⟨a3,a4,a5⟩⟩ ⟨⟨b0,b1,b2⟩,⟨b3,b4,b5⟩⟩=m at *
   obtain ⟨⟨m0,m1,m2⟩,⟨m3,m4,m5⟩⟩:=m
   simp only [] at hm
   have heq:=fun W=>eql_box m0 m1 m2 m3 m4 m5 b0 b1 b2 b3 b4 b5 W
   generalize decide ((⟨⟨m0,m1,m2⟩,⟨m3,m4,m5⟩⟩:Box)=⟨⟨b0,b1,b2⟩,⟨b3,b4,b5⟩⟩)=r at *
   clear he
   go_enter Tryz.func91,Tryz.ntmps91
   go_wp2_with fail
   generalize hW:World.alloc (World.alloc w _) _=W
   have hSz:=sz2 hW
   have hB:=bl2 hW
   have ka:Bk W (w.heap.size) #[a0,a1,a2,a3,a4,a5] 25:=bk1 hW
   have kb:Bk W (w.heap.size+1) #[b0,b1,b2,b3,b4,b5] 25:=bk0 hW
   clear hW
   obtain ⟨ca0,ca1,ca2,ca3,ca4,ca5⟩:=ka.r6
   obtain ⟨cb0,cb1,cb2,cb3,cb4,cb5⟩:=kb.r6
   have q0:=Bx.mk fun dk osk=>Calls.regrown_of (he'.out (grow (redrawn W dk) osk))
   have q1:=Bx.mk fun dk osk=>Calls.regrown_of (hm.out (grow (redrawn W dk) osk))
   refine wp_region_quiet_below (by kernel_rfl) (by kernel_rfl) ?_
   repeat (first | go_big_quiet_step ((first | with_reducible exact q0.out _ _ | with_reducible exact q1.out _ _)) | quiet_step (first | with_reducible exact q0.out _ _ | with_reducible exact q1.out _ _))
   refine wpQuiet_nil ?_
   rintro _ ⟨⟨dq,osq⟩,rfl⟩
   have hb:=below_regrown W dq osq
   clear ca0 ca1 ca2 ca3 ca4 ca5
   clear cb0 cb1 cb2 cb3 cb4 cb5
   clear q0
   clear q1
   replace hB:=hB.trans (hb.mono hB.size)
   replace ka:=ka.later hb
   replace kb:=kb.later hb
   replace hSz:=Nat.le_trans hSz hb.size
   clear hb
   generalize grow (redrawn W dq) osq=W1 at *
   go_wp2_with fail
   go_ret
   exact ⟨ret_bool hc.out.symm,hB⟩
end
end Go.Proofs.YtfcbajmjaifjlaaGreat
