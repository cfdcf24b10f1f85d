/- Gq, Rm5: joined by program, for one claim. -/
import Derived.Test.YtfcbajmjaifjlaaGreatMr
import Derived.Test.YtfcbajmjaifjlaaGreatM44
import Derived.Test.YtfcbajmjaifjlaaGreatM19
set_option linter.unusedVariables false
set_option linter.unusedSimpArgs false
namespace Go.Proofs.YtfcbajmjaifjlaaGreat
section
open Go.RowKit Go.Sort Go.Maps
open Oct
set_option maxRecDepth 100000 in
set_option maxHeartbeats 1000000 in
theorem part9_any (f:Pt→Int) (hf : ∀ p,0≤f p∧f p≤255) (px py pz:Int) (L:Nat) (hL:2≤L) : ∀ (n:Nat),n≤12→L≤n+2 → ∀ (ax ay az:Int),Tr.Al n ⟨ax,ay,az⟩→Tr.InC n ⟨ax,ay,az⟩ ⟨px,py,pz⟩→(0≤ax∧ax+2 ^ (n+2)≤16384)→(0≤ay∧ay+2 ^ (n+2)≤16384)→(0≤az∧az+2 ^ (n+2)≤16384) → ∀ (w:World),
 Calls Tryz.prog 126 #[.string (strOfNums (Tr.enc (Tr.can f n ⟨ax,ay,az⟩))),.agg #[ax,ay,az],.int .i64 ((n:Int)+2),.agg #[px,py,pz],(L:Int)] w fun e w'=>e = .returned (.string (strOfNums (Tr.enc (partT (Tr.can f n ⟨ax,ay,az⟩) n L ⟨px,py,pz⟩))))∧Below w.heap.size w w':=by
 intro n
 induction n using Nat.strongRecOn with
 | _ n ih =>
   intro hn hLn ax ay az hal hin hx hy hz w
   have hp:=pow_le (show n+2≤14 by omega)
   have hw:=wf_can hf n ⟨ax,ay,az⟩ (by omega)
   have hs:=can_size hf hn ⟨ax,ay,az⟩
   rcases can_cases f n ⟨ax,ay,az⟩ with ⟨c,hc⟩ | ⟨rfl,l,hc,hl⟩ | ⟨m,ch,rfl,hc,hch⟩
   · rw [hc] at hw ⊢
     rw [partT_uni]
     exact part9_uni c hw ax ay az px py pz _ _ w
   · obtain rfl:L=2:=by omega
     rw [hc] at hw ⊢
     rw [partT_stop (by omega)]
     exact part9_stop (.brick l) hw (fun c e=>by cases e) ax ay az px py pz _ _ (by simp) w
   · by_cases hs2:L=m+3
     · subst hs2
       rw [hc] at hw ⊢
       rw [partT_stop (by omega)]
       exact part9_stop (.node (m+3) ch) hw (fun c e=>by cases e) ax ay az px py pz _ _ (by omega) w
     · rw [hc] at hw hs ⊢
       rw [partT_node (by omega)]
       have hps:=Tr.pow_succ2 m
       have h3:(((m+1:Nat):Int)+2)=(m:Int)+3:=by omega
       rw [h3]
       have hk:=Tr.octN_lt m ⟨px,py,pz⟩
       have hb:=ch_bd hk (show (0:Int)≤2 ^ (m+2) by have:=Tr.pow_pos2 m;omega)
       have hco:=cor_at ax ay az m (Tr.octN m ⟨px,py,pz⟩)
       have h1:=Tr.al_cor hal (Tr.octN m ⟨px,py,pz⟩)
       have h2:Tr.InC m (Tr.cor ⟨ax,ay,az⟩ m (Tr.octN m ⟨px,py,pz⟩)) ⟨px,py,pz⟩:=Tr.inC_step hal hin
       have hp0:=Tr.pow_pos2 m
       rw [hco] at h1 h2
       have hcor:=fun W=>corner9_any (m+2) (by omega) ax ay az _ hk (by omega) (by omega) (by omega) W
       rw [show ((m+2:Nat):Int)+1=(m:Int)+3 by omega] at hcor
       refine part9_node m (by omega) ch hw (by omega) _ hk ax ay az px py pz _ _ _ (L:Int) _ (by simp;omega) (fun W=>octant9_any m (by omega) ax ay az px py pz hal hin (by omega) (by omega) (by omega) W) hcor (fun W=>?_) w
       have:=ih m (by omega) (by omega) (by omega) _ _ _ h1 h2 (by omega) (by omega) (by omega) W
       rw [←hco,←hch ⟨_,hk⟩] at this
       exact this
set_option maxRecDepth 100000 in
set_option maxHeartbeats 1000000 in
theorem Part9_in (n:Nat) (hn:n≤12) (f:Pt→Int) (px py pz lv:Int) (hI:inB ⟨px,py,pz⟩ (cubeB (2 ^ (n+2)))=false) (w:World) :
 Calls Tryz.prog 61 #[.string (strOfNums (Tr.enc (trF n f))),.int .i64 ((n:Int)+2),.agg #[px,py,pz],lv] w fun e w'=>e = .returned (.tuple #[.string (ByteArray.empty),(1:Int)])∧Below w.heap.size w w':=by
 have hp:=pow_le (show n+2≤14 by omega)
 have hcub:=fun W=>cube9_zero (n+2) (by omega) W
 have hrin:=fun W=>ref_in px py pz 0 0 0 (2 ^ (n+2)) (2 ^ (n+2)) (2 ^ (n+2)) W
 rw [show ((n+2:Nat):Int)=(n:Int)+2 by omega] at hcub
 have hcub:=Bx.mk hcub
 rw [show inB ⟨px,py,pz⟩ ⟨⟨0,0,0⟩,⟨2 ^ (n+2),2 ^ (n+2),2 ^ (n+2)⟩⟩=false from hI] at hrin
 have hrin:=Bx.mk hrin
 clear hI hp
 generalize strOfNums (Tr.enc (trF n f))=S at *
 generalize (2:Int) ^ (n+2)=m at *
 go_enter Tryz.func61,Tryz.ntmps61
 go_upto_region 1 with fail
 generalize hW:World.alloc w _=W
 have hB:=bl1 hW
 have kp:Bk W (w.heap.size) #[px,py,pz] 23:=bk0 hW
 clear hW
 obtain ⟨cp0,cp1,cp2⟩:=kp.r3
 have q0:=Bx.mk fun dk osk=>Calls.regrown_of (hcub.out (grow (redrawn W dk) osk))
 have q1:=Bx.mk fun dk osk=>Calls.regrown_of (hrin.out (grow (redrawn W dk) osk))
 refine wp_region_quiet_below (by kernel_rfl) (by kernel_rfl) ?_
 repeat (first | go_big_quiet_step ((first | with_reducible exact q0.out _ _ | with_reducible exact q1.out _ _)) | quiet_step (first | with_reducible exact q0.out _ _ | with_reducible exact q1.out _ _))
 refine wpQuiet_nil ?_
 rintro _ ⟨⟨dq,osq⟩,rfl⟩
 have hb0:=below_regrown W dq osq
 replace hB:=hB.trans (hb0.mono hB.size)
 replace kp:=kp.later hb0
 clear q0 q1 cp0 cp1 cp2 hb0 hcub hrin
 generalize grow (redrawn W dq) osq=w1 at *
 obtain ⟨cp0,cp1,cp2⟩:=kp.c3
 go_wp2_with fail
 go_ret2
 exact ⟨rfl,hB⟩
set_option maxRecDepth 100000 in
set_option maxHeartbeats 1000000 in
theorem Part9_lo (n:Nat) (hn:n≤12) (f:Pt→Int) (px py pz lv:Int) (hI:inB ⟨px,py,pz⟩ (cubeB (2 ^ (n+2)))=true) (h1:lv<2) (w:World) :
 Calls Tryz.prog 61 #[.string (strOfNums (Tr.enc (trF n f))),.int .i64 ((n:Int)+2),.agg #[px,py,pz],lv] w fun e w'=>e = .returned (.tuple #[.string (ByteArray.empty),(1:Int)])∧Below w.heap.size w w':=by
 have hp:=pow_le (show n+2≤14 by omega)
 have hcub:=fun W=>cube9_zero (n+2) (by omega) W
 have hrin:=fun W=>ref_in px py pz 0 0 0 (2 ^ (n+2)) (2 ^ (n+2)) (2 ^ (n+2)) W
 rw [show ((n+2:Nat):Int)=(n:Int)+2 by omega] at hcub
 have hcub:=Bx.mk hcub
 rw [show inB ⟨px,py,pz⟩ ⟨⟨0,0,0⟩,⟨2 ^ (n+2),2 ^ (n+2),2 ^ (n+2)⟩⟩=true from hI] at hrin
 have hrin:=Bx.mk hrin
 clear hI hp
 have t1:decide (lv<2)=true:=by simpa using h1
 generalize strOfNums (Tr.enc (trF n f))=S at *
 generalize (2:Int) ^ (n+2)=m at *
 go_enter Tryz.func61,Tryz.ntmps61
 go_upto_region 1 with fail
 generalize hW:World.alloc w _=W
 have hB:=bl1 hW
 have kp:Bk W (w.heap.size) #[px,py,pz] 23:=bk0 hW
 clear hW
 obtain ⟨cp0,cp1,cp2⟩:=kp.r3
 have q0:=Bx.mk fun dk osk=>Calls.regrown_of (hcub.out (grow (redrawn W dk) osk))
 have q1:=Bx.mk fun dk osk=>Calls.regrown_of (hrin.out (grow (redrawn W dk) osk))
 refine wp_region_quiet_below (by kernel_rfl) (by kernel_rfl) ?_
 repeat (first | go_big_quiet_step ((first | with_reducible exact q0.out _ _ | with_reducible exact q1.out _ _)) | quiet_step (first | with_reducible exact q0.out _ _ | with_reducible exact q1.out _ _))
 refine wpQuiet_nil ?_
 rintro _ ⟨⟨dq,osq⟩,rfl⟩
 have hb0:=below_regrown W dq osq
 replace hB:=hB.trans (hb0.mono hB.size)
 replace kp:=kp.later hb0
 clear q0 q1 cp0 cp1 cp2 hb0 hcub hrin
 generalize grow (redrawn W dq) osq=w1 at *
 obtain ⟨cp0,cp1,cp2⟩:=kp.c3
 go_wp2_with fail
 go_ret2
 exact ⟨rfl,hB⟩
set_option maxRecDepth 100000 in
set_option maxHeartbeats 1000000 in
theorem Part9_hi (n:Nat) (hn:n≤12) (f:Pt→Int) (px py pz lv:Int) (hI:inB ⟨px,py,pz⟩ (cubeB (2 ^ (n+2)))=true) (h1 : ¬lv<2) (h2:(n:Int)+2<lv) (w:World) :
 Calls Tryz.prog 61 #[.string (strOfNums (Tr.enc (trF n f))),.int .i64 ((n:Int)+2),.agg #[px,py,pz],lv] w fun e w'=>e = .returned (.tuple #[.string (ByteArray.empty),(1:Int)])∧Below w.heap.size w w':=by
 have hp:=pow_le (show n+2≤14 by omega)
 have hcub:=fun W=>cube9_zero (n+2) (by omega) W
 have hrin:=fun W=>ref_in px py pz 0 0 0 (2 ^ (n+2)) (2 ^ (n+2)) (2 ^ (n+2)) W
 rw [show ((n+2:Nat):Int)=(n:Int)+2 by omega] at hcub
 have hcub:=Bx.mk hcub
 rw [show inB ⟨px,py,pz⟩ ⟨⟨0,0,0⟩,⟨2 ^ (n+2),2 ^ (n+2),2 ^ (n+2)⟩⟩=true from hI] at hrin
 have hrin:=Bx.mk hrin
 clear hI hp
 have t1:decide (lv<2)=false:=by simpa using h1
 have t2:decide ((n:Int)+2<lv)=true:=by simpa using h2
 generalize strOfNums (Tr.enc (trF n f))=S at *
 generalize (2:Int) ^ (n+2)=m at *
 go_enter Tryz.func61,Tryz.ntmps61
 go_upto_region 1 with fail
 generalize hW:World.alloc w _=W
 have hB:=bl1 hW
 have kp:Bk W (w.heap.size) #[px,py,pz] 23:=bk0 hW
 clear hW
 obtain ⟨cp0,cp1,cp2⟩:=kp.r3
 have q0:=Bx.mk fun dk osk=>Calls.regrown_of (hcub.out (grow (redrawn W dk) osk))
 have q1:=Bx.mk fun dk osk=>Calls.regrown_of (hrin.out (grow (redrawn W dk) osk))
 refine wp_region_quiet_below (by kernel_rfl) (by kernel_rfl) ?_
 repeat (first | go_big_quiet_step ((first | with_reducible exact q0.out _ _ | with_reducible exact q1.out _ _)) | quiet_step (first | with_reducible exact q0.out _ _ | with_reducible exact q1.out _ _))
 refine wpQuiet_nil ?_
 rintro _ ⟨⟨dq,osq⟩,rfl⟩
 have hb0:=below_regrown W dq osq
 replace hB:=hB.trans (hb0.mono hB.size)
 replace kp:=kp.later hb0
 clear q0 q1 cp0 cp1 cp2 hb0 hcub hrin
 generalize grow (redrawn W dq) osq=w1 at *
 obtain ⟨cp0,cp1,cp2⟩:=kp.c3
 go_wp2_with fail
 go_ret2
 exact ⟨rfl,hB⟩
set_option maxRecDepth 100000 in
set_option maxHeartbeats 1000000 in
theorem Part9_al (n L:Nat) (hn:n≤12) (hL:2≤L) (hL2:L≤n+2) (f:Pt→Int) (px py pz:Int) (hI:inB ⟨px,py,pz⟩ (cubeB (2 ^ (n+2)))=true) (hA:alB L ⟨px,py,pz⟩=false) (w:World) :
 Calls Tryz.prog 61 #[.string (strOfNums (Tr.enc (trF n f))),.int .i64 ((n:Int)+2),.agg #[px,py,pz],(L:Int)] w fun e w'=>e = .returned (.tuple #[.string (ByteArray.empty),(1:Int)])∧Below w.heap.size w w':=by
 have hp:=pow_le (show n+2≤14 by omega)
 have hcub:=fun W=>cube9_zero (n+2) (by omega) W
 have hrin:=fun W=>ref_in px py pz 0 0 0 (2 ^ (n+2)) (2 ^ (n+2)) (2 ^ (n+2)) W
 rw [show ((n+2:Nat):Int)=(n:Int)+2 by omega] at hcub
 have hcub:=Bx.mk hcub
 obtain ⟨rx,ry,rz⟩:=in_range hn hI
 rw [show inB ⟨px,py,pz⟩ ⟨⟨0,0,0⟩,⟨2 ^ (n+2),2 ^ (n+2),2 ^ (n+2)⟩⟩=true from hI] at hrin
 have hrin:=Bx.mk hrin
 have hsd:=Bx.mk (side_any L (by omega))
 have t1:decide ((L:Int)<2)=false:=by simp;omega
 have t2:decide ((n:Int)+2<(L:Int))=false:=by simp;omega
 have hsp:=Int.pow_pos (n:=2) (m:=L) (by decide)
 have hA2 : ¬(px % 2 ^ L=0∧py % 2 ^ L=0∧pz % 2 ^ L=0):=of_decide_eq_false hA
 clear hI hp hA
 generalize strOfNums (Tr.enc (trF n f))=S at *
 generalize (2:Int) ^ (n+2)=m at *
 generalize (2:Int) ^ L=s at *
 have hx0:=rx.1
 have hy0:=ry.1
 have hz0:=rz.1
 have hs0:(0:Int)≤s:=by omega
 have hs1:(s == 0)=false:=by simp;omega
 by_cases ax:px % s=0
 · have u1:(px % s != 0)=false:=by simp [ax]
   by_cases ay:py % s=0
   · have u2:(py % s != 0)=false:=by simp [ay]
     have u3:(pz % s != 0)=true:=by simp;intro h;exact hA2 ⟨ax,ay,h⟩
     clear ax ay hA2 rx ry rz
     go_enter Tryz.func61,Tryz.ntmps61
     go_upto_region 1 with fail
     generalize hW:World.alloc w _=W
     have hB:=bl1 hW
     have kp:Bk W (w.heap.size) #[px,py,pz] 23:=bk0 hW
     clear hW
     obtain ⟨cp0,cp1,cp2⟩:=kp.r3
     have q0:=Bx.mk fun dk osk=>Calls.regrown_of (hcub.out (grow (redrawn W dk) osk))
     have q1:=Bx.mk fun dk osk=>Calls.regrown_of (hrin.out (grow (redrawn W dk) osk))
     refine wp_region_quiet_below (by kernel_rfl) (by kernel_rfl) ?_
     repeat (first | go_big_quiet_step ((first | with_reducible exact q0.out _ _ | with_reducible exact q1.out _ _)) | quiet_step (first | with_reducible exact q0.out _ _ | with_reducible exact q1.out _ _))
     refine wpQuiet_nil ?_
     rintro _ ⟨⟨dq,osq⟩,rfl⟩
     have hb0:=below_regrown W dq osq
     replace hB:=hB.trans (hb0.mono hB.size)
     replace kp:=kp.later hb0
     clear q0 q1 cp0 cp1 cp2 hb0 hcub hrin
     generalize grow (redrawn W dq) osq=w1 at *
     obtain ⟨cp0,cp1,cp2⟩:=kp.c3
     go_wp2_with fail
     refine (hsd.out _).mono ?_
     rintro _ _ ⟨rfl,rfl⟩
     go_wp2_with fail
     go_ret2
     exact ⟨rfl,hB⟩
   · have u2:(py % s != 0)=true:=by simpa using ay
     clear ax ay hA2 rx ry rz
     go_enter Tryz.func61,Tryz.ntmps61
     go_upto_region 1 with fail
     generalize hW:World.alloc w _=W
     have hB:=bl1 hW
     have kp:Bk W (w.heap.size) #[px,py,pz] 23:=bk0 hW
     clear hW
     obtain ⟨cp0,cp1,cp2⟩:=kp.r3
     have q0:=Bx.mk fun dk osk=>Calls.regrown_of (hcub.out (grow (redrawn W dk) osk))
     have q1:=Bx.mk fun dk osk=>Calls.regrown_of (hrin.out (grow (redrawn W dk) osk))
     refine wp_region_quiet_below (by kernel_rfl) (by kernel_rfl) ?_
     repeat (first | go_big_quiet_step ((first | with_reducible exact q0.out _ _ | with_reducible exact q1.out _ _)) | quiet_step (first | with_reducible exact q0.out _ _ | with_reducible exact q1.out _ _))
     refine wpQuiet_nil ?_
     rintro _ ⟨⟨dq,osq⟩,rfl⟩
     have hb0:=below_regrown W dq osq
     replace hB:=hB.trans (hb0.mono hB.size)
     replace kp:=kp.later hb0
     clear q0 q1 cp0 cp1 cp2 hb0 hcub hrin
     generalize grow (redrawn W dq) osq=w1 at *
     obtain ⟨cp0,cp1,cp2⟩:=kp.c3
     go_wp2_with fail
     refine (hsd.out _).mono ?_
     rintro _ _ ⟨rfl,rfl⟩
     go_wp2_with fail
     go_ret2
     exact ⟨rfl,hB⟩
 · have u1:(px % s != 0)=true:=by simpa using ax
   clear ax hA2 rx ry rz
   go_enter Tryz.func61,Tryz.ntmps61
   go_upto_region 1 with fail
   generalize hW:World.alloc w _=W
   have hB:=bl1 hW
   have kp:Bk W (w.heap.size) #[px,py,pz] 23:=bk0 hW
   clear hW
   obtain ⟨cp0,cp1,cp2⟩:=kp.r3
   have q0:=Bx.mk fun dk osk=>Calls.regrown_of (hcub.out (grow (redrawn W dk) osk))
   have q1:=Bx.mk fun dk osk=>Calls.regrown_of (hrin.out (grow (redrawn W dk) osk))
   refine wp_region_quiet_below (by kernel_rfl) (by kernel_rfl) ?_
   repeat (first | go_big_quiet_step ((first | with_reducible exact q0.out _ _ | with_reducible exact q1.out _ _)) | quiet_step (first | with_reducible exact q0.out _ _ | with_reducible exact q1.out _ _))
   refine wpQuiet_nil ?_
   rintro _ ⟨⟨dq,osq⟩,rfl⟩
   have hb0:=below_regrown W dq osq
   replace hB:=hB.trans (hb0.mono hB.size)
   replace kp:=kp.later hb0
   clear q0 q1 cp0 cp1 cp2 hb0 hcub hrin
   generalize grow (redrawn W dq) osq=w1 at *
   obtain ⟨cp0,cp1,cp2⟩:=kp.c3
   go_wp2_with fail
   refine (hsd.out _).mono ?_
   rintro _ _ ⟨rfl,rfl⟩
   go_wp2_with fail
   go_ret2
   exact ⟨rfl,hB⟩
set_option maxRecDepth 100000 in
set_option maxHeartbeats 1000000 in
theorem Part9_ok (n L:Nat) (hn:n≤12) (hL:2≤L) (hL2:L≤n+2) (f:Pt→Int) (hf : ∀ p,0≤f p∧f p≤255) (px py pz:Int) (hI:inB ⟨px,py,pz⟩ (cubeB (2 ^ (n+2)))=true) (hA:alB L ⟨px,py,pz⟩=true) (w:World) :
 Calls Tryz.prog 61 #[.string (strOfNums (Tr.enc (trF n f))),.int .i64 ((n:Int)+2),.agg #[px,py,pz],(L:Int)] w fun e w'=>e = .returned (.tuple #[.string (strOfNums (Tr.enc (partT (trF n f) n L ⟨px,py,pz⟩))),(0:Int)])∧Below w.heap.size w w':=by
 have hp:=pow_le (show n+2≤14 by omega)
 have hcub:=fun W=>cube9_zero (n+2) (by omega) W
 have hrin:=fun W=>ref_in px py pz 0 0 0 (2 ^ (n+2)) (2 ^ (n+2)) (2 ^ (n+2)) W
 rw [show ((n+2:Nat):Int)=(n:Int)+2 by omega] at hcub
 have hcub:=Bx.mk hcub
 have hset:=Bx.mk fun W=>part9_any f hf px py pz L hL n hn hL2 0 0 0 (al_zero n) (inC_of_in hI) (by omega) (by omega) (by omega) W
 obtain ⟨rx,ry,rz⟩:=in_range hn hI
 rw [show inB ⟨px,py,pz⟩ ⟨⟨0,0,0⟩,⟨2 ^ (n+2),2 ^ (n+2),2 ^ (n+2)⟩⟩=true from hI] at hrin
 have hrin:=Bx.mk hrin
 have hsd:=Bx.mk (side_any L (by omega))
 have t1:decide ((L:Int)<2)=false:=by simp;omega
 have t2:decide ((n:Int)+2<(L:Int))=false:=by simp;omega
 have hsp:=Int.pow_pos (n:=2) (m:=L) (by decide)
 have hA2:px % 2 ^ L=0∧py % 2 ^ L=0∧pz % 2 ^ L=0:=of_decide_eq_true hA
 clear hI hp hA
 unfold trF
 generalize strOfNums (Tr.enc (partT (Tr.can f n ⟨0,0,0⟩) n L ⟨px,py,pz⟩))=R at *
 generalize strOfNums (Tr.enc (Tr.can f n ⟨0,0,0⟩))=S at *
 generalize (2:Int) ^ (n+2)=m at *
 generalize (2:Int) ^ L=s at *
 have hx0:=rx.1
 have hy0:=ry.1
 have hz0:=rz.1
 have hs0:(0:Int)≤s:=by omega
 have hs1:(s == 0)=false:=by simp;omega
 have u1:(px % s != 0)=false:=by simp [hA2.1]
 have u2:(py % s != 0)=false:=by simp [hA2.2.1]
 have u3:(pz % s != 0)=false:=by simp [hA2.2.2]
 clear hA2 rx ry rz
 go_enter Tryz.func61,Tryz.ntmps61
 go_upto_region 1 with fail
 generalize hW:World.alloc w _=W
 have hB:=bl1 hW
 have kp:Bk W (w.heap.size) #[px,py,pz] 23:=bk0 hW
 clear hW
 obtain ⟨cp0,cp1,cp2⟩:=kp.r3
 have q0:=Bx.mk fun dk osk=>Calls.regrown_of (hcub.out (grow (redrawn W dk) osk))
 have q1:=Bx.mk fun dk osk=>Calls.regrown_of (hrin.out (grow (redrawn W dk) osk))
 refine wp_region_quiet_below (by kernel_rfl) (by kernel_rfl) ?_
 repeat (first | go_big_quiet_step ((first | with_reducible exact q0.out _ _ | with_reducible exact q1.out _ _)) | quiet_step (first | with_reducible exact q0.out _ _ | with_reducible exact q1.out _ _))
 refine wpQuiet_nil ?_
 rintro _ ⟨⟨dq,osq⟩,rfl⟩
 have hb0:=below_regrown W dq osq
 replace hB:=hB.trans (hb0.mono hB.size)
 replace kp:=kp.later hb0
 clear q0 q1 cp0 cp1 cp2 hb0 hcub hrin
 generalize grow (redrawn W dq) osq=w1 at *
 obtain ⟨cp0,cp1,cp2⟩:=kp.c3
 go_wp2_with fail
 refine (hsd.out _).mono ?_
 rintro _ _ ⟨rfl,rfl⟩
 go_wp2_with fail
 refine (hset.out _).mono ?_
 rintro _ w2 ⟨rfl,hb2⟩
 replace hB:=hB.trans (hb2.mono hB.size)
 clear hb2 cp0 cp1 cp2
 go_wp2_with fail
 go_ret2
 exact ⟨rfl,hB⟩
end
section
open Go.RowKit Go.Sort Go.Maps
open Oct
theorem fill_made {N:Nat} (b:Box) (cell:Int) (hc:0≤cell∧cell≤255) (g:Pt→Int):MadeC (fun _ _=>True) N 1 b cell ⟨⟨0,0,0⟩,⟨0,0,0⟩⟩ [] ByteArray.empty g (fillF N b cell g) where
 vtop:=trivial
 vkid:=fun _ _ _ _ _ _ _ _=>trivial
 off:=fun n a hin _ h=>fill_off hin h
 part:=fun _ _ _ h=>absurd h (by decide)
 uni:=fun n a hin _ h=>⟨hc,fill_in hin h⟩
 cells:=fun a hin _ _ _ p hp=>by
  unfold fillF
  rw [whole4 hin hp,Bool.and_true]
  by_cases hb:inB p b=true
  · simp [hb]
  · simp [hb]
theorem paste_made {N:Nat} (b:Box) (ys:List Int) (g:Pt→Int):MadeC (fun _ _=>True) N 2 b 0 b ys ByteArray.empty g (pasteF N b ys g) where
 vtop:=trivial
 vkid:=fun _ _ _ _ _ _ _ _=>trivial
 off:=fun n a hin _ h=>paste_off hin h
 part:=fun _ _ _ h=>absurd h (by decide)
 uni:=fun _ _ _ h=>absurd h (by decide)
 cells:=fun a hin _ _ _ p hp=>by
  unfold pasteF
  rw [whole4 hin hp,Bool.and_true]
  by_cases hb:inB p b=true
  · simp [hb]
  · simp [hb]
theorem cubeAt_inj {n m:Nat} {a d:Pt} (h:cubeAtB n a=cubeAtB m d):n=m∧a=d:=by
 injection h with h1 h2
 injection h1 with x y z
 injection h2 with h3 _ _
 have e:a=d:=by cases a;cases d;simp only at x y z;rw [x,y,z]
 rw [x] at h3
 have h4:(2:Int) ^ (n+2)=2 ^ (m+2):=by omega
 have h5:(2:Nat) ^ (n+2)=2 ^ (m+2):=by exact_mod_cast h4
 have key : ∀ x y:Nat,x<y→(2:Nat) ^ x<2 ^ y:=fun x y h=>Nat.pow_lt_pow_right (by decide) h
 refine ⟨?_,e⟩
 rcases Nat.lt_trichotomy (n+2) (m+2) with h | h | h
 · have:=key _ _ h;omega
 · omega
 · have:=key _ _ h;omega
theorem graft_made {N:Nat} (m:Nat) (d:Pt) (hd:InT N m d) (t:Tr) (g f':Pt→Int) (hT:Tr.can f' m d=t) (he : ∀ p,¬Tr.InC m d p→f' p=g p) :
 MadeC (fun n a=>m≤n∨apartB n a m d=true) N 3 (cubeAtB m d) 0 ⟨⟨0,0,0⟩,⟨0,0,0⟩⟩ [] (strOfNums (Tr.enc t)) g f' where
 vtop:=.inl hd.le
 vkid:=fun n a i _ hin hV hem hne=>by
  refine .inl ?_
  have hmn:m≤n+1:=hV.resolve_right (by show ¬apartB (n+1) a m d=true;unfold apartB;rw [hem];decide)
  refine Nat.lt_succ_iff.1 (Nat.lt_of_le_of_ne hmn fun e=>hne ?_)
  subst e
  obtain ⟨p,p1,p2⟩:=meet_some hem
  have q1:=(inB_inC (n:=n+1) rfl (show Tr.Al (n+1) ⟨a.x,a.y,a.z⟩ from hin.al)).1 p1
  have q2:=(inB_inC (n:=n+1) rfl (show Tr.Al (n+1) ⟨d.x,d.y,d.z⟩ from hd.al)).1 p2
  obtain rfl:=al_same hin.al hd.al (inC_wide (Nat.le_refl _) q1 q2)
  exact ⟨rfl,rfl⟩
 off:=fun n a hin _ hem=>Tr.can_congr n a hin.al fun p hp=>he p fun hpd=>by
  have h1:=meet_none hem (hin.cube hp)
  rw [hd.cube hpd] at h1;cases h1
 part:=fun n a _ _ h=>by
  obtain ⟨rfl,rfl⟩:=cubeAt_inj h
  rw [hT]
 uni:=fun _ _ _ h=>absurd h (by decide)
 cells:=fun a hin hV hem hne p hp=>by
  exfalso
  have hm0:m≤0:=hV.resolve_right (by show ¬apartB 0 a m d=true;unfold apartB;rw [hem];decide)
  obtain rfl:m=0:=by omega
  obtain ⟨p,p1,p2⟩:=meet_some hem
  have q1:=(inB_inC (n:=0) rfl (show Tr.Al 0 ⟨a.x,a.y,a.z⟩ from hin.al)).1 p1
  have q2:=(inB_inC (n:=0) rfl (show Tr.Al 0 ⟨d.x,d.y,d.z⟩ from hd.al)).1 p2
  obtain rfl:=al_same hin.al hd.al (inC_wide (Nat.le_refl _) q1 q2)
  exact hne ⟨rfl,rfl⟩
theorem goodG_zero:GoodG ⟨⟨0,0,0⟩,⟨0,0,0⟩⟩ [] 0:=⟨⟨by decide,by decide,by decide,by decide,by decide,by decide⟩,by decide,by decide,(fun x h=>by cases h),by decide⟩
theorem sl_nil0 (w:World):Sl w .i64 none []:=fun i x h=>by simp at h
theorem fill10_any {N:Nat} (hN:N≤12) (a b c d e f cell:Int) (hc:0≤cell∧cell≤255) (g:Pt→Int) (hg : ∀ p,0≤g p∧g p≤255) (hg' : ∀ p,0≤fillF N ⟨⟨a,b,c⟩,⟨d,e,f⟩⟩ cell g p∧fillF N ⟨⟨a,b,c⟩,⟨d,e,f⟩⟩ cell g p≤255) (w:World) :
 Calls Tryz.prog 58 #[.string (strOfNums (Tr.enc (trF N g))),.int .i64 ((N:Int)+2),.agg #[a,b,c,d,e,f],cell] w fun e' w'=>e' = .returned (.tuple #[.string (strOfNums (Tr.enc (trF N (fillF N ⟨⟨a,b,c⟩,⟨d,e,f⟩⟩ cell g)))),(0:Int)])∧Below w.heap.size w w':=by
 have hmd:=Bx.mk fun W=>made_any hN (fill_made ⟨⟨a,b,c⟩,⟨d,e,f⟩⟩ cell hc g) hg hg' none 0 goodG_zero N ⟨0,0,0⟩ (InT.top N) trivial W (sl_nil0 W)
 unfold trF
 generalize strOfNums (Tr.enc (Tr.can g N ⟨0,0,0⟩))=S at *
 generalize strOfNums (Tr.enc (Tr.can (fillF N ⟨⟨a,b,c⟩,⟨d,e,f⟩⟩ cell g) N ⟨0,0,0⟩))=R at *
 have t1:decide (cell<0)=false:=by simp;omega
 have t2:decide (255<cell)=false:=by simp;omega
 clear hc hg hg'
 go_enter Tryz.func58,Tryz.ntmps58
 go_upto_region 1 with fail
 generalize hW:World.alloc w _=W
 have hB:=bl1 hW
 have kb:Bk W w.heap.size #[a,b,c,d,e,f] 25:=bk0 hW
 clear hW
 obtain ⟨c0,c1,c2,c3,c4,c5⟩:=kb.c6
 go_wp2_with fail
 refine (hmd.out _).mono ?_
 rintro _ w2 ⟨rfl,hb⟩
 have hB2:=hB.trans (hb.mono hB.size)
 clear c0 c1 c2 c3 c4 c5 hb hB kb hmd
 go_wp2_with fail
 go_ret2
 exact ⟨rfl,hB2⟩
theorem fill10_bad (S:ByteArray) (dd a b c d e f cell:Int) (hc : ¬(0≤cell∧cell≤255)) (w:World) :
 Calls Tryz.prog 58 #[.string S,dd,.agg #[a,b,c,d,e,f],cell] w fun e' w'=>e' = .returned (.tuple #[.string ByteArray.empty,(1:Int)])∧Below w.heap.size w w':=by
 by_cases h:cell<0
 · have t1:decide (cell<0)=true:=by simpa using h
   clear hc h
   go_enter Tryz.func58,Tryz.ntmps58
   go_wp2_with fail
   go_ret2
   exact ⟨rfl,(Below.refl _ _).alloc (Nat.le_refl _) _⟩
 · have t1:decide (cell<0)=false:=by simp;omega
   have t2:decide (255<cell)=true:=by simp;omega
   clear hc h
   go_enter Tryz.func58,Tryz.ntmps58
   go_wp2_with fail
   go_ret2
   exact ⟨rfl,(Below.refl _ _).alloc (Nat.le_refl _) _⟩
theorem paste10_any {N:Nat} (hN:N≤12) (a b c d e f:Int) (ha:Option Addr) (hcp:Nat) (ys:List Int) (HX:GoodG ⟨⟨a,b,c⟩,⟨d,e,f⟩⟩ ys hcp) (g:Pt→Int) (hg : ∀ p,0≤g p∧g p≤255) (hg' : ∀ p,0≤pasteF N ⟨⟨a,b,c⟩,⟨d,e,f⟩⟩ ys g p∧pasteF N ⟨⟨a,b,c⟩,⟨d,e,f⟩⟩ ys g p≤255) (w:World) (hsl:Sl w .i64 ha ys) :
 Calls Tryz.prog 59 #[.string (strOfNums (Tr.enc (trF N g))),.int .i64 ((N:Int)+2),.agg #[a,b,c,d,e,f,.slice ha ys.length hcp]] w fun e' w'=>e' = .returned (.string (strOfNums (Tr.enc (trF N (pasteF N ⟨⟨a,b,c⟩,⟨d,e,f⟩⟩ ys g)))))∧Below w.heap.size w w':=by
 have hmd:=Bx.mk fun W h=>made_any hN (paste_made ⟨⟨a,b,c⟩,⟨d,e,f⟩⟩ ys g) hg hg' ha hcp HX N ⟨0,0,0⟩ (InT.top N) trivial W h
 have Hsl:=Bx.mk hsl
 unfold trF
 generalize strOfNums (Tr.enc (Tr.can g N ⟨0,0,0⟩))=S at *
 generalize strOfNums (Tr.enc (Tr.can (pasteF N ⟨⟨a,b,c⟩,⟨d,e,f⟩⟩ ys g) N ⟨0,0,0⟩))=R at *
 clear hg hg' HX hsl
 go_enter Tryz.func59,Tryz.ntmps59
 go_upto_region 1 with fail
 generalize hW:World.alloc w _=W
 have hB:=bl1 hW
 have kb:Bk W w.heap.size #[a,b,c,d,e,f,.slice ha ys.length hcp] 28:=bk0 hW
 clear hW
 obtain ⟨c0,c1,c2,c3,c4,c5,c6⟩:=kb.c7
 go_wp2_with fail
 refine (hmd.out _ (Hsl.out.below hB)).mono ?_
 rintro _ w2 ⟨rfl,hb⟩
 have hB2:=hB.trans (hb.mono hB.size)
 clear c0 c1 c2 c3 c4 c5 c6 hb hB kb hmd
 go_wp2_with fail
 go_ret
 exact ⟨rfl,hB2⟩
theorem depth10_any (t:Tr) (hw:Tr.WF t) (w:World):Calls Tryz.prog 64 #[.string (strOfNums (Tr.enc t))] w fun e w'=>e = .returned (.int .i64 (depV t))∧w=w':=by
 have hby:=Tr.enc_byt _ hw
 cases t with
 | uni c =>
   have hi0:=fun W:World=>idx_str (P:=Tryz.prog) 9 Tryz.underlying9 hby (k:=0) (x:=117) (by simp [Tr.enc]) W
   rw [show ((0:Nat):Int)=0 from rfl] at hi0
   generalize strOfNums (Tr.enc (.uni c))=S at *
   clear hby hw
   go_enter Tryz.func64,Tryz.ntmps64
   go_wp2_with fail
   go_ret
   exact ⟨rfl,rfl⟩
 | brick l =>
   have hi0:=fun W:World=>idx_str (P:=Tryz.prog) 9 Tryz.underlying9 hby (k:=0) (x:=98) (by simp [Tr.enc]) W
   rw [show ((0:Nat):Int)=0 from rfl] at hi0
   generalize strOfNums (Tr.enc (.brick l))=S at *
   clear hby hw
   go_enter Tryz.func64,Tryz.ntmps64
   go_wp2_with fail
   go_ret
   exact ⟨rfl,rfl⟩
 | node d ch =>
   have hi0:=fun W:World=>idx_str (P:=Tryz.prog) 9 Tryz.underlying9 hby (k:=0) (x:=110) (by simp [Tr.enc]) W
   have hi1:=fun W:World=>idx_str (P:=Tryz.prog) 9 Tryz.underlying9 hby (k:=1) (x:=(d:Int)) (by simp [Tr.enc]) W
   rw [show ((0:Nat):Int)=0 from rfl] at hi0
   rw [show ((1:Nat):Int)=1 from rfl] at hi1
   have hd:d≤255:=hw.1
   have hwrap:IntKind.i64.wrap (d:Int)=d:=IntWalk.i64_in _ (by omega)
   generalize strOfNums (Tr.enc (.node d ch))=S at *
   clear hby hw
   go_enter Tryz.func64,Tryz.ntmps64
   go_wp2_with fail
   go_ret
   exact ⟨rfl,rfl⟩
theorem Part9_bad (n:Nat) (hn:n≤12) (f:Pt→Int) (px py pz lv:Int) (h : ¬partOK n px py pz lv) (w:World) :
 Calls Tryz.prog 61 #[.string (strOfNums (Tr.enc (trF n f))),.int .i64 ((n:Int)+2),.agg #[px,py,pz],lv] w fun e w'=>e = .returned (.tuple #[.string ByteArray.empty,(1:Int)])∧Below w.heap.size w w':=by
 by_cases h1:inB ⟨px,py,pz⟩ (cubeB (2 ^ (n+2)))=true
 · by_cases h2:lv<2
   · exact Part9_lo n hn f px py pz lv h1 h2 w
   · by_cases h3:(n:Int)+2<lv
     · exact Part9_hi n hn f px py pz lv h1 h2 h3 w
     · obtain ⟨L,rfl⟩ : ∃ L:Nat,lv=(L:Int):=⟨lv.toNat,by omega⟩
       exact Part9_al n L hn (by omega) (by omega) f px py pz h1 (Bool.eq_false_iff.2 fun h4=>h ⟨h1,by omega,by omega,by rw [Int.toNat_natCast];exact h4⟩) w
 · exact Part9_in n hn f px py pz lv (Bool.eq_false_iff.2 h1) w
theorem graft10_bad (n:Nat) (hn:n≤12) (f:Pt→Int) (px py pz lv:Int) (T:ByteArray) (h : ¬partOK n px py pz lv) (w:World) :
 Calls Tryz.prog 62 #[.string (strOfNums (Tr.enc (trF n f))),.int .i64 ((n:Int)+2),cubeV px py pz lv,.string T] w fun e w'=>e = .returned (.tuple #[.string ByteArray.empty,(1:Int)])∧Below w.heap.size w w':=by
 have hp:=Bx.mk fun W=>Part9_bad n hn f px py pz lv h W
 generalize strOfNums (Tr.enc (trF n f))=S at *
 clear h hn
 go_enter Tryz.func62,Tryz.ntmps62
 go_upto_region 1 with fail
 generalize hW:World.alloc w _=W
 have hB:=bl1 hW
 have kc:Bk W w.heap.size #[px,py,pz,lv] 39:=bk0 hW
 clear hW
 obtain ⟨c0,c1,c2,c3⟩:=kc.c4
 go_wp2_with fail
 refine (hp.out _).mono ?_
 rintro _ w2 ⟨rfl,hb⟩
 have hB2:=hB.trans (hb.mono hB.size)
 clear c0 c1 c2 c3 hb hB
 go_wp2_with fail
 go_ret2
 exact ⟨rfl,hB2⟩
structure GSays10 (V:Prop) (R:ByteArray) (w:World) (e:Ending) (w':World):Prop where
 bel:Below w.heap.size w w'
 ok:V→e = .returned (.tuple #[.string R,(0:Int)])
 bad : ¬V→e = .returned (.tuple #[.string ByteArray.empty,(1:Int)])
set_option maxRecDepth 100000 in
set_option maxHeartbeats 1000000 in
theorem graft10_any {N:Nat} (hN:N≤12) (m:Nat) (d:Pt) (hok:partOK N d.x d.y d.z ((m+2:Nat):Int)) (t:Tr) (hw:Tr.WF t) (g f':Pt→Int) (hg : ∀ p,0≤g p∧g p≤255)
 (hf:fitsAt t ((m+2:Nat):Int)→Tr.can f' m d=t∧(∀ p,¬Tr.InC m d p→f' p=g p)∧(∀ p,0≤f' p∧f' p≤255)) (w:World) :
 Calls Tryz.prog 62 #[.string (strOfNums (Tr.enc (trF N g))),.int .i64 ((N:Int)+2),cubeV d.x d.y d.z ((m+2:Nat):Int),.string (strOfNums (Tr.enc t))] w (GSays10 (fitsAt t ((m+2:Nat):Int)) (strOfNums (Tr.enc (trF N f'))) w):=by
 have hd:=hok.inT
 have hle:=hd.le
 obtain ⟨b1,b2,b3⟩:=hd.bd hN
 have hmd:=Bx.mk fun (hfit:fitsAt t ((m+2:Nat):Int)) W=>made_any hN (graft_made m d hd t g f' (hf hfit).1 (hf hfit).2.1) hg (hf hfit).2.2 none 0 goodG_zero N ⟨0,0,0⟩ (InT.top N) (.inl hle) W (sl_nil0 W)
 have hp:=Bx.mk fun W=>Part9_ok N (m+2) hN (by omega) (by omega) g hg d.x d.y d.z hok.1 (by have:=hok.2.2.2;rwa [Int.toNat_natCast] at this) W
 have hcub:=Bx.mk fun W=>cube9_any d.x d.y d.z (m+2) (by omega) (by omega) (by omega) (by omega) W
 have hdep:=Bx.mk fun W=>depth10_any t hw W
 have hby:=Tr.enc_byt _ hw
 obtain ⟨x,hx,hxk⟩ : ∃ x,(Tr.enc t)[0]? = some x∧((x != 117)=false ↔ kindV t=1):=by
  cases t with
  | uni c=>exact ⟨117,by simp [Tr.enc],by simp [kindV]⟩
  | brick l=>exact ⟨98,by simp [Tr.enc],by simp [kindV]⟩
  | node d ch=>exact ⟨110,by simp [Tr.enc],by simp [kindV]⟩
 have hi0:=Bx.mk fun W:World=>idx_str (P:=Tryz.prog) 9 Tryz.underlying9 hby (k:=0) (x:=x) hx W
 rw [show ((0:Nat):Int)=0 from rfl] at hi0
 generalize strOfNums (Tr.enc (partT (trF N g) N (m+2) ⟨d.x,d.y,d.z⟩))=P0 at *
 unfold trF at *
 generalize strOfNums (Tr.enc (Tr.can g N ⟨0,0,0⟩))=S at *
 generalize strOfNums (Tr.enc (Tr.can f' N ⟨0,0,0⟩))=R at *
 generalize strOfNums (Tr.enc t)=T at *
 unfold fitsAt at *
 generalize kindV t=kt at *
 generalize depV t=dt at *
 generalize ((m+2:Nat):Int)=L at *
 have Hx:=Bx.mk hxk
 clear hby hx hxk hw hg hf hok hd hle b1 b2 b3
 go_enter Tryz.func62,Tryz.ntmps62
 go_upto_region 1 with fail
 generalize hW:World.alloc w _=W
 have hB:=bl1 hW
 have kc:Bk W w.heap.size #[d.x,d.y,d.z,L] 39:=bk0 hW
 clear hW
 obtain ⟨c0,c1,c2,c3⟩:=kc.c4
 go_wp2_with fail
 refine (hp.out _).mono ?_
 rintro _ w2 ⟨rfl,hb⟩
 have hB2:=hB.trans (hb.mono hB.size)
 replace kc:=kc.later hb
 clear c0 c1 c2 c3 hb hB
 go_upto_region 4 with fail
 by_cases h1:kt=1
 · have HF:Bx (kt=1∨dt=L):=⟨.inl h1⟩
   have t1:(x != 117)=false:=Hx.out.2 h1
   clear h1
   have cx3 : ∀ dk osk,(grow (redrawn w2 dk) osk).cell? ⟨w.heap.size,3,none⟩=some (.int .i64 L):=cell_regrown (kc.cell 3 rfl)
   have hidx:=hi0.out
   have q0:=Bx.mk fun dk osk=>Calls.regrown_of ((hdep.out (grow (redrawn w2 dk) osk)).mono fun e w' h=>(⟨h.1,by rw [←h.2];exact Below.refl _ _⟩:e=_∧Below (grow (redrawn w2 dk) osk).heap.size (grow (redrawn w2 dk) osk) w'))
   refine wp_region_quiet_below (by kernel_rfl) (by kernel_rfl) ?_
   repeat (first | go_big_quiet_step ((first | with_reducible exact q0.out _ _)) | quiet_step (first | with_reducible exact q0.out _ _))
   refine wpQuiet_nil ?_
   rintro _ ⟨⟨dq,osq⟩,rfl⟩
   have hb:=below_regrown w2 dq osq
   clear cx3 q0 hidx
   replace kc:=kc.later hb
   have hB4:=hB2.trans (hb.mono hB2.size)
   clear hb
   generalize grow (redrawn w2 dq) osq=W3 at *
   clear t1
   obtain ⟨c0,c1,c2,c3⟩:=kc.c4
   go_wp2_with fail
   refine (hcub.out _).mono ?_
   rintro _ w4 ⟨rfl,hb4⟩
   have hB5:=hB4.trans (hb4.mono hB4.size)
   clear c0 c1 c2 c3 hb4 hB4
   have hq:=Bx.mk (hmd.out HF.out w4)
   go_wp2_with fail
   refine hq.out.mono ?_
   rintro _ w5 ⟨rfl,hb5⟩
   have hB6:=hB5.trans (hb5.mono hB5.size)
   clear hb5 hB5 hq
   go_wp2_with fail
   go_ret2
   exact ⟨hB6,fun _=>rfl,fun h=>absurd HF.out h⟩
 · have t1:(x != 117)=true:=by
    cases hq:(x != 117) with
    | true=>rfl
    | false=>exact absurd (Hx.out.1 hq) h1
   by_cases h2:dt=L
   · have HF:Bx (kt=1∨dt=L):=⟨.inr h2⟩
     have t2:(dt != L)=false:=by simp [h2]
     clear h1 h2
     have cx3 : ∀ dk osk,(grow (redrawn w2 dk) osk).cell? ⟨w.heap.size,3,none⟩=some (.int .i64 L):=cell_regrown (kc.cell 3 rfl)
     have hidx:=hi0.out
     have q0:=Bx.mk fun dk osk=>Calls.regrown_of ((hdep.out (grow (redrawn w2 dk) osk)).mono fun e w' h=>(⟨h.1,by rw [←h.2];exact Below.refl _ _⟩:e=_∧Below (grow (redrawn w2 dk) osk).heap.size (grow (redrawn w2 dk) osk) w'))
     refine wp_region_quiet_below (by kernel_rfl) (by kernel_rfl) ?_
     repeat (first | go_big_quiet_step ((first | with_reducible exact q0.out _ _)) | quiet_step (first | with_reducible exact q0.out _ _))
     refine wpQuiet_nil ?_
     rintro _ ⟨⟨dq,osq⟩,rfl⟩
     have hb:=below_regrown w2 dq osq
     clear cx3 q0 hidx
     replace kc:=kc.later hb
     have hB4:=hB2.trans (hb.mono hB2.size)
     clear hb
     generalize grow (redrawn w2 dq) osq=W3 at *
     clear t1 t2
     obtain ⟨c0,c1,c2,c3⟩:=kc.c4
     go_wp2_with fail
     refine (hcub.out _).mono ?_
     rintro _ w4 ⟨rfl,hb4⟩
     have hB5:=hB4.trans (hb4.mono hB4.size)
     clear c0 c1 c2 c3 hb4 hB4
     have hq:=Bx.mk (hmd.out HF.out w4)
     go_wp2_with fail
     refine hq.out.mono ?_
     rintro _ w5 ⟨rfl,hb5⟩
     have hB6:=hB5.trans (hb5.mono hB5.size)
     clear hb5 hB5 hq
     go_wp2_with fail
     go_ret2
     exact ⟨hB6,fun _=>rfl,fun h=>absurd HF.out h⟩
   · have HB:Bx (¬(kt=1∨dt=L)):=⟨fun h=>h.elim h1 h2⟩
     have t2:(dt != L)=true:=by simp [h2]
     clear h1 h2
     have cx3 : ∀ dk osk,(grow (redrawn w2 dk) osk).cell? ⟨w.heap.size,3,none⟩=some (.int .i64 L):=cell_regrown (kc.cell 3 rfl)
     have hidx:=hi0.out
     have q0:=Bx.mk fun dk osk=>Calls.regrown_of ((hdep.out (grow (redrawn w2 dk) osk)).mono fun e w' h=>(⟨h.1,by rw [←h.2];exact Below.refl _ _⟩:e=_∧Below (grow (redrawn w2 dk) osk).heap.size (grow (redrawn w2 dk) osk) w'))
     refine wp_region_quiet_below (by kernel_rfl) (by kernel_rfl) ?_
     repeat (first | go_big_quiet_step ((first | with_reducible exact q0.out _ _)) | quiet_step (first | with_reducible exact q0.out _ _))
     refine wpQuiet_nil ?_
     rintro _ ⟨⟨dq,osq⟩,rfl⟩
     have hb:=below_regrown w2 dq osq
     clear cx3 q0 hidx
     replace kc:=kc.later hb
     have hB4:=hB2.trans (hb.mono hB2.size)
     clear hb
     generalize grow (redrawn w2 dq) osq=W3 at *
     go_wp2_with fail
     go_ret2
     exact ⟨hB4,fun h=>absurd h HB.out,fun _=>rfl⟩
end
end Go.Proofs.YtfcbajmjaifjlaaGreat
