/- M45, M46, M47: joined by program. -/
import Derived.Test.YtfcbajmjaifjlaaGreatM14
import Derived.Lib.EndianBits
import Derived.Laws.Tables
set_option maxHeartbeats 4000000
set_option maxRecDepth 100000
set_option linter.all false
attribute [local simp] Go.Op.operands Go.Call.operands
namespace Go.Proofs.YtfcbajmjaifjlaaGreat
section
open Go.RowKit Go.Sort Go.Maps
open Oct
theorem zJm (f:Pt→Int) (hf : ∀ p,0≤f p∧f p≤255) (px py pz:Int) (L:Nat) (hL:2≤L) : ∀ (n:Nat),n≤12→L≤n+2 → ∀ (ax ay az:Int),Tr.Al n ⟨ax,ay,az⟩→Tr.InC n ⟨ax,ay,az⟩ ⟨px,py,pz⟩→(0≤ax∧ax+2 ^ (n+2)≤16384)→(0≤ay∧ay+2 ^ (n+2)≤16384)→(0≤az∧az+2 ^ (n+2)≤16384) → ∀ (w:World),
 Calls Tryz.prog 126 #[.string (strOfNums (Tr.enc (Tr.can f n ⟨ax,ay,az⟩))),.agg #[ax,ay,az],((n:Int)+2:Int),.agg #[px,py,pz],(L:Int)] w fun e w'=>e = .returned (.string (strOfNums (Tr.enc (zJv (Tr.can f n ⟨ax,ay,az⟩) n L ⟨px,py,pz⟩))))∧Below w.heap.size w w':=by
 intro n
 induction n using Nat.strongRecOn with
 | _ n ih =>
   intro hn It ax ay az Jb hin hx hy hz w;have hp:=zt (show n+2≤14 by omega)
   have hw:=zAF hf n ⟨ax,ay,az⟩ (by omega)
   have hs:=zB7 hf hn ⟨ax,ay,az⟩;rcases zBz f n ⟨ax,ay,az⟩ with ⟨c,hc⟩ | ⟨rfl,l,hc,hl⟩ | ⟨m,ch,rfl,hc,LT⟩
   · rw [hc] at hw ⊢;rw [zJ1];exact zJp c hw ax ay az px py pz _ _ w
   · obtain rfl:L=2:=by omega
     rw [hc] at hw ⊢;rw [zJ0 (by omega)]
     exact zJo (.brick l) hw (fun c e=>by cases e) ax ay az px py pz _ _ (by simp) w
   · by_cases RY:L=m+3
     · subst RY;rw [hc] at hw ⊢;rw [zJ0 (by omega)]
       exact zJo (.node (m+3) ch) hw (fun c e=>by cases e) ax ay az px py pz _ _ (by omega) w
     · rw [hc] at hw hs ⊢;rw [zJz (by omega)]
       have Qr:=Tr.pow_succ2 m;have h3:(((m+1:Nat):Int)+2)=(m:Int)+3:=by omega
       rw [h3];have hk:=Tr.octN_lt m ⟨px,py,pz⟩;have hb:=zCg hk (show (0:Int)≤2 ^ (m+2) by have:=Tr.pow_pos2 m;omega)
       have Lg:=zDR ax ay az m (Tr.octN m ⟨px,py,pz⟩);have h1:=Tr.al_cor Jb (Tr.octN m ⟨px,py,pz⟩);have h2:Tr.InC m (Tr.cor ⟨ax,ay,az⟩ m (Tr.octN m ⟨px,py,pz⟩)) ⟨px,py,pz⟩:=Tr.inC_step Jb hin;have QY:=Tr.pow_pos2 m;rw [Lg] at h1 h2;have Lk:=fun W=>zDU (m+2) (by omega) ax ay az _ hk (by omega) (by omega) (by omega) W
       rw [show ((m+2:Nat):Int)+1=(m:Int)+3 by omega] at Lk
       refine zJn m (by omega) ch hw (by omega) _ hk ax ay az px py pz _ _ _ (L:Int) _ (by simp;omega) (fun W=>zJB m (by omega) ax ay az px py pz Jb hin (by omega) (by omega) (by omega) W) Lk (fun W=>?_) w
       have:=ih m (by omega) (by omega) (by omega) _ _ _ h1 h2 (by omega) (by omega) (by omega) W
       rw [←Lg,←LT ⟨_,hk⟩] at this;exact this
theorem zAY (n:Nat) (hn:n≤12) (f:Pt→Int) (px py pz lv:Int) (hI:inB ⟨px,py,pz⟩ (zN (2 ^ (n+2)))=false) (w:World) :
 Calls Tryz.prog 61 #[.string (strOfNums (Tr.enc (trF n f))),((n:Int)+2:Int),.agg #[px,py,pz],lv] w fun e w'=>e = .returned (.tuple #[.string (ByteArray.empty),(1:Int)])∧Below w.heap.size w w':=by
 have hp:=zt (show n+2≤14 by omega)
 have Lv:=fun W=>zDq (n+2) (by omega) W
 have RG:=fun W=>zK8 px py pz 0 0 0 (2 ^ (n+2)) (2 ^ (n+2)) (2 ^ (n+2)) W;rw [show ((n+2:Nat):Int)=(n:Int)+2 by omega] at Lv
 have Lv:=Bx.mk Lv;rw [show inB ⟨px,py,pz⟩ ⟨⟨0,0,0⟩,⟨2 ^ (n+2),2 ^ (n+2),2 ^ (n+2)⟩⟩=false from hI] at RG;have RG:=Bx.mk RG;clear hI hp;generalize strOfNums (Tr.enc (trF n f))=S at *;generalize (2:Int) ^ (n+2)=m at *;go_enter Tryz.func61,Tryz.ntmps61;go_upto_region 1 with fail;generalize hW:w.alloc _=W;have hB:=bl1 hW;have kp:Bk W (w.heap.size) #[px,py,pz] 23:=bk0 hW;clear hW;obtain ⟨cp0,cp1,cp2⟩:=kp.r3;have q0:=Bx.mk fun dk osk=>rq (Lv.o (grow (redrawn W dk) osk));have q1:=Bx.mk fun dk osk=>rq (RG.o (grow (redrawn W dk) osk));refine wg ?_
 repeat (first | go_big_quiet_step (with_reducible first | exact q0.o _ _ | exact q1.o _ _) | quiet_step (with_reducible first | exact q0.o _ _ | exact q1.o _ _))
 refine wq ?_;rintro _ ⟨⟨dq,osq⟩,rfl⟩;have Jq:=bq W dq osq;replace hB:=tr hB Jq;replace kp:=kp.la Jq;clear q0 q1 cp0 cp1 cp2 Jq Lv RG;generalize grow (redrawn W dq) osq=w1 at *;obtain ⟨cp0,cp1,cp2⟩:=kp.c3;go_wp2_with fail
 go_ret2
 exact ⟨rfl,hB⟩
theorem zAZ (n:Nat) (hn:n≤12) (f:Pt→Int) (px py pz lv:Int) (hI:inB ⟨px,py,pz⟩ (zN (2 ^ (n+2)))=true) (h1:lv<2) (w:World) :
 Calls Tryz.prog 61 #[.string (strOfNums (Tr.enc (trF n f))),((n:Int)+2:Int),.agg #[px,py,pz],lv] w fun e w'=>e = .returned (.tuple #[.string (ByteArray.empty),(1:Int)])∧Below w.heap.size w w':=by
 have hp:=zt (show n+2≤14 by omega)
 have Lv:=fun W=>zDq (n+2) (by omega) W
 have RG:=fun W=>zK8 px py pz 0 0 0 (2 ^ (n+2)) (2 ^ (n+2)) (2 ^ (n+2)) W;rw [show ((n+2:Nat):Int)=(n:Int)+2 by omega] at Lv
 have Lv:=Bx.mk Lv;rw [show inB ⟨px,py,pz⟩ ⟨⟨0,0,0⟩,⟨2 ^ (n+2),2 ^ (n+2),2 ^ (n+2)⟩⟩=true from hI] at RG;have RG:=Bx.mk RG;clear hI hp;have t1:decide (lv<2)=true:=by simpa using h1
 generalize strOfNums (Tr.enc (trF n f))=S at *;generalize (2:Int) ^ (n+2)=m at *;go_enter Tryz.func61,Tryz.ntmps61;go_upto_region 1 with fail;generalize hW:w.alloc _=W;have hB:=bl1 hW;have kp:Bk W (w.heap.size) #[px,py,pz] 23:=bk0 hW;clear hW;obtain ⟨cp0,cp1,cp2⟩:=kp.r3;have q0:=Bx.mk fun dk osk=>rq (Lv.o (grow (redrawn W dk) osk));have q1:=Bx.mk fun dk osk=>rq (RG.o (grow (redrawn W dk) osk));refine wg ?_
 repeat (first | go_big_quiet_step (with_reducible first | exact q0.o _ _ | exact q1.o _ _) | quiet_step (with_reducible first | exact q0.o _ _ | exact q1.o _ _))
 refine wq ?_;rintro _ ⟨⟨dq,osq⟩,rfl⟩;have Jq:=bq W dq osq;replace hB:=tr hB Jq;replace kp:=kp.la Jq;clear q0 q1 cp0 cp1 cp2 Jq Lv RG;generalize grow (redrawn W dq) osq=w1 at *;obtain ⟨cp0,cp1,cp2⟩:=kp.c3;go_wp2_with fail
 go_ret2
 exact ⟨rfl,hB⟩
theorem zAX (n:Nat) (hn:n≤12) (f:Pt→Int) (px py pz lv:Int) (hI:inB ⟨px,py,pz⟩ (zN (2 ^ (n+2)))=true) (h1 : ¬lv<2) (h2:(n:Int)+2<lv) (w:World) :
 Calls Tryz.prog 61 #[.string (strOfNums (Tr.enc (trF n f))),((n:Int)+2:Int),.agg #[px,py,pz],lv] w fun e w'=>e = .returned (.tuple #[.string (ByteArray.empty),(1:Int)])∧Below w.heap.size w w':=by
 have hp:=zt (show n+2≤14 by omega)
 have Lv:=fun W=>zDq (n+2) (by omega) W
 have RG:=fun W=>zK8 px py pz 0 0 0 (2 ^ (n+2)) (2 ^ (n+2)) (2 ^ (n+2)) W;rw [show ((n+2:Nat):Int)=(n:Int)+2 by omega] at Lv
 have Lv:=Bx.mk Lv;rw [show inB ⟨px,py,pz⟩ ⟨⟨0,0,0⟩,⟨2 ^ (n+2),2 ^ (n+2),2 ^ (n+2)⟩⟩=true from hI] at RG;have RG:=Bx.mk RG;clear hI hp;have t1:decide (lv<2)=false:=by simpa using h1
 have t2:decide ((n:Int)+2<lv)=true:=by simpa using h2
 generalize strOfNums (Tr.enc (trF n f))=S at *;generalize (2:Int) ^ (n+2)=m at *;go_enter Tryz.func61,Tryz.ntmps61;go_upto_region 1 with fail;generalize hW:w.alloc _=W;have hB:=bl1 hW;have kp:Bk W (w.heap.size) #[px,py,pz] 23:=bk0 hW;clear hW;obtain ⟨cp0,cp1,cp2⟩:=kp.r3;have q0:=Bx.mk fun dk osk=>rq (Lv.o (grow (redrawn W dk) osk));have q1:=Bx.mk fun dk osk=>rq (RG.o (grow (redrawn W dk) osk));refine wg ?_
 repeat (first | go_big_quiet_step (with_reducible first | exact q0.o _ _ | exact q1.o _ _) | quiet_step (with_reducible first | exact q0.o _ _ | exact q1.o _ _))
 refine wq ?_;rintro _ ⟨⟨dq,osq⟩,rfl⟩;have Jq:=bq W dq osq;replace hB:=tr hB Jq;replace kp:=kp.la Jq;clear q0 q1 cp0 cp1 cp2 Jq Lv RG;generalize grow (redrawn W dq) osq=w1 at *;obtain ⟨cp0,cp1,cp2⟩:=kp.c3;go_wp2_with fail
 go_ret2
 exact ⟨rfl,hB⟩
theorem zAV (n L:Nat) (hn:n≤12) (hL:2≤L) (Ir:L≤n+2) (f:Pt→Int) (px py pz:Int) (hI:inB ⟨px,py,pz⟩ (zN (2 ^ (n+2)))=true) (hA:alB L ⟨px,py,pz⟩=false) (w:World) :
 Calls Tryz.prog 61 #[.string (strOfNums (Tr.enc (trF n f))),((n:Int)+2:Int),.agg #[px,py,pz],(L:Int)] w fun e w'=>e = .returned (.tuple #[.string (ByteArray.empty),(1:Int)])∧Below w.heap.size w w':=by
 have hp:=zt (show n+2≤14 by omega)
 have Lv:=fun W=>zDq (n+2) (by omega) W
 have RG:=fun W=>zK8 px py pz 0 0 0 (2 ^ (n+2)) (2 ^ (n+2)) (2 ^ (n+2)) W;rw [show ((n+2:Nat):Int)=(n:Int)+2 by omega] at Lv
 have Lv:=Bx.mk Lv;obtain ⟨rx,ry,rz⟩:=zGb hn hI;rw [show inB ⟨px,py,pz⟩ ⟨⟨0,0,0⟩,⟨2 ^ (n+2),2 ^ (n+2),2 ^ (n+2)⟩⟩=true from hI] at RG;have RG:=Bx.mk RG;have Re:=Bx.mk (zMJ L (by omega))
 have t1:decide ((L:Int)<2)=false:=by simp;omega
 have t2:decide ((n:Int)+2<(L:Int))=false:=by simp;omega
 have Ry:=Int.pow_pos (n:=2) (m:=L) (by decide)
 have H7 : ¬(px % 2 ^ L=0∧py % 2 ^ L=0∧pz % 2 ^ L=0):=of_decide_eq_false hA;clear hI hp hA;generalize strOfNums (Tr.enc (trF n f))=S at *;generalize (2:Int) ^ (n+2)=m at *;generalize (2:Int) ^ L=s at *;have T9:=rx.1;have hy0:=ry.1;have TQ:=rz.1;have RW:(0:Int)≤s:=by omega
 have RX:(s == 0)=false:=by simp;omega
 by_cases ax:px % s=0
 · have u1:(px % s != 0)=false:=by simp [ax]
   by_cases ay:py % s=0
   · have u2:(py % s != 0)=false:=by simp [ay]
     have u3:(pz % s != 0)=true:=by simp;intro h;exact H7 ⟨ax,ay,h⟩
     clear ax ay H7 rx ry rz;go_enter Tryz.func61,Tryz.ntmps61;go_upto_region 1 with fail;generalize hW:w.alloc _=W;have hB:=bl1 hW;have kp:Bk W (w.heap.size) #[px,py,pz] 23:=bk0 hW;clear hW;obtain ⟨cp0,cp1,cp2⟩:=kp.r3;have q0:=Bx.mk fun dk osk=>rq (Lv.o (grow (redrawn W dk) osk));have q1:=Bx.mk fun dk osk=>rq (RG.o (grow (redrawn W dk) osk));refine wg ?_
     repeat (first | go_big_quiet_step (with_reducible first | exact q0.o _ _ | exact q1.o _ _) | quiet_step (with_reducible first | exact q0.o _ _ | exact q1.o _ _))
     refine wq ?_;rintro _ ⟨⟨dq,osq⟩,rfl⟩;have Jq:=bq W dq osq;replace hB:=tr hB Jq;replace kp:=kp.la Jq;clear q0 q1 cp0 cp1 cp2 Jq Lv RG;generalize grow (redrawn W dq) osq=w1 at *;obtain ⟨cp0,cp1,cp2⟩:=kp.c3;go_wp2_with fail;refine (Re.o _).mono ?_;rintro _ _ ⟨rfl,rfl⟩;go_wp2_with fail
     go_ret2
     exact ⟨rfl,hB⟩
   · have u2:(py % s != 0)=true:=by simpa using ay
     clear ax ay H7 rx ry rz;go_enter Tryz.func61,Tryz.ntmps61;go_upto_region 1 with fail;generalize hW:w.alloc _=W;have hB:=bl1 hW;have kp:Bk W (w.heap.size) #[px,py,pz] 23:=bk0 hW;clear hW;obtain ⟨cp0,cp1,cp2⟩:=kp.r3;have q0:=Bx.mk fun dk osk=>rq (Lv.o (grow (redrawn W dk) osk));have q1:=Bx.mk fun dk osk=>rq (RG.o (grow (redrawn W dk) osk));refine wg ?_
     repeat (first | go_big_quiet_step (with_reducible first | exact q0.o _ _ | exact q1.o _ _) | quiet_step (with_reducible first | exact q0.o _ _ | exact q1.o _ _))
     refine wq ?_;rintro _ ⟨⟨dq,osq⟩,rfl⟩;have Jq:=bq W dq osq;replace hB:=tr hB Jq;replace kp:=kp.la Jq;clear q0 q1 cp0 cp1 cp2 Jq Lv RG;generalize grow (redrawn W dq) osq=w1 at *;obtain ⟨cp0,cp1,cp2⟩:=kp.c3;go_wp2_with fail;refine (Re.o _).mono ?_;rintro _ _ ⟨rfl,rfl⟩;go_wp2_with fail
     go_ret2
     exact ⟨rfl,hB⟩
 · have u1:(px % s != 0)=true:=by simpa using ax
   clear ax H7 rx ry rz;go_enter Tryz.func61,Tryz.ntmps61;go_upto_region 1 with fail;generalize hW:w.alloc _=W;have hB:=bl1 hW;have kp:Bk W (w.heap.size) #[px,py,pz] 23:=bk0 hW;clear hW;obtain ⟨cp0,cp1,cp2⟩:=kp.r3;have q0:=Bx.mk fun dk osk=>rq (Lv.o (grow (redrawn W dk) osk));have q1:=Bx.mk fun dk osk=>rq (RG.o (grow (redrawn W dk) osk));refine wg ?_
   repeat (first | go_big_quiet_step (with_reducible first | exact q0.o _ _ | exact q1.o _ _) | quiet_step (with_reducible first | exact q0.o _ _ | exact q1.o _ _))
   refine wq ?_;rintro _ ⟨⟨dq,osq⟩,rfl⟩;have Jq:=bq W dq osq;replace hB:=tr hB Jq;replace kp:=kp.la Jq;clear q0 q1 cp0 cp1 cp2 Jq Lv RG;generalize grow (redrawn W dq) osq=w1 at *;obtain ⟨cp0,cp1,cp2⟩:=kp.c3;go_wp2_with fail;refine (Re.o _).mono ?_;rintro _ _ ⟨rfl,rfl⟩;go_wp2_with fail
   go_ret2
   exact ⟨rfl,hB⟩
theorem zAa (n L:Nat) (hn:n≤12) (hL:2≤L) (Ir:L≤n+2) (f:Pt→Int) (hf : ∀ p,0≤f p∧f p≤255) (px py pz:Int) (hI:inB ⟨px,py,pz⟩ (zN (2 ^ (n+2)))=true) (hA:alB L ⟨px,py,pz⟩=true) (w:World) :
 Calls Tryz.prog 61 #[.string (strOfNums (Tr.enc (trF n f))),((n:Int)+2:Int),.agg #[px,py,pz],(L:Int)] w fun e w'=>e = .returned (.tuple #[.string (strOfNums (Tr.enc (zJv (trF n f) n L ⟨px,py,pz⟩))),(0:Int)])∧Below w.heap.size w w':=by
 have hp:=zt (show n+2≤14 by omega)
 have Lv:=fun W=>zDq (n+2) (by omega) W
 have RG:=fun W=>zK8 px py pz 0 0 0 (2 ^ (n+2)) (2 ^ (n+2)) (2 ^ (n+2)) W;rw [show ((n+2:Nat):Int)=(n:Int)+2 by omega] at Lv
 have Lv:=Bx.mk Lv;have Ri:=Bx.mk fun W=>zJm f hf px py pz L hL n hn Ir 0 0 0 (zA3 n) (zGV hI) (by omega) (by omega) (by omega) W
 obtain ⟨rx,ry,rz⟩:=zGb hn hI;rw [show inB ⟨px,py,pz⟩ ⟨⟨0,0,0⟩,⟨2 ^ (n+2),2 ^ (n+2),2 ^ (n+2)⟩⟩=true from hI] at RG;have RG:=Bx.mk RG;have Re:=Bx.mk (zMJ L (by omega))
 have t1:decide ((L:Int)<2)=false:=by simp;omega
 have t2:decide ((n:Int)+2<(L:Int))=false:=by simp;omega
 have Ry:=Int.pow_pos (n:=2) (m:=L) (by decide)
 have H7:px % 2 ^ L=0∧py % 2 ^ L=0∧pz % 2 ^ L=0:=of_decide_eq_true hA;clear hI hp hA;unfold trF;generalize strOfNums (Tr.enc (zJv (Tr.can f n ⟨0,0,0⟩) n L ⟨px,py,pz⟩))=R at *;generalize strOfNums (Tr.enc (Tr.can f n ⟨0,0,0⟩))=S at *;generalize (2:Int) ^ (n+2)=m at *;generalize (2:Int) ^ L=s at *;have T9:=rx.1;have hy0:=ry.1;have TQ:=rz.1;have RW:(0:Int)≤s:=by omega
 have RX:(s == 0)=false:=by simp;omega
 have u1:(px % s != 0)=false:=by simp [H7.1]
 have u2:(py % s != 0)=false:=by simp [H7.2.1]
 have u3:(pz % s != 0)=false:=by simp [H7.2.2]
 clear H7 rx ry rz;go_enter Tryz.func61,Tryz.ntmps61;go_upto_region 1 with fail;generalize hW:w.alloc _=W;have hB:=bl1 hW;have kp:Bk W (w.heap.size) #[px,py,pz] 23:=bk0 hW;clear hW;obtain ⟨cp0,cp1,cp2⟩:=kp.r3;have q0:=Bx.mk fun dk osk=>rq (Lv.o (grow (redrawn W dk) osk));have q1:=Bx.mk fun dk osk=>rq (RG.o (grow (redrawn W dk) osk));refine wg ?_
 repeat (first | go_big_quiet_step (with_reducible first | exact q0.o _ _ | exact q1.o _ _) | quiet_step (with_reducible first | exact q0.o _ _ | exact q1.o _ _))
 refine wq ?_;rintro _ ⟨⟨dq,osq⟩,rfl⟩;have Jq:=bq W dq osq;replace hB:=tr hB Jq;replace kp:=kp.la Jq;clear q0 q1 cp0 cp1 cp2 Jq Lv RG;generalize grow (redrawn W dq) osq=w1 at *;obtain ⟨cp0,cp1,cp2⟩:=kp.c3;go_wp2_with fail;refine (Re.o _).mono ?_;rintro _ _ ⟨rfl,rfl⟩;go_wp2_with fail;refine (Ri.o _).mono ?_;rintro _ w2 ⟨rfl,Js⟩;replace hB:=tr hB Js;clear Js cp0 cp1 cp2;go_wp2_with fail
 go_ret2
 exact ⟨rfl,hB⟩
theorem zFP {N:Nat} (b:Box) (cell:Int) (hc:0≤cell∧cell≤255) (g:Pt→Int):MadeC (fun _ _=>True) N 1 b cell ⟨⟨0,0,0⟩,⟨0,0,0⟩⟩ [] ByteArray.empty g (zE9 N b cell g) where
 vtop:=trivial
 vkid:=fun _ _ _ _ _ _ _ _=>trivial
 off:=fun n a hin _ h=>zFR hin h
 part:=fun _ _ _ h=>absurd h (by decide)
 uni:=fun n a hin _ h=>⟨hc,zFN hin h⟩
 cells:=fun a hin _ _ _ p hp=>by
  unfold zE9;rw [zOH hin hp,Bool.and_true];by_cases hb:inB p b=true
  · simp [hb]
  · simp [hb]
theorem zKI {N:Nat} (b:Box) (ys:List Int) (g:Pt→Int):MadeC (fun _ _=>True) N 2 b 0 b ys ByteArray.empty g (zr N b ys g) where
 vtop:=trivial
 vkid:=fun _ _ _ _ _ _ _ _=>trivial
 off:=fun n a hin _ h=>zKK hin h
 part:=fun _ _ _ h=>absurd h (by decide)
 uni:=fun _ _ _ h=>absurd h (by decide)
 cells:=fun a hin _ _ _ p hp=>by
  unfold zr;rw [zOH hin hp,Bool.and_true];by_cases hb:inB p b=true
  · simp [hb]
  · simp [hb]
theorem zDs {n m:Nat} {a d:Pt} (h:zM n a=zM m d):n=m∧a=d:=by
 injection h with h1 h2;injection h1 with x y z;injection h2 with h3 _ _;have e:a=d:=by cases a;cases d;simp only at x y z;rw [x,y,z]
 rw [x] at h3;have h4:(2:Int) ^ (n+2)=2 ^ (m+2):=by omega
 have h5:(2:Nat) ^ (n+2)=2 ^ (m+2):=by exact_mod_cast h4
 have key : ∀ x y:Nat,x<y→(2:Nat) ^ x<2 ^ y:=fun x y h=>Nat.pow_lt_pow_right (by decide) h
 refine ⟨?_,e⟩;rcases Nat.lt_trichotomy (n+2) (m+2) with h | h | h
 · have:=key _ _ h;omega
 · omega
 · have:=key _ _ h;omega
theorem zFy {N:Nat} (m:Nat) (d:Pt) (hd:InT N m d) (t:Tr) (g f':Pt→Int) (hT:Tr.can f' m d=t) (he : ∀ p,¬Tr.InC m d p→f' p=g p) :
 MadeC (fun n a=>m≤n∨zBO n a m d=true) N 3 (zM m d) 0 ⟨⟨0,0,0⟩,⟨0,0,0⟩⟩ [] (strOfNums (Tr.enc t)) g f' where
 vtop:=.inl hd.le
 vkid:=fun n a i _ hin hV MV Ph=>by
  refine .inl ?_;have PX:m≤n+1:=hV.resolve_right (by show ¬zBO (n+1) a m d=true;unfold zBO;rw [MV];decide)
  refine Nat.lt_succ_iff.1 (Nat.lt_of_le_of_ne PX fun e=>Ph ?_);subst e;obtain ⟨p,p1,p2⟩:=zIS MV;have q1:=(zGT (n:=n+1) rfl (show Tr.Al (n+1) ⟨a.x,a.y,a.z⟩ from hin.al)).1 p1;have q2:=(zGT (n:=n+1) rfl (show Tr.Al (n+1) ⟨d.x,d.y,d.z⟩ from hd.al)).1 p2;obtain rfl:=zA2 hin.al hd.al (zGW nlr q1 q2);exact ⟨rfl,rfl⟩
 off:=fun n a hin _ MV=>Tr.can_congr n a hin.al fun p hp=>he p fun hpd=>by
  have h1:=zIR MV (hin.cube hp);rw [hd.cube hpd] at h1;cases h1
 part:=fun n a _ _ h=>by
  obtain ⟨rfl,rfl⟩:=zDs h;rw [hT]
 uni:=fun _ _ _ h=>absurd h (by decide)
 cells:=fun a hin hV MV Ph p hp=>by
  exfalso;have hm0:m≤0:=hV.resolve_right (by show ¬zBO 0 a m d=true;unfold zBO;rw [MV];decide)
  obtain rfl:m=0:=by omega
  obtain ⟨p,p1,p2⟩:=zIS MV;have q1:=(zGT (n:=0) rfl (show Tr.Al 0 ⟨a.x,a.y,a.z⟩ from hin.al)).1 p1;have q2:=(zGT (n:=0) rfl (show Tr.Al 0 ⟨d.x,d.y,d.z⟩ from hd.al)).1 p2;obtain rfl:=zA2 hin.al hd.al (zGW nlr q1 q2);exact Ph ⟨rfl,rfl⟩
theorem zFm:GoodG ⟨⟨0,0,0⟩,⟨0,0,0⟩⟩ [] 0:=⟨⟨by decide,by decide,by decide,by decide,by decide,by decide⟩,by decide,by decide,(fun x h=>by cases h),by decide⟩
theorem zMN (w:World):Sl w .i64 none []:=fun i x h=>by simp at h
theorem zE5 {N:Nat} (hN:N≤12) (a b c d e f cell:Int) (hc:0≤cell∧cell≤255) (g:Pt→Int) (hg : ∀ p,0≤g p∧g p≤255) (N1 : ∀ p,0≤zE9 N ⟨⟨a,b,c⟩,⟨d,e,f⟩⟩ cell g p∧zE9 N ⟨⟨a,b,c⟩,⟨d,e,f⟩⟩ cell g p≤255) (w:World) :
 Calls Tryz.prog 58 #[.string (strOfNums (Tr.enc (trF N g))),((N:Int)+2:Int),.agg #[a,b,c,d,e,f],cell] w fun e' w'=>e' = .returned (.tuple #[.string (strOfNums (Tr.enc (trF N (zE9 N ⟨⟨a,b,c⟩,⟨d,e,f⟩⟩ cell g)))),(0:Int)])∧Below w.heap.size w w':=by
 have PN:=Bx.mk fun W=>zH8 hN (zFP ⟨⟨a,b,c⟩,⟨d,e,f⟩⟩ cell hc g) hg N1 none 0 zFm N ⟨0,0,0⟩ (InT.top N) trivial W (zMN W);unfold trF;generalize strOfNums (Tr.enc (Tr.can g N ⟨0,0,0⟩))=S at *;generalize strOfNums (Tr.enc (Tr.can (zE9 N ⟨⟨a,b,c⟩,⟨d,e,f⟩⟩ cell g) N ⟨0,0,0⟩))=R at *;have t1:decide (cell<0)=false:=by simp;omega
 have t2:decide (255<cell)=false:=by simp;omega
 clear hc hg N1;go_enter Tryz.func58,Tryz.ntmps58;go_upto_region 1 with fail;generalize hW:w.alloc _=W;have hB:=bl1 hW;have kb:Bk W w.heap.size #[a,b,c,d,e,f] 25:=bk0 hW;clear hW;obtain ⟨c0,c1,c2,c3,c4,c5⟩:=kb.c6;go_wp2_with fail;refine (PN.o _).mono ?_;rintro _ w2 ⟨rfl,hb⟩;have I2:=tr hB hb;clear c0 c1 c2 c3 c4 c5 hb hB kb PN;go_wp2_with fail
 go_ret2
 exact ⟨rfl,I2⟩
theorem zE6 (S:ByteArray) (dd a b c d e f cell:Int) (hc : ¬(0≤cell∧cell≤255)) (w:World) :
 Calls Tryz.prog 58 #[.string S,dd,.agg #[a,b,c,d,e,f],cell] w fun e' w'=>e' = .returned (.tuple #[.string ByteArray.empty,(1:Int)])∧Below w.heap.size w w':=by
 by_cases h:cell<0
 · have t1:decide (cell<0)=true:=by simpa using h
   clear hc h;go_enter Tryz.func58,Tryz.ntmps58;go_wp2_with fail
   go_ret2
   exact ⟨rfl,bf⟩
 · have t1:decide (cell<0)=false:=by simp;omega
   have t2:decide (255<cell)=true:=by simp;omega
   clear hc h;go_enter Tryz.func58,Tryz.ntmps58;go_wp2_with fail
   go_ret2
   exact ⟨rfl,bf⟩
theorem zJ8 {N:Nat} (hN:N≤12) (a b c d e f:Int) (ha:Option Addr) (hcp:Nat) (ys:List Int) (HX:GoodG ⟨⟨a,b,c⟩,⟨d,e,f⟩⟩ ys hcp) (g:Pt→Int) (hg : ∀ p,0≤g p∧g p≤255) (N1 : ∀ p,0≤zr N ⟨⟨a,b,c⟩,⟨d,e,f⟩⟩ ys g p∧zr N ⟨⟨a,b,c⟩,⟨d,e,f⟩⟩ ys g p≤255) (w:World) (Rn:Sl w .i64 ha ys) :
 Calls Tryz.prog 59 #[.string (strOfNums (Tr.enc (trF N g))),((N:Int)+2:Int),.agg #[a,b,c,d,e,f,.slice ha ys.length hcp]] w fun e' w'=>e' = .returned (.string (strOfNums (Tr.enc (trF N (zr N ⟨⟨a,b,c⟩,⟨d,e,f⟩⟩ ys g)))))∧Below w.heap.size w w':=by
 have PN:=Bx.mk fun W h=>zH8 hN (zKI ⟨⟨a,b,c⟩,⟨d,e,f⟩⟩ ys g) hg N1 ha hcp HX N ⟨0,0,0⟩ (InT.top N) trivial W h;have Db:=Bx.mk Rn;unfold trF;generalize strOfNums (Tr.enc (Tr.can g N ⟨0,0,0⟩))=S at *;generalize strOfNums (Tr.enc (Tr.can (zr N ⟨⟨a,b,c⟩,⟨d,e,f⟩⟩ ys g) N ⟨0,0,0⟩))=R at *;clear hg N1 HX Rn;go_enter Tryz.func59,Tryz.ntmps59;go_upto_region 1 with fail;generalize hW:w.alloc _=W;have hB:=bl1 hW;have kb:Bk W w.heap.size #[a,b,c,d,e,f,.slice ha ys.length hcp] 28:=bk0 hW;clear hW;obtain ⟨c0,c1,c2,c3,c4,c5,c6⟩:=kb.c7;go_wp2_with fail;refine (PN.o _ (Db.o.below hB)).mono ?_;rintro _ w2 ⟨rfl,hb⟩;have I2:=tr hB hb;clear c0 c1 c2 c3 c4 c5 c6 hb hB kb PN;go_wp2_with fail;go_ret;exact ⟨rfl,I2⟩
theorem zEG (t:Tr) (hw:Tr.WF t) (w:World):Calls Tryz.prog 64 #[.string (strOfNums (Tr.enc t))] w fun e w'=>e = .returned (.int .i64 (zEB t))∧w=w':=by
 have Kz:=Tr.enc_byt _ hw;cases t with
 | uni c =>
   have Na:=fun W:World=>za (P:=Tryz.prog) 9 Tryz.underlying9 Kz (k:=0) (x:=117) (by simp [Tr.enc]) W
   rw [show ((0:Nat):Int)=0 from rfl] at Na;generalize strOfNums (Tr.enc (.uni c))=S at *;clear Kz hw;go_enter Tryz.func64,Tryz.ntmps64;go_wp2_with fail;go_ret;exact ⟨rfl,rfl⟩
 | brick l =>
   have Na:=fun W:World=>za (P:=Tryz.prog) 9 Tryz.underlying9 Kz (k:=0) (x:=98) (by simp [Tr.enc]) W
   rw [show ((0:Nat):Int)=0 from rfl] at Na;generalize strOfNums (Tr.enc (.brick l))=S at *;clear Kz hw;go_enter Tryz.func64,Tryz.ntmps64;go_wp2_with fail;go_ret;exact ⟨rfl,rfl⟩
 | node d ch =>
   have Na:=fun W:World=>za (P:=Tryz.prog) 9 Tryz.underlying9 Kz (k:=0) (x:=110) (by simp [Tr.enc]) W
   have Nc:=fun W:World=>za (P:=Tryz.prog) 9 Tryz.underlying9 Kz (k:=1) (x:=(d:Int)) (by simp [Tr.enc]) W
   rw [show ((0:Nat):Int)=0 from rfl] at Na;rw [show ((1:Nat):Int)=1 from rfl] at Nc;have hd:d≤255:=hw.1;have T6:IntKind.i64.wrap (d:Int)=d:=wj _ (by omega)
   generalize strOfNums (Tr.enc (.node d ch))=S at *;clear Kz hw;go_enter Tryz.func64,Tryz.ntmps64;go_wp2_with fail;go_ret;exact ⟨rfl,rfl⟩
theorem zAW (n:Nat) (hn:n≤12) (f:Pt→Int) (px py pz lv:Int) (h : ¬partOK n px py pz lv) (w:World) :
 Calls Tryz.prog 61 #[.string (strOfNums (Tr.enc (trF n f))),((n:Int)+2:Int),.agg #[px,py,pz],lv] w fun e w'=>e = .returned (.tuple #[.string ByteArray.empty,(1:Int)])∧Below w.heap.size w w':=by
 by_cases h1:inB ⟨px,py,pz⟩ (zN (2 ^ (n+2)))=true
 · by_cases h2:lv<2
   · exact zAZ n hn f px py pz lv h1 h2 w
   · by_cases h3:(n:Int)+2<lv
     · exact zAX n hn f px py pz lv h1 h2 h3 w
     · obtain ⟨L,rfl⟩ : ∃ L:Nat,lv=(L:Int):=⟨lv.toNat,by omega⟩
       exact zAV n L hn (by omega) (by omega) f px py pz h1 (Bool.eq_false_iff.2 fun h4=>h ⟨h1,by omega,by omega,by rw [Int.toNat_natCast];exact h4⟩) w
 · exact zAY n hn f px py pz lv (Bool.eq_false_iff.2 h1) w
theorem zFt (n:Nat) (hn:n≤12) (f:Pt→Int) (px py pz lv:Int) (T:ByteArray) (h : ¬partOK n px py pz lv) (w:World) :
 Calls Tryz.prog 62 #[.string (strOfNums (Tr.enc (trF n f))),((n:Int)+2:Int),zO px py pz lv,.string T] w fun e w'=>e = .returned (.tuple #[.string ByteArray.empty,(1:Int)])∧Below w.heap.size w w':=by
 have hp:=Bx.mk fun W=>zAW n hn f px py pz lv h W;generalize strOfNums (Tr.enc (trF n f))=S at *;clear h hn;go_enter Tryz.func62,Tryz.ntmps62;go_upto_region 1 with fail;generalize hW:w.alloc _=W;have hB:=bl1 hW;have kc:Bk W w.heap.size #[px,py,pz,lv] 39:=bk0 hW;clear hW;obtain ⟨c0,c1,c2,c3⟩:=kc.c4;go_wp2_with fail;refine (hp.o _).mono ?_;rintro _ w2 ⟨rfl,hb⟩;have I2:=tr hB hb;clear c0 c1 c2 c3 hb hB;go_wp2_with fail
 go_ret2
 exact ⟨rfl,I2⟩
structure GSays10 (V:Prop) (R:ByteArray) (w:World) (e:Ending) (w':World):Prop where
 bel:Below w.heap.size w w'
 ok:V→e = .returned (.tuple #[.string R,(0:Int)])
 bad : ¬V→e = .returned (.tuple #[.string ByteArray.empty,(1:Int)])
theorem zFs {N:Nat} (hN:N≤12) (m:Nat) (d:Pt) (QE:partOK N d.x d.y d.z ((m+2:Nat):Int)) (t:Tr) (hw:Tr.WF t) (g f':Pt→Int) (hg : ∀ p,0≤g p∧g p≤255)
 (hf:zFW t ((m+2:Nat):Int)→Tr.can f' m d=t∧(∀ p,¬Tr.InC m d p→f' p=g p)∧(∀ p,0≤f' p∧f' p≤255)) (w:World) :
 Calls Tryz.prog 62 #[.string (strOfNums (Tr.enc (trF N g))),((N:Int)+2:Int),zO d.x d.y d.z ((m+2:Nat):Int),.string (strOfNums (Tr.enc t))] w (GSays10 (zFW t ((m+2:Nat):Int)) (strOfNums (Tr.enc (trF N f'))) w):=by
 have hd:=QE.inT;have OY:=hd.le;obtain ⟨b1,b2,b3⟩:=hd.bd hN;have PN:=Bx.mk fun (Mq:zFW t ((m+2:Nat):Int)) W=>zH8 hN (zFy m d hd t g f' (hf Mq).1 (hf Mq).2.1) hg (hf Mq).2.2 none 0 zFm N ⟨0,0,0⟩ (InT.top N) (.inl OY) W (zMN W);have hp:=Bx.mk fun W=>zAa N (m+2) hN (by omega) (by omega) g hg d.x d.y d.z QE.1 (by have:=QE.2.2.2;rwa [Int.toNat_natCast] at this) W
 have Lv:=Bx.mk fun W=>zDp d.x d.y d.z (m+2) (by omega) (by omega) (by omega) (by omega) W
 have MC:=Bx.mk fun W=>zEG t hw W;have Kz:=Tr.enc_byt _ hw
 obtain ⟨x,hx,TE⟩ : ∃ x,(Tr.enc t)[0]? = some x∧((x != 117)=false ↔ zi t=1):=by
  cases t with
  | uni c=>exact ⟨117,by simp [Tr.enc],by simp [zi]⟩
  | brick l=>exact ⟨98,by simp [Tr.enc],by simp [zi]⟩
  | node d ch=>exact ⟨110,by simp [Tr.enc],by simp [zi]⟩
 have Na:=Bx.mk fun W:World=>za (P:=Tryz.prog) 9 Tryz.underlying9 Kz (k:=0) (x:=x) hx W;rw [show ((0:Nat):Int)=0 from rfl] at Na;generalize strOfNums (Tr.enc (zJv (trF N g) N (m+2) ⟨d.x,d.y,d.z⟩))=P0 at *;unfold trF at *;generalize strOfNums (Tr.enc (Tr.can g N ⟨0,0,0⟩))=S at *;generalize strOfNums (Tr.enc (Tr.can f' N ⟨0,0,0⟩))=R at *;generalize strOfNums (Tr.enc t)=T at *;unfold zFW at *;generalize zi t=kt at *;generalize zEB t=dt at *;generalize ((m+2:Nat):Int)=L at *;have Hx:=Bx.mk TE;clear Kz hx TE hw hg hf QE hd OY b1 b2 b3;go_enter Tryz.func62,Tryz.ntmps62;go_upto_region 1 with fail;generalize hW:w.alloc _=W;have hB:=bl1 hW;have kc:Bk W w.heap.size #[d.x,d.y,d.z,L] 39:=bk0 hW;clear hW;obtain ⟨c0,c1,c2,c3⟩:=kc.c4;go_wp2_with fail;refine (hp.o _).mono ?_;rintro _ w2 ⟨rfl,hb⟩;have I2:=tr hB hb;replace kc:=kc.la hb;clear c0 c1 c2 c3 hb hB;go_upto_region 4 with fail;by_cases h1:kt=1
 · have HF:Bx (kt=1∨dt=L):=⟨.inl h1⟩;have t1:(x != 117)=false:=Hx.o.2 h1;clear h1;have G0 : ∀ dk osk,(grow (redrawn w2 dk) osk).cell? ⟨w.heap.size,3,none⟩=some (.int .i64 L):=cq (kc.cell 3 rfl);have Nm:=Na.o;have q0:=Bx.mk fun dk osk=>rq ((MC.o (grow (redrawn w2 dk) osk)).mono fun e w' h=>(⟨h.1,by rw [←h.2];exact br⟩:e=_∧Below (grow (redrawn w2 dk) osk).heap.size (grow (redrawn w2 dk) osk) w'))
   refine wg ?_
   repeat (first | go_big_quiet_step (with_reducible exact q0.o _ _) | quiet_step (with_reducible exact q0.o _ _))
   refine wq ?_;rintro _ ⟨⟨dq,osq⟩,rfl⟩;have hb:=bq w2 dq osq;clear G0 q0 Nm;replace kc:=kc.la hb;have I4:=tr I2 hb;clear hb;generalize grow (redrawn w2 dq) osq=W3 at *;clear t1;obtain ⟨c0,c1,c2,c3⟩:=kc.c4;go_wp2_with fail;refine (Lv.o _).mono ?_;rintro _ w4 ⟨rfl,Jz⟩;have I5:=tr I4 Jz;clear c0 c1 c2 c3 Jz I4;have hq:=Bx.mk (PN.o HF.o w4);go_wp2_with fail;refine hq.o.mono ?_;rintro _ w5 ⟨rfl,K3⟩;have I6:=tr I5 K3;clear K3 I5 hq;go_wp2_with fail
   go_ret2
   exact ⟨I6,fun _=>rfl,fun h=>absurd HF.o h⟩
 · have t1:(x != 117)=true:=by
    cases hq:(x != 117) with
    | true=>rfl
    | false=>exact absurd (Hx.o.1 hq) h1
   by_cases h2:dt=L
   · have HF:Bx (kt=1∨dt=L):=⟨.inr h2⟩;have t2:(dt != L)=false:=by simp [h2]
     clear h1 h2;have G0 : ∀ dk osk,(grow (redrawn w2 dk) osk).cell? ⟨w.heap.size,3,none⟩=some (.int .i64 L):=cq (kc.cell 3 rfl);have Nm:=Na.o;have q0:=Bx.mk fun dk osk=>rq ((MC.o (grow (redrawn w2 dk) osk)).mono fun e w' h=>(⟨h.1,by rw [←h.2];exact br⟩:e=_∧Below (grow (redrawn w2 dk) osk).heap.size (grow (redrawn w2 dk) osk) w'))
     refine wg ?_
     repeat (first | go_big_quiet_step (with_reducible exact q0.o _ _) | quiet_step (with_reducible exact q0.o _ _))
     refine wq ?_;rintro _ ⟨⟨dq,osq⟩,rfl⟩;have hb:=bq w2 dq osq;clear G0 q0 Nm;replace kc:=kc.la hb;have I4:=tr I2 hb;clear hb;generalize grow (redrawn w2 dq) osq=W3 at *;clear t1 t2;obtain ⟨c0,c1,c2,c3⟩:=kc.c4;go_wp2_with fail;refine (Lv.o _).mono ?_;rintro _ w4 ⟨rfl,Jz⟩;have I5:=tr I4 Jz;clear c0 c1 c2 c3 Jz I4;have hq:=Bx.mk (PN.o HF.o w4);go_wp2_with fail;refine hq.o.mono ?_;rintro _ w5 ⟨rfl,K3⟩;have I6:=tr I5 K3;clear K3 I5 hq;go_wp2_with fail
     go_ret2
     exact ⟨I6,fun _=>rfl,fun h=>absurd HF.o h⟩
   · have HB:Bx (¬(kt=1∨dt=L)):=⟨fun h=>h.elim h1 h2⟩;have t2:(dt != L)=true:=by simp [h2]
     clear h1 h2;have G0 : ∀ dk osk,(grow (redrawn w2 dk) osk).cell? ⟨w.heap.size,3,none⟩=some (.int .i64 L):=cq (kc.cell 3 rfl);have Nm:=Na.o;have q0:=Bx.mk fun dk osk=>rq ((MC.o (grow (redrawn w2 dk) osk)).mono fun e w' h=>(⟨h.1,by rw [←h.2];exact br⟩:e=_∧Below (grow (redrawn w2 dk) osk).heap.size (grow (redrawn w2 dk) osk) w'))
     refine wg ?_
     repeat (first | go_big_quiet_step (with_reducible exact q0.o _ _) | quiet_step (with_reducible exact q0.o _ _))
     refine wq ?_;rintro _ ⟨⟨dq,osq⟩,rfl⟩;have hb:=bq w2 dq osq;clear G0 q0 Nm;replace kc:=kc.la hb;have I4:=tr I2 hb;clear hb;generalize grow (redrawn w2 dq) osq=W3 at *;go_wp2_with fail
     go_ret2
     exact ⟨I4,fun h=>absurd h HB.o,fun _=>rfl⟩
theorem zHv (w:World) (Far:Nat→Prop) (sb:Nat) (UA:Int) (ts:List Tr) (c:Int) (hc:0≤c∧c≤255) (ht:Tr.uni c∈ts) (hG:Good ts) (Od:ts.length≤4194304) (hS:StoreIs w Far sb UA ts) :
 Calls Tryz.prog 15 #[.pointer (some ⟨sb,0,none⟩),(idT ts (.uni c):Int),.string (strOfNums (Tr.enc (.uni c)))] w fun e w'=>e = .returned (.bool true)∧Below w.heap.size w w':=by
 have LN:=Bx.mk (zCc w Far sb UA ts (.uni c) ht hG (by omega) hS)
 have hK:=Bx.mk fun W (h:Below w.heap.size w W)=>kind_b Far sb UA ts (.uni c) ht 1 rfl Od W (hS.la h)
 have Kz:Byt [117,c]:=fun x hx=>by
  simp only [List.mem_cons,List.not_mem_nil,or_false] at hx;omega
 have Na:=fun W:World=>za (P:=Tryz.prog) 9 Tryz.underlying9 Kz (k:=0) (x:=117) rfl W;have Nc:=fun W:World=>za (P:=Tryz.prog) 9 Tryz.underlying9 Kz (k:=1) (x:=c) rfl W;rw [show ((0:Nat):Int)=0 from rfl] at Na;rw [show ((1:Nat):Int)=1 from rfl] at Nc;have T6:IntKind.i64.wrap c=c:=wj _ (by omega)
 rw [show Tr.enc (.uni c)=[117,c] by simp [Tr.enc]]
 generalize strOfNums [117,c]=S at *;generalize (idT ts (.uni c):Int)=id at *;clear Kz hc ht hG Od hS;go_enter Tryz.func15,Tryz.ntmps15;go_wp2_with fail;refine LN.o.mono ?_;rintro _ w1 ⟨v,rfl,QP,hB⟩;obtain ⟨pa,pc,rfl,Rn⟩:=QP.form;obtain ⟨b,off,rfl,LO⟩:=Rn 0 c rfl;rw [Nat.add_zero] at LO;have Cb:=Bx.mk LO;have Og:(zJV (.uni c)).length=1:=rfl;rw [Og];clear QP Rn LN LO Og;go_wp2_with fail;have qc : ∀ dk osk,(grow (redrawn w1 dk) osk).cell? ⟨b,off,none⟩=some (.int .i64 c):=cq Cb.o;have q0:=Bx.mk fun dk osk=>rq (hK.o _ (hB.trans ((bq w1 dk osk).mono hB.size)));refine wg ?_
 repeat (first | go_big_quiet_step (with_reducible exact q0.o _ _) | quiet_step (with_reducible exact q0.o _ _))
 refine wq ?_;rintro _ ⟨⟨dq,osq⟩,rfl⟩;have Jq:=bq w1 dq osq;replace hB:=tr hB Jq;generalize grow (redrawn w1 dq) osq=w2 at *;clear q0 qc;go_wp2_with fail;go_ret;exact ⟨rfl,hB⟩
theorem zHu (w:World) (Far:Nat→Prop) (sb:Nat) (UA:Int) (ts:List Tr) (l:List Int) (hl:l.length=64) (hb : ∀ x∈l,0≤x∧x≤255) (ht:Tr.brick l∈ts) (hG:Good ts) (Od:ts.length≤4194304) (hS:StoreIs w Far sb UA ts) :
 Calls Tryz.prog 15 #[.pointer (some ⟨sb,0,none⟩),(idT ts (.brick l):Int),.string (strOfNums (Tr.enc (.brick l)))] w fun e w'=>e = .returned (.bool true)∧Below w.heap.size w w':=by
 have LN:=Bx.mk (zCc w Far sb UA ts (.brick l) ht hG (by omega) hS)
 have hK:=Bx.mk fun W (h:Below w.heap.size w W)=>zHO Far sb UA ts _ (.brick l) (zGM ht) 2 rfl Od W (hS.la h)
 have Kz:Byt (98::l):=fun x hx=>by
  rcases List.mem_cons.1 hx with rfl | hx
  · omega
  · exact hb x hx
 have Na:=fun W:World=>za (P:=Tryz.prog) 9 Tryz.underlying9 Kz (k:=0) (x:=98) rfl W;rw [show ((0:Nat):Int)=0 from rfl] at Na;have Nq:=Bx.mk fun (j:Nat) (x:Int) (hx:l[j]? = some x)=>(show (∀ W:World,_)∧0≤x∧x≤255 from ⟨fun W:World=>za (P:=Tryz.prog) 9 Tryz.underlying9 Kz (k:=j+1) (x:=x) (by simpa using hx) W,hb x (List.mem_of_getElem? hx)⟩)
 rw [show Tr.enc (.brick l)=98::l by simp [Tr.enc]]
 generalize strOfNums (98::l)=S at *;generalize (idT ts (.brick l):Int)=id at *;have Hl:=Bx.mk hl;clear Kz hb ht hG Od hS hl;go_enter Tryz.func15,Tryz.ntmps15;go_wp2_with fail;refine LN.o.mono ?_;rintro _ w1 ⟨v,rfl,QP,hB⟩;obtain ⟨pa,pc,rfl,Rn⟩:=QP.form;replace Rn:=Bx.mk Rn;have Og:(zJV (.brick l)).length=64:=Hl.o;have QO:zJV (.brick l)=l:=rfl;rw [QO] at Rn;rw [Og];clear QP LN Og QO;go_wp2_with fail;refine (hK.o _ hB).mono ?_;rintro _ _ ⟨rfl,rfl⟩;have HB:=Bx.mk hB;clear hB hK;go_wp2_with fail
 go_loopw [55] (fun v55 wr => ∃ j:Nat,j≤64∧v55 = .int .i64 j∧wr=w1) (fun i _=>64 - (intOf i).toNat)
 case atStart=>exact ⟨0,Nat.zero_le _,rfl,rfl⟩
 case round =>
  obtain ⟨j,hj,rfl,T4⟩:=hrel;subst T4;by_cases hlt:j<64
  · have t1:decide ((j:Int)<64)=true:=by simp;omega
    obtain ⟨x,hx⟩ : ∃ x,l[j]? = some x:=⟨_,lge (by have:=Hl.o;omega)⟩
    obtain ⟨b,off,rfl,LO⟩:=Rn.o j x hx;obtain ⟨Nz,T9⟩:=Nq.o j x hx;rw [show ((j+1:Nat):Int)=1+(j:Int) by omega] at Nz
    have hwx:IntKind.i64.wrap x=x:=wj _ (by omega)
    have b1:(0:Int)≤(j:Int):=by omega
    have b2:(j:Int)<64:=by omega
    have Sr:IntKind.i64.wrap (1+(j:Int))=1+(j:Int):=wj _ (by omega)
    clear hx T9;go_wp2_with fail
    go_roundw
    case rel=>exact ⟨j+1,by omega,by go_num,trivial⟩
    case measure=>simp [intOf];omega
  · obtain rfl:j=64:=by omega
    have t1:decide (((64:Nat):Int)<64)=false:=by decide
    go_wp2_with fail;go_ret;exact ⟨rfl,HB.o⟩
theorem zHt (Far:Nat→Prop) (sb:Nat) (UA:Int) (ts:List Tr) (hG:Good ts) (Od:ts.length≤4194304) : ∀ (t:Tr),Tr.WF t→(Tr.enc t).length≤1000000000000000→t∈ts → ∀ (w:World),StoreIs w Far sb UA ts →
 Calls Tryz.prog 15 #[.pointer (some ⟨sb,0,none⟩),(idT ts t:Int),.string (strOfNums (Tr.enc t))] w fun e w'=>e = .returned (.bool true)∧Below w.heap.size w w':=by
 intro t
 induction t with
 | uni c=>intro h _ ht w hS;exact zHv w Far sb UA ts c h ht hG Od hS
 | brick l=>intro h _ ht w hS;exact zHu w Far sb UA ts l h.1 h.2 ht hG Od hS
 | node d ch ih =>
   intro h S9 ht w hS;have hK:=Bx.mk fun W (hs:StoreIs W Far sb UA ts)=>zj Far sb UA ts (.node d ch) ht Od W hs;have hD:=Bx.mk fun W (hs:StoreIs W Far sb UA ts)=>zEI Far sb UA ts (.node d ch) ht (d:Int) rfl Od W hs
   have hC:=Bx.mk fun W (hs:StoreIs W Far sb UA ts)=>zCz Far sb UA ts _ (.node d ch) (zGM ht) (zHF ts ch 0) (zHF ts ch 1) (zHF ts ch 2) (zHF ts ch 3) (zHF ts ch 4) (zHF ts ch 5) (zHF ts ch 6) (zHF ts ch 7) (fun j u hu=>by
    match j with
    | 0=>simp at hu;subst hu;rfl
    | 1=>simp at hu;subst hu;rfl
    | 2=>simp at hu;subst hu;rfl
    | 3=>simp at hu;subst hu;rfl
    | 4=>simp at hu;subst hu;rfl
    | 5=>simp at hu;subst hu;rfl
    | 6=>simp at hu;subst hu;rfl
    | 7=>simp at hu;subst hu;rfl
    | j+8=>simp at hu) W hs
   have hR:=Bx.mk fun W=>zKt d ch h S9 W;have IK:=Bx.mk fun W=>zEG (.node d ch) h W;rw [show zEB (.node d ch)=(d:Int) from rfl] at IK;have hd:d≤255:=h.1
   have Ig:=Bx.mk fun (k:Nat) (hk:k<8) W (hs:StoreIs W Far sb UA ts)=>(show Calls Tryz.prog 15 #[.pointer (some ⟨sb,0,none⟩),(zHF ts ch k:Int),.string (strOfNums (Tr.enc (ch ⟨k,hk⟩)))] W fun e w'=>e = .returned (.bool true)∧Below W.heap.size W w' from by
    unfold zHF;rw [dif_pos hk]
    exact ih ⟨k,hk⟩ (h.2 _) (by
     have h1:=Tr.pos_succ ch hk;have h2:=Tr.pos_le d ch (show k+1≤8 by omega)
     omega) (hG.closed.2 d ch ht _) W hs)
   have Na:=fun W:World=>za (P:=Tryz.prog) 9 Tryz.underlying9 (Tr.enc_byt _ h) (k:=0) (x:=110) (by simp [Tr.enc]) W
   rw [show ((0:Nat):Int)=0 from rfl] at Na;have HS:=Bx.mk hS;have B2:=Bx.mk fun k (hk:k<8)=>zM6 (zHH ch hk);rw [show zi (.node d ch)=3 from rfl] at hK;generalize strOfNums (Tr.enc (.node d ch))=S at *;generalize (idT ts (.node d ch):Int)=id at *;have hde:((d:Int) == (d:Int))=true:=by simp
   have hW:=Bx.mk (Below.refl w.heap.size w);clear h ht hG Od hS S9 ih;go_enter Tryz.func15,Tryz.ntmps15;go_wp2_with fail;refine (hK.o _ HS.o).mono ?_;rintro _ _ ⟨rfl,rfl⟩;go_wp2_with fail;refine (hD.o _ HS.o).mono ?_;rintro _ w1 ⟨rfl,Jr⟩;replace HS:=Bx.mk (HS.o.la Jr);replace hW:=Bx.mk (hW.o.trans Jr);clear Jr;go_wp2_with fail;refine (IK.o _).mono ?_;rintro _ _ ⟨rfl,rfl⟩;go_wp2_with fail;refine (hC.o _ HS.o).mono ?_;rintro _ w3 ⟨rfl,Jv⟩;replace HS:=Bx.mk (HS.o.la Jv);replace hW:=Bx.mk (tr hW.o Jv);clear Jv hC hK hD IK;go_wp2_with fail;generalize hW4:w3.alloc _=W4;have Jz:=bl1 hW4;have kc:Bk W4 w3.heap.size #[(zHF ts ch 0:Int),(zHF ts ch 1:Int),(zHF ts ch 2:Int),(zHF ts ch 3:Int),(zHF ts ch 4:Int),(zHF ts ch 5:Int),(zHF ts ch 6:Int),(zHF ts ch 7:Int)] 108:=bk0 hW4 rfl;replace HS:=Bx.mk (HS.o.la Jz);replace hW:=Bx.mk (tr hW.o Jz);clear hW4 Jz;generalize w3.heap.size=gc at *;refine (hR.o _).mono ?_;rintro _ w5 ⟨g,pc2,rfl,hk,-,K3⟩;have HI:=Bx.mk (show DsI w Far sb UA ts ch gc g w5 from ⟨HS.o.la K3,tr hW.o K3,kc.la K3,hk⟩);clear hk K3 kc HS hW hR;go_wp2_with fail
   go_loopw [86] (fun v11 wr => ∃ k:Nat,k≤8∧v11 = .int .i64 k∧Bx (DsI w Far sb UA ts ch gc g wr)) (fun i _=>8 - (intOf i).toNat)
   case atStart=>exact ⟨0,Nat.zero_le _,rfl,HI⟩
   case round =>
    clear HI;obtain ⟨k,hk,rfl,HI⟩:=hrel;by_cases hlt:k<8
    · have t0:decide ((k:Int)<8)=true:=by simp;omega
      have b1:(0:Int)≤(k:Int):=by omega
      have b2:(k:Int)<8:=by omega
      obtain ⟨b,off,he,LY⟩:=HI.o.kids k _ (B2.o k hlt);simp only [Option.some.injEq,Addr.mk.injEq,and_true] at he;obtain ⟨rfl,rfl⟩:=he;rw [Nat.zero_add] at LY;have LM:=cells8 HI.o.kc hlt;have q0:=Bx.mk (Ig.o k hlt wr HI.o.st);go_wp2_with fail;refine q0.o.mono ?_;rintro _ w7 ⟨rfl,K5⟩;have Ak:=Bx.mk (HI.o.la K5);clear q0 LM LY K5 HI;go_wp2_with fail
      go_roundw
      case rel=>exact ⟨k+1,by omega,by go_num,Ak⟩
      case measure=>simp [intOf];omega
    · obtain rfl:k=8:=by omega
      have t0:decide (((8:Nat):Int)<8)=false:=by decide
      go_wp2_with fail;go_ret;exact ⟨rfl,HI.o.bel⟩
end
section
open Go.RowKit Go.Sort
open Oct
def zEp (ts:List Tr):List Value:=zM5 (ts.map Tr.enc)
theorem zEr (ts:List Tr):(zEp ts).length=ts.length:=by unfold zEp;rw [zAC,List.length_map]
theorem zEq {ts:List Tr} {i:Nat} {t:Tr} (h:ts[i]? = some t):(zEp ts)[i]? = some (.string (strOfNums (Tr.enc t))):=zM6 (by rw [List.getElem?_map,h];rfl)
theorem zEs (ts:List Tr) (t:Tr):zEp (ts++[t])=zEp ts++[.string (strOfNums (Tr.enc t))]:=by unfold zEp;rw [List.map_append];exact zM7 _ _
noncomputable def hasB (ts:List Tr) (t:Tr):Bool:=@decide (t∈ts) (Classical.propDecidable _)
theorem zF8 {ts:List Tr} {t:Tr} (h:t∈ts):hasB ts t=true:=@decide_eq_true _ (Classical.propDecidable _) h
theorem zF7 {ts:List Tr} {t:Tr} (h:t ∉ ts):hasB ts t=false:=@decide_eq_false _ (Classical.propDecidable _) h
theorem zNM {t t':Tr} (h:Tr.WF t) (h':Tr.WF t'):strOfNums (Tr.enc t)=strOfNums (Tr.enc t') ↔ t=t' :=
 ⟨fun e=>(Tr.enc_eq h h').1 (zM0 (Tr.enc_byt _ h) (Tr.enc_byt _ h') e),fun e=>by rw [e]⟩
theorem zKv (ts:List Tr) (t:Tr) (SJ : ∀ x∈ts,Tr.WF x) (ht:Tr.WF t) (hl:ts.length≤1000000000) (a:Option Addr) (cap:Nat) (w:World) (hs:Slv w a (zEp ts)) :
 Calls Tryz.prog 56 #[.slice a ts.length cap,.string (strOfNums (Tr.enc t))] w fun e w'=>e = .returned (.bool (hasB ts t))∧w=w':=by
 have Hs:=Bx.mk hs;have Hw:=Bx.mk SJ;have Ht:=Bx.mk ht;obtain ⟨n,hn⟩ : ∃ n,n=ts.length:=⟨_,rfl⟩;rw [←hn] at hl ⊢;have Hn:=Bx.mk hn;generalize hS:strOfNums (Tr.enc t)=S;have HS:=Bx.mk hS;clear hs SJ ht hn hS;go_enter Tryz.func56,Tryz.ntmps56;go_wp2_with fail
 go_loop [5] (fun i => ∃ k:Nat,k≤n∧i = .int .i64 k∧Bx (∀ j,j<k→ts[j]? ≠ some t)) (fun i=>n - (intOf i).toNat)
 case atStart=>exact ⟨0,Nat.zero_le _,rfl,⟨fun j hj=>absurd hj (Nat.not_lt_zero j)⟩⟩
 case round =>
  obtain ⟨k,hk,rfl,Px⟩:=hrel;by_cases hlt:k<n
  · have t0:decide ((k:Int)<(n:Int))=true:=by simp;omega
    obtain ⟨x,hx⟩ : ∃ x,ts[k]? = some x:=⟨_,lge (by rw [←Hn.o];exact hlt)⟩
    obtain ⟨b,off,rfl,hc⟩:=Hs.o k _ (zEq hx);have b1:(0:Int)≤(k:Int):=by omega
    have b2:(k:Int)<(n:Int):=by omega
    have hq:((strOfNums (Tr.enc x)).toList == S.toList)=true ↔ x=t:=by rw [zMz,←HS.o,zNM (Hw.o x (List.mem_of_getElem? hx)) Ht.o]
    have HX:=Bx.mk hx;generalize strOfNums (Tr.enc x)=X at *;by_cases he:x=t
    · have h1:(X.toList == S.toList)=true:=hq.2 he;have Hm:=Bx.mk (show t∈ts from he ▸ List.mem_of_getElem? HX.o);clear hx hq he HX;go_wp2_with fail;go_ret;exact ⟨by rw [zF8 Hm.o];rfl,rfl⟩
    · have h1:(X.toList == S.toList)=false:=by
       cases hb:(X.toList == S.toList) with
       | false=>rfl
       | true=>exact absurd (hq.1 hb) he
      have Py:=Bx.mk (show ∀ j,j<k+1→ts[j]? ≠ some t from fun j hj=>by
       by_cases e:j=k
       · rw [e,HX.o];intro e2;injection e2 with e2;exact he e2
       · exact Px.o j (by omega))
      clear hx hq he HX;go_wp2_with fail;go_round
      case rel=>exact ⟨k+1,by omega,by go_num,Py⟩
      case measure=>simp [intOf];omega
  · obtain rfl:k=n:=by omega
    have t0:decide ((k:Int)<(k:Int))=false:=by simp
    have Hm:=Bx.mk (show t ∉ ts from fun hm=>by
     obtain ⟨j,hj,he⟩:=List.getElem_of_mem hm;exact Px.o j (by rw [Hn.o];exact hj) (by rw [lge hj,he]))
    go_wp2_with fail;go_ret;exact ⟨by rw [zF7 Hm.o];rfl,rfl⟩
theorem zEk (t:Tr) : ∃ b r,Tr.enc t=b::r∧((b == 110)=true ↔ ∃ d ch,t = .node d ch):=by
 cases t with
 | uni c=>exact ⟨117,[c],by rw [Tr.enc],by simp⟩
 | brick l=>exact ⟨98,l,by rw [Tr.enc],by simp⟩
 | node d ch=>exact ⟨110,_,by rw [Tr.enc],by simp⟩
theorem wf_add : ∀ (t:Tr),Tr.WF t → ∀ (ts:List Tr),(∀ x∈ts,Tr.WF x) → ∀ x∈Tr.add t ts,Tr.WF x:=by
 have ins : ∀ (t:Tr),Tr.WF t → ∀ (ts:List Tr),(∀ x∈ts,Tr.WF x) → ∀ x∈Tr.ins t ts,Tr.WF x:=fun t ht ts SJ x hx=>by
  rcases Tr.of_mem_ins hx with h | h
  · exact SJ x h
  · exact h ▸ ht
 intro t
 induction t with
 | uni c=>intro ht ts SJ;rw [Tr.add_uni];exact ins _ ht ts SJ
 | brick l=>intro ht ts SJ;rw [Tr.add_brick];exact ins _ ht ts SJ
 | node d ch ih =>
   intro ht ts SJ x hx;rw [Tr.add_node] at hx;split at hx
   · exact SJ x hx
   · rcases List.mem_append.1 hx with h | h
     · exact Tr.addK_ind (P:=fun us => ∀ x∈us,Tr.WF x) (fun i us hus=>ih i (ht.2 i) us hus) 8 nlr ts SJ x h
     · rw [List.mem_singleton] at h;exact h ▸ ht
structure AddI (w:World) (B:Nat) (v:Value) (n:Nat) (ch:Fin 8→Tr) (g:Nat) (us:List Tr) (v0:Value) (wr:World):Prop where
 own:Ownv wr B 9 v0 (zEp us)
 add:Added w wr v v0 n
 kids:Slv wr (some ⟨g,0,none⟩) (zM5 (zg ch))
 lt:g<wr.heap.size
 ap:v0.ownBlock ≠ some g
theorem zAu (t:Tr) (ht:Tr.WF t) (ts:List Tr) (SJ : ∀ x∈ts,Tr.WF x) (hm:t∈ts) (hl:ts.length≤100000000) (w:World) (B:Nat) (v:Value) (QQ:Ownv w B 9 v (zEp ts)) :
 Calls Tryz.prog 12 #[v,.string (strOfNums (Tr.enc t))] w fun e w' => ∃ v',e = .returned v'∧Ownv w' B 9 v' (zEp (Tr.add t ts))∧Added w w' v v' ts.length:=by
 rw [Tr.add_same t ts hm];obtain ⟨a,cap,rfl,Rn⟩:=QQ.form;rw [zEr];have hh:=zKv ts t SJ ht (by omega) a cap w Rn
 rw [zF8 hm] at hh;have HH:=Bx.mk hh;rw [zEr] at QQ;have DK:=Bx.mk QQ;clear hh Rn QQ SJ ht hm;generalize strOfNums (Tr.enc t)=S at *;go_enter Tryz.func12,Tryz.ntmps12;go_wp2_with fail;refine HH.o.mono ?_;rintro _ _ ⟨rfl,rfl⟩;go_wp2_with fail;go_ret;exact ⟨_,rfl,DK.o,Added.refl _ _ _⟩
theorem zAq (t:Tr) (ht:Tr.WF t) (hn : ¬ ∃ d ch,t = .node d ch) (ts:List Tr) (SJ : ∀ x∈ts,Tr.WF x) (hm:t ∉ ts) (hl:ts.length≤100000000) (w:World) (B:Nat) (hB:B≤w.heap.size) (v:Value) (QQ:Ownv w B 9 v (zEp ts)) :
 Calls Tryz.prog 12 #[v,.string (strOfNums (Tr.enc t))] w fun e w' => ∃ v',e = .returned v'∧Ownv w' B 9 v' (zEp (Tr.add t ts))∧Added w w' v v' ts.length:=by
 have JZ:Tr.add t ts=ts++[t]:=by
  cases t with
  | uni c=>rw [Tr.add_uni,Tr.ins_of_not hm]
  | brick l=>rw [Tr.add_brick,Tr.ins_of_not hm]
  | node d ch=>exact absurd ⟨d,ch,rfl⟩ hn
 have Hs:=Bx.mk (show zEp (Tr.add t ts)=zEp ts++[.string (strOfNums (Tr.enc t))] by rw [JZ,zEs])
 obtain ⟨b0,r0,MM,SK⟩:=zEk t
 have Jq:(b0 == 110)=false:=by
  cases hb:(b0 == 110) with
  | false=>rfl
  | true=>exact absurd (SK.1 hb) hn
 have Na:=fun W:World=>za (P:=Tryz.prog) 9 Tryz.underlying9 (Tr.enc_byt _ ht) (k:=0) (x:=b0) (by rw [MM];rfl) W
 rw [show ((0:Nat):Int)=0 from rfl] at Na;have hlt:=Bx.mk QQ.lt;obtain ⟨a,cap,rfl,Rn⟩:=QQ.form;rw [zEr] at QQ hlt ⊢;have hh:=zKv ts t SJ ht (by omega) a cap w Rn
 rw [zF7 hm] at hh;have HH:=Bx.mk hh;have DK:=Bx.mk QQ;have Hl:=Bx.mk (show (zEp ts).length≤1000000000 by rw [zEr];omega)
 have HE:=Bx.mk (zEr ts);clear hh Rn QQ SJ ht hm MM SK hn JZ;generalize strOfNums (Tr.enc t)=S at *;go_enter Tryz.func12,Tryz.ntmps12;go_wp2_with fail;refine HH.o.mono ?_;rintro _ _ ⟨rfl,rfl⟩
 go_wp2_with (first
  | (at_builtin
     refine zOX rfl _ _ 35 rfl 9 (.string ByteArray.empty) 16 (by omega) Tryz.underlying35 (by kernel_rfl) rfl B _ (zEp ts) rfl (DK.o.alloc _) (.string S) rfl ⟨w.heap.size,0,none⟩ 1 rfl (zF _ _ _) Hl.o (zk hB _) ?_
     intro v1 w1 QR Ja))
 rw [←Hs.o] at QR;rw [HE.o] at Ja;have H1:=Bx.mk (show Added w w1 _ v1 ts.length from Added.after (zB w _) Ja (fun g hg=>(hlt.o g hg).2));have H2:=Bx.mk QR;clear QR Ja;go_wp2_with fail;go_ret;exact ⟨v1,rfl,H2.o,H1.o⟩
theorem zKq : ∀ (t:Tr),Tr.WF t→(Tr.enc t).length≤1000000000000000 → ∀ (ts:List Tr),(∀ x∈ts,Tr.WF x)→(Tr.add t ts).length≤100000000 → ∀ (w:World) (B:Nat) (v:Value),B≤w.heap.size→Ownv w B 9 v (zEp ts) →
 Calls Tryz.prog 12 #[v,.string (strOfNums (Tr.enc t))] w fun e w' => ∃ v',e = .returned v'∧Ownv w' B 9 v' (zEp (Tr.add t ts))∧Added w w' v v' ts.length:=by
 intro t
 induction t with
 | uni c =>
   intro ht _ ts SJ hl w B v hB QQ;have OT:=(Tr.add_prefix (.uni c) ts).length_le;by_cases hm:Tr.uni c∈ts
   · exact zAu _ ht ts SJ hm (by omega) w B v QQ
   · exact zAq _ ht (by rintro ⟨d,ch,h⟩;cases h) ts SJ hm (by omega) w B hB v QQ
 | brick l =>
   intro ht _ ts SJ hl w B v hB QQ;have OT:=(Tr.add_prefix (.brick l) ts).length_le;by_cases hm:Tr.brick l∈ts
   · exact zAu _ ht ts SJ hm (by omega) w B v QQ
   · exact zAq _ ht (by rintro ⟨d,ch,h⟩;cases h) ts SJ hm (by omega) w B hB v QQ
 | node d ch ih =>
   intro ht S9 ts SJ hl w B v hB QQ;have OT:=(Tr.add_prefix (.node d ch) ts).length_le;by_cases hm:Tr.node d ch∈ts
   · exact zAu _ ht ts SJ hm (by omega) w B v QQ
   · have JZ:Tr.add (.node d ch) ts=Tr.addK ch 8 ts++[.node d ch]:=by rw [Tr.add_node,if_neg hm]
     have Hs:=Bx.mk (show zEp (Tr.add (.node d ch) ts)=zEp (Tr.addK ch 8 ts)++[.string (strOfNums (Tr.enc (.node d ch)))] by rw [JZ,zEs])
     have h8:(Tr.addK ch 8 ts).length+1≤100000000:=by rw [JZ] at hl;simpa using hl
     have Na:=fun W:World=>za (P:=Tryz.prog) 9 Tryz.underlying9 (Tr.enc_byt _ ht) (k:=0) (x:=110) (by simp [Tr.enc]) W
     rw [show ((0:Nat):Int)=0 from rfl] at Na;have hlt:=Bx.mk QQ.lt;obtain ⟨a,cap,rfl,Rn⟩:=QQ.form;rw [zEr] at QQ hlt ⊢;have hh:=zKv ts _ SJ ht (by omega) a cap w Rn
     rw [zF7 hm] at hh;have HH:=Bx.mk hh;have DK:=Bx.mk QQ;have HC:=Bx.mk fun W=>zKt d ch ht S9 W;have D4:=Bx.mk fun k (hk:k≤8)=>(zAn (ch:=ch) (ts:=ts) hk nlr).length_le;have D5:=Bx.mk fun k (hk:k≤8)=>(Tr.addK_prefix ch k hk ts).length_le;have Hwf:=Bx.mk fun k (hk:k≤8)=>Tr.addK_ind (P:=fun us => ∀ x∈us,Tr.WF x) (fun i us hus=>wf_add _ (ht.2 i) us hus) k hk ts SJ
     have HIH:=Bx.mk fun (k:Nat) (hk:k<8)=>ih ⟨k,hk⟩ (ht.2 _) (by
      have h1:=Tr.pos_succ ch hk;have h2:=Tr.pos_le d ch (show k+1≤8 by omega)
      omega) (Tr.addK ch k ts) (Hwf.o k (by omega)) (by
      rw [←Tr.addK_succ ch hk];have:=D4.o (k+1) (by omega);omega)
     have HE8:=Bx.mk (show (zEp (Tr.addK ch 8 ts)).length≤1000000000 by rw [zEr];omega)
     have Hsu:=Bx.mk fun k (hk:k<8)=>Tr.addK_succ ch hk ts;have HK:=Bx.mk fun k (hk:k<8)=>zM6 (zHH ch hk);clear hh Rn QQ SJ ht hm JZ ih S9 h8;generalize strOfNums (Tr.enc (.node d ch))=S at *;go_enter Tryz.func12,Tryz.ntmps12;go_wp2_with fail;refine HH.o.mono ?_;rintro _ _ ⟨rfl,rfl⟩;go_wp2_with fail;refine (HC.o _).mono ?_;rintro _ w1 ⟨g,pc,rfl,hk,hg,hb⟩;have HI:Bx (AddI w B (.slice a ts.length cap) ts.length ch g (Tr.addK ch 0 ts) (.slice a ts.length cap) w1):=⟨⟨by rw [Tr.addK_zero];exact DK.o.below hb,(Added.refl _ _ _).below hb,hk,hg.2,fun e=>by have:=(hlt.o g e).2;omega⟩⟩
     clear hk hg hb;go_wp2_with fail
     go_loopw [0,7] (fun v0 v7 wr => ∃ k:Nat,k≤8∧v7 = .int .i64 k∧Bx (AddI w B (.slice a ts.length cap) ts.length ch g (Tr.addK ch k ts) v0 wr)) (fun _ i _=>8 - (intOf i).toNat)
     case atStart=>exact ⟨0,Nat.zero_le _,rfl,HI⟩
     case round =>
      clear HI;obtain ⟨k,hk,rfl,HI⟩:=hrel;obtain ⟨a0,cap0,rfl,-⟩:=HI.o.own.form;by_cases hlt8:k<8
      · have t0:decide ((k:Int)<8)=true:=by simp;omega
        have b1:(0:Int)≤(k:Int):=by omega
        have b2:(k:Int)<8:=by omega
        obtain ⟨b,off,he,LY⟩:=HI.o.kids k _ (HK.o k hlt8);simp only [Option.some.injEq,Addr.mk.injEq,and_true] at he;obtain ⟨rfl,rfl⟩:=he;rw [Nat.zero_add] at LY;have LB:=Bx.mk (HIH.o k hlt8 wr B _ (nlt hB HI.o.add.grown.size) HI.o.own);rw [←Hsu.o k hlt8] at LB;have Hlk:=Bx.mk (D5.o k (by omega))
        go_wp2_with fail;refine LB.o.mono ?_;rintro _ w2 ⟨v2,rfl,ho,ha⟩
        have Ak:Bx (AddI w B (.slice a ts.length cap) ts.length ch g (Tr.addK ch (k+1) ts) v2 w2):=⟨⟨ho,HI.o.add.trans ha Hlk.o (fun g hg=>(hlt.o g hg).2),HI.o.kids.grown ha.grown HI.o.ap,nll HI.o.lt ha.grown.size,fun e=>by
         rcases ha.where_ with h1 | h1
         · exact HI.o.ap (h1 ▸ e)
         · have:=h1 g e;have:=HI.o.lt;omega⟩⟩
        clear ho ha LB LY;go_wp2_with fail
        go_roundw
        case rel=>exact ⟨k+1,by omega,by go_num,Ak⟩
        case measure=>simp [intOf];omega
      · obtain rfl:k=8:=by omega
        have t0:decide (((8:Nat):Int)<8)=false:=by decide
        have I2:B≤wr.heap.size:=nlt hB HI.o.add.grown.size;have Hl8:=Bx.mk (D5.o 8 nlr);have HEn:=Bx.mk (zEr (Tr.addK ch 8 ts))
        go_wp2_with (first
         | (at_builtin
            refine zOX rfl _ _ 35 rfl 9 (.string ByteArray.empty) 16 (by omega) Tryz.underlying35 (by kernel_rfl) rfl B _ (zEp (Tr.addK ch 8 ts)) rfl (HI.o.own.alloc _) (.string S) rfl ⟨wr.heap.size,0,none⟩ 1 rfl (zF _ _ _) HE8.o (zk I2 _) ?_
            intro v1 w2 QR Ja))
        rw [←Hs.o] at QR;have H1:=Bx.mk (show Added w w2 (.slice a ts.length cap) v1 ts.length from HI.o.add.trans (Added.after (zB wr _) Ja (fun g hg=>(HI.o.own.lt g hg).2)) (by rw [HEn.o];exact Hl8.o) (fun g hg=>(hlt.o g hg).2))
        have H2:=Bx.mk QR;clear QR Ja;go_wp2_with fail;go_ret;exact ⟨v1,rfl,H2.o,H1.o⟩
end
section
open Go.RowKit Go.Sort Go.Maps
open Oct
structure Ed where
 x:Int
 y:Int
 z:Int
 c:Int
def SlE (w:World) (a:Option Addr) (es:List Ed):Prop := ∀ (i:Nat) (ed:Ed),es[i]? = some ed → ∃ b off,a=some ⟨b,off,none⟩∧w.cell? ⟨b,off+i * 4,none⟩=some (.int .i64 ed.x)∧w.cell? ⟨b,off+i * 4+1,none⟩=some (.int .i64 ed.y)∧w.cell? ⟨b,off+i * 4+2,none⟩=some (.int .i64 ed.z)∧w.cell? ⟨b,off+i * 4+3,none⟩=some (.int .i64 ed.c)
theorem SlE.below {w w':World} {a:Option Addr} {es:List Ed} (h:SlE w a es) (hb:Below w.heap.size w w'):SlE w' a es:=by
 intro i x hx;obtain ⟨b,off,rfl,h0,h1,h2,h3⟩:=h i x hx;exact ⟨b,off,rfl,cell_later hb h0,cell_later hb h1,cell_later hb h2,cell_later hb h3⟩
structure MatI (w:World) (Far:Nat→Prop) (sb:Nat) (UA:Int) (n:Nat) (F:Pt→Int) (ts us:List Tr) (v:Value) (wr:World):Prop where
 st:StoreIs wr Far sb UA ts
 far : ∀ j,Far j→j<wr.heap.size
 old : ∀ j,j<w.heap.size→Far j
 bel:Below w.heap.size w wr
 good:Good ts
 mem:trF n F∈ts
 fn:FnC n F
 own:Ownv wr w.heap.size 9 v (zEp us)
 row : ∀ g,v.ownBlock=some g→Far g
theorem Ownv.far {w w':World} {Far:Nat→Prop} {B:Nat} {e:TypeId} {v:Value} {vs:List Value} (h:Ownv w B e v vs) (hk:Keeps Far w w') (hf : ∀ g,v.ownBlock=some g→Far g):Ownv w' B e v vs:=by
 refine ⟨h.1,?_⟩;rcases h.2 with hn | ⟨g,cap,cur,rfl,hb,NH,rest⟩
 · exact .inl hn
 · exact .inr ⟨g,cap,cur,rfl,hb,by rw [hk.block g (hf g rfl) (Array.getElem?_eq_some_iff.1 NH).1];exact NH,rest⟩
section
variable {w wr w':World} {Far:Nat→Prop} {sb:Nat} {UA:Int} {n:Nat} {F F':Pt→Int} {ts us ts' Uz:List Tr} {v v':Value}
theorem MatI.la (h:MatI w Far sb UA n F ts us v wr) (hb:Below wr.heap.size wr w'):MatI w Far sb UA n F ts us v w' :=
 ⟨h.st.la hb,fun j hj=>nll (h.far j hj) hb.size,h.old,tr h.bel hb,h.good,h.mem,h.fn,h.own.below hb,h.row⟩
theorem MatI.made (h:MatI w Far sb UA n F ts us v wr) (hk:Keeps Far wr w') (hs:StoreIs w' Far sb UA ts') (hg:Good ts') (hm:trF n F'∈ts') (hf:FnC n F'):MatI w Far sb UA n F' ts' us v w' :=
 ⟨hs,fun j hj=>nll (h.far j hj) hk.size,h.old,zBf h.bel hk h.old,hg,hm,hf,h.own.far hk h.row,h.row⟩
theorem MatI.push {k:Nat} (h:MatI w Far sb UA n F ts us v wr) (ha:Added wr w' v v' k) (QQ:Ownv w' w.heap.size 9 v' (zEp Uz)):MatI w (fun j=>Far j∨v'.ownBlock=some j) sb UA n F ts Uz v' w':=by
 have hg:=ha.grown
 have S4:StoreIs w' (fun j=>Far j∨v'.ownBlock=some j) sb UA ts:=by
  have h1:StoreIs wr (fun j=>Far j∨v'.ownBlock=some j) sb UA ts:=h.st.widen fun k hk=>by
   rcases hk with hk | hk
   · exact .inl hk
   · rcases ha.where_ with e | e
     · rw [e] at hk;exact .inl (h.row k hk)
     · exact .inr (e k hk)
  cases Sm:v.ownBlock with
  | none =>
    rw [Sm] at hg;exact h1.la ⟨hg.os,hg.tape,hg.output,hg.size,fun i hi=>hg.block i hi (by simp)⟩
  | some g=>rw [Sm] at hg;exact h1.apart hg (.inl (h.row g Sm))
 refine ⟨S4,fun j hj=>?_,fun j hj=>.inl (h.old j hj),?_,h.good,h.mem,h.fn,QQ,fun g hg=>.inr hg⟩
 · rcases hj with hj | hj
   · exact nll (h.far j hj) hg.size
   · exact (QQ.lt j hj).2
 · exact h.bel.grown hg h.bel.size (fun g e=>(h.own.lt g e).1)
theorem MatI.drop {k:Nat} (h:MatI w Far sb UA n F ts us v wr) (ha:Added wr w' v v' k) (hk:us.length≤k):MatI w Far sb UA n F ts us v w':=by
 have hg:=ha.grown
 have S4:StoreIs w' Far sb UA ts:=by
  cases Sm:v.ownBlock with
  | none =>
    rw [Sm] at hg;exact h.st.la ⟨hg.os,hg.tape,hg.output,hg.size,fun i hi=>hg.block i hi (by simp)⟩
  | some g=>rw [Sm] at hg;exact h.st.apart hg (h.row g Sm)
 exact ⟨S4,fun j hj=>Nat.lt_of_lt_of_le (h.far j hj) hg.size,h.old,h.bel.grown hg h.bel.size (fun g e=>(h.own.lt g e).1),h.good,h.mem,h.fn,h.own.keep ha (by rw [zEr];exact hk),h.row⟩
end
theorem zFr {ts:List Tr} (hG:Good ts) : ∀ x∈ts,Tr.WF x:=fun x hx=>zOF hG x hx
noncomputable def txt (n:Nat) (F:Pt→Int):ByteArray:=strOfNums (Tr.enc (trF n F))
noncomputable def idn (ts:List Tr) (n:Nat) (F:Pt→Int):Int:=(idT ts (trF n F):Int)
noncomputable def zAv (n:Nat) (F:Pt→Int) (ts:List Tr):List Tr:=Tr.add (trF n F) ts
theorem zEo {n:Nat} {F:Pt→Int} (hn:n≤12) (hF : ∀ p,0≤F p∧F p≤255):(Tr.enc (trF n F)).length≤1000000000000000:=by
 have h:=Tr.enc_small n (trF n F) (zAF hF n _ (by omega)) (zMS F n _)
 have h8:8 ^ n≤8 ^ 12:=Nat.pow_le_pow_right (by omega) hn
 omega
theorem zH6 (w:World) (sb:Nat) (a b c d e f:Int) (ha:Option Addr) (hcp:Nat) (xs:List Int) (n:Nat) (hn:n≤12) (Rn:Sl w .i64 ha xs) (HX:GoodG ⟨⟨a,b,c⟩,⟨d,e,f⟩⟩ xs hcp) (hV:zN6 ⟨⟨a,b,c⟩,⟨d,e,f⟩⟩ xs=true) (hC:zS ⟨⟨a,b,c⟩,⟨d,e,f⟩⟩=true∨zL ⟨⟨0,0,0⟩,⟨2 ^ (n+2),2 ^ (n+2),2 ^ (n+2)⟩⟩ ⟨⟨a,b,c⟩,⟨d,e,f⟩⟩=true)
 (Far:Nat→Prop) (N0:xs ≠ [] → ∀ b,ha.map (·.block)=some b→Far b) (UA:Int) (IV : ∀ k,Far k→k<w.heap.size) (hS:StoreIs w Far sb UA []) (Mq:Tr.Fits UA [] (zAv n (zE ⟨⟨a,b,c⟩,⟨d,e,f⟩⟩ xs) [])) :
 Calls Tryz.prog 33 #[.pointer (some ⟨sb,0,none⟩),.agg #[a,b,c,d,e,f,.slice ha xs.length hcp],((n:Int)+2:Int)] w fun E w'=>E=zLY (idn (zAv n (zE ⟨⟨a,b,c⟩,⟨d,e,f⟩⟩ xs) []) n (zE ⟨⟨a,b,c⟩,⟨d,e,f⟩⟩ xs)) 0∧StoreIs w' Far sb UA (zAv n (zE ⟨⟨a,b,c⟩,⟨d,e,f⟩⟩ xs) [])∧Keeps Far w w' :=
 (zFh w sb a b c d e f ha hcp xs n hn Rn HX hV hC Far N0 UA [] zFq (by simp) IV hS).mono fun _ _ h=>h.fit Mq
theorem zH7 (a b c d e f:Int) (ha:Option Addr) (hcp:Nat) (xs:List Int) (hl:xs.length≤300) (n:Nat) (hn:n≤12) (HX:GoodG ⟨⟨a,b,c⟩,⟨d,e,f⟩⟩ xs hcp) (hE:zFd ⟨⟨a,b,c⟩,⟨d,e,f⟩⟩ xs ((n:Int)+2)=0) (w:World) (Rn:Sl w .i64 ha xs) :
 Calls Tryz.prog 34 #[.agg #[a,b,c,d,e,f,.slice ha xs.length hcp],((n:Int)+2:Int)] w fun e' w'=>e' = .returned (.tuple #[.string (txt n (zE ⟨⟨a,b,c⟩,⟨d,e,f⟩⟩ xs)),(0:Int)])∧Below w.heap.size w w' :=
 zKu a b c d e f ha hcp xs hl n hn HX hE w Rn
theorem m_add (n:Nat) (F:Pt→Int) (hn:n≤12) (hF : ∀ p,0≤F p∧F p≤255) (ts:List Tr) (hG:Good ts) (hl:(zAv n F ts).length≤100000000) (w:World) (B:Nat) (v:Value) (hB:B≤w.heap.size) (QQ:Ownv w B 9 v (zEp ts)) :
 Calls Tryz.prog 12 #[v,.string (txt n F)] w fun e w' => ∃ v',e = .returned v'∧Ownv w' B 9 v' (zEp (zAv n F ts))∧Added w w' v v' ts.length :=
 zKq (trF n F) (zAF hF n _ (by omega)) (zEo hn hF) ts (zFr hG) hl w B v hB QQ
theorem zAx {n:Nat} {F:Pt→Int} {ts:List Tr} (hn:n≤12) (hF:FnC n F) (hG:Good ts):Good (zAv n F ts):=zFp hn hF hG
theorem zAz (n:Nat) (F:Pt→Int) (ts:List Tr):trF n F∈zAv n F ts:=Tr.mem_add _ _
theorem zAw {b:Box} {xs:List Int} {hcp n:Nat} (HX:GoodG b xs hcp) (hn:n≤12):(zAv n (zE b xs) []).length≤3901:=by
 have:=zB2 HX hn zFq;rwa [List.length_nil,Nat.zero_add] at this
theorem zBv (UA:Int) (a b c d e f:Int) (ha:Option Addr) (hcp:Nat) (xs:List Int) (hl:xs.length≤300) (n:Nat) (hn:n≤12) (HX:GoodG ⟨⟨a,b,c⟩,⟨d,e,f⟩⟩ xs hcp) (hE:zFd ⟨⟨a,b,c⟩,⟨d,e,f⟩⟩ xs ((n:Int)+2)=0) (hV:zN6 ⟨⟨a,b,c⟩,⟨d,e,f⟩⟩ xs=true) (hC:zS ⟨⟨a,b,c⟩,⟨d,e,f⟩⟩=true∨zL ⟨⟨0,0,0⟩,⟨2 ^ (n+2),2 ^ (n+2),2 ^ (n+2)⟩⟩ ⟨⟨a,b,c⟩,⟨d,e,f⟩⟩=true) (Mq:Tr.Fits UA [] (zAv n (zE ⟨⟨a,b,c⟩,⟨d,e,f⟩⟩ xs) [])) (w:World) (Rn:Sl w .i64 ha xs) :
 Calls Tryz.prog 11 #[.agg #[a,b,c,d,e,f,.slice ha xs.length hcp],((n:Int)+2:Int),UA] w fun e' w' => ∃ sb,e' = .returned (.tuple #[.pointer (some ⟨sb,0,none⟩),(idn (zAv n (zE ⟨⟨a,b,c⟩,⟨d,e,f⟩⟩ xs) []) n (zE ⟨⟨a,b,c⟩,⟨d,e,f⟩⟩ xs):Int),.string (txt n (zE ⟨⟨a,b,c⟩,⟨d,e,f⟩⟩ xs)),.bool true])∧StoreIs w' (fun k=>k<w.heap.size) sb UA (zAv n (zE ⟨⟨a,b,c⟩,⟨d,e,f⟩⟩ xs) [])∧Below w.heap.size w w':=by
 have N0:xs ≠ [] → ∀ b,ha.map (·.block)=some b→b<w.heap.size:=fun hx b hb=>by
  obtain ⟨x,r,rfl⟩:=List.exists_cons_of_ne_nil hx;obtain ⟨b',off,h1,h2⟩:=Rn 0 x rfl;rw [h1] at hb;simp only [Option.map_some,Option.some.injEq] at hb;rw [←hb];exact World.block_lt_of_cell? w _ h2
 have Mu:=Bx.mk (fun W sb Far h1 h2 h3 h4=>zH6 W sb a b c d e f ha hcp xs n hn h1 HX hV hC Far h2 UA h3 h4 Mq);have hrf:=Bx.mk (fun W h1=>zH7 a b c d e f ha hcp xs hl n hn HX hE W h1);have Rn:=Bx.mk Rn;have N0:=Bx.mk N0;clear HX hV hC hn hE Mq hl;generalize idn (zAv n (zE ⟨⟨a,b,c⟩,⟨d,e,f⟩⟩ xs) []) n (zE ⟨⟨a,b,c⟩,⟨d,e,f⟩⟩ xs)=iX at *;generalize zAv n (zE ⟨⟨a,b,c⟩,⟨d,e,f⟩⟩ xs) []=ts at *;generalize txt n (zE ⟨⟨a,b,c⟩,⟨d,e,f⟩⟩ xs)=S at *;go_enter Tryz.func11,Tryz.ntmps11;go_wp2_with fail;generalize hW:w.alloc _=W;have hB:=bl1 hW;have kg:Bk W w.heap.size #[a,b,c,d,e,f,.slice ha xs.length hcp] 28:=bk0 hW;clear hW;refine (zIk UA _).mono ?_;rintro _ w1 ⟨sb,rfl,J3,Jr⟩;have HS:=Bx.mk (J3.less (Far:=fun k=>k<w.heap.size) (fun k hk=>nll hk hB.size));have HB:=Bx.mk (tr hB Jr);have KG:=Bx.mk (kg.la Jr);obtain ⟨c0,c1,c2,c3,c4,c5,c6⟩:=KG.o.c7;clear J3 Jr hB kg;go_wp2_with fail;refine (hrf.o _ (Rn.o.below HB.o)).mono ?_;rintro _ w2 ⟨rfl,Js⟩;replace HS:=Bx.mk (HS.o.la Js);replace HB:=Bx.mk (tr HB.o Js);replace KG:=Bx.mk (KG.o.la Js);clear c0 c1 c2 c3 c4 c5 c6;obtain ⟨c0,c1,c2,c3,c4,c5,c6⟩:=KG.o.c7;clear Js;go_wp2_with fail;refine (Mu.o _ sb (fun k=>k<w.heap.size) (Rn.o.below HB.o) (fun hx b hb=>N0.o hx b hb) (fun k hk=>nll hk HB.o.size) HS.o).mono ?_;rintro _ w3 ⟨rfl,J5,Ik⟩;have A6:Bx (Below w.heap.size w w3):=⟨HB.o.trans ⟨Ik.os,Ik.tape,Ik.output,Ik.size,fun k hk=>Ik.block k hk (nll hk HB.o.size)⟩⟩;have Bs:=Bx.mk J5;clear J5 Ik c0 c1 c2 c3 c4 c5 c6;go_wp2_with fail;exact bodyPost_ret (v:=.tuple #[.pointer (some ⟨sb,0,none⟩),iX,.string S,.bool true]) (by simp [results,Tryz.results11,go_sem]) rfl ⟨sb,rfl,Bs.o,A6.o⟩
end
section
open Go.RowKit Go.Sort Go.Maps
open Oct
theorem zKZ {cs:List Chg} {j:Nat} {c:Chg} (h:cs[j]? = some c) (g:Pt→Int):zAM (pts (cs.take (j+1))) g=Tr.upd (zAM (pts (cs.take j)) g) c.at c.n:=by
 rw [zNJ h];unfold pts zAM;rw [List.map_append,List.foldl_append];rfl
theorem zKY {g:Pt→Int} (hg : ∀ p,0≤g p∧g p≤255) : ∀ (cs:List Chg),(∀ c∈cs,0≤c.n∧c.n≤255) → ∀ p,0≤zAM (pts cs) g p∧zAM (pts cs) g p≤255
 | [],_=>hg
 | c :: cs, h => by
   have hc:=h c (by simp)
   intro p
   show 0≤zAM (pts cs) (Tr.upd g c.at c.n) p∧zAM (pts cs) (Tr.upd g c.at c.n) p≤255
   exact zKY (g:=Tr.upd g c.at c.n) (zN2 hg hc c.at) cs (fun x hx=>h x (by simp [hx])) p
attribute [local go_sem ↓] Go.wp_at_zero Go.wp_at_succ
theorem zOq {N:Nat} (hN:N≤12) (ha:Option Addr) (hcp:Nat) (cs:List Chg) (hC:cs.length≤4194304) (LF:cs.length≤hcp) (g:Pt→Int) (hg : ∀ p,0≤g p∧g p≤255) (w:World) (Lr:SlC w ha cs) :
 Calls Tryz.prog 60 #[.string (strOfNums (Tr.enc (trF N g))),((N:Int)+2:Int),.slice ha cs.length hcp] w (GSays10 (∀ c∈cs,zJH N c) (strOfNums (Tr.enc (trF N (zAM (pts cs) g)))) w):=by
 have Ch:=Bx.mk Lr;obtain ⟨M,hM⟩ : ∃ M:Int,M=2 ^ (N+2):=⟨_,rfl⟩;have Cj:=Bx.mk fun W=>zDq (N+2) (by omega) W
 rw [show (((N+2:Nat)):Int)=(N:Int)+2 by omega,←hM] at Cj
 have Cv:=Bx.mk fun px py pz W=>zK8 px py pz 0 0 0 M M M W;have Da:=Bx.mk fun f hf px py pz c QE W=>zAe N hN f hf px py pz c QE W;have HM:=Bx.mk hM;have Hg:=Bx.mk hg;obtain ⟨TX,JJ⟩ : ∃ TX:Nat→ByteArray,TX=fun k=>strOfNums (Tr.enc (trF N (zAM (pts (cs.take k)) g))):=⟨_,rfl⟩;have e0:strOfNums (Tr.enc (trF N g))=TX 0:=by rw [JJ];rfl
 have CD:=Bx.mk JJ;rw [e0];clear Lr hg hM JJ e0;go_enter Tryz.func60,Tryz.ntmps60;go_wp2_with fail
 go_loopw [8] (fun v8 wr => ∃ j:Nat,j≤cs.length∧v8 = .int .i64 j∧Bx (Below w.heap.size w wr ∧ ∀ c∈cs.take j,zJH N c)) (fun i _=>cs.length - (intOf i).toNat)
 case atStart=>exact ⟨0,Nat.zero_le _,rfl,⟨br,by simp⟩⟩
 case round =>
  obtain ⟨j,hj,rfl,hI⟩:=hrel;by_cases hlt:j<cs.length
  · obtain ⟨⟨px,py,pz,po,pn⟩,MR⟩ : ∃ ed,cs[j]? = some ed:=⟨_,lge hlt⟩;have Co:=Bx.mk MR;obtain ⟨bk,off,rfl,c0,c1,c2,c3,c4⟩:=(Ch.o.below hI.o.1) j _ MR;dsimp only at c0 c1 c2 c3 c4;have t0:decide ((j:Int)<(cs.length:Int))=true:=by simp;omega
    have b1:(0:Int)≤(j:Int):=by omega
    have b2:(j:Int)<(cs.length:Int):=by omega
    clear MR;obtain ⟨Ta,Nv⟩ : ∃ Ta,inB ⟨px,py,pz⟩ ⟨⟨0,0,0⟩,⟨M,M,M⟩⟩=Ta:=⟨_,rfl⟩;have Hi:=Bx.mk fun W=>Cv.o px py pz W;rw [Nv] at Hi;have Cw:Bx (inB ⟨px,py,pz⟩ (zOI N)=Ta):=⟨by rw [←Nv,HM.o];rfl⟩
    clear Nv;go_upto_region 4 with fail;have x0 : ∀ dk osk,(grow (redrawn wr dk) osk).cell? ⟨bk,off+j * 5,none⟩=some (.int .i64 px):=cq c0;have x1 : ∀ dk osk,(grow (redrawn wr dk) osk).cell? ⟨bk,off+j * 5+1,none⟩=some (.int .i64 py):=cq c1;have x2 : ∀ dk osk,(grow (redrawn wr dk) osk).cell? ⟨bk,off+j * 5+2,none⟩=some (.int .i64 pz):=cq c2;have q0:=Bx.mk fun dk osk=>rq (Cj.o (grow (redrawn wr dk) osk));have q1:=Bx.mk fun dk osk=>rq (Hi.o (grow (redrawn wr dk) osk));refine wg ?_
    repeat (first | go_big_quiet_step (with_reducible first | exact q0.o _ _ | exact q1.o _ _) | quiet_step (with_reducible first | exact q0.o _ _ | exact q1.o _ _))
    refine wq ?_;rintro _ ⟨⟨dq,osq⟩,rfl⟩;have hb:=bq wr dq osq;have d4:(grow (redrawn wr dq) osq).cell? ⟨bk,off+j * 5+4,none⟩=some (.int .i64 pn):=cq c4 dq osq;have HI:=Bx.mk (And.intro (tr hI.o.1 hb) hI.o.2);clear x0 x1 x2 q0 q1 hb hI c0 c1 c2 c3 c4;generalize grow (redrawn wr dq) osq=W1 at *;cases Ta with
    | false =>
      have HB:Bx (¬ ∀ c∈cs,zJH N c):=⟨fun h=>by
       have h1:=(h _ (List.mem_of_getElem? Co.o)).1;have h2:=Cw.o;rw [show (Chg.at ⟨px,py,pz,po,pn⟩)=⟨px,py,pz⟩ from rfl,h2] at h1;cases h1⟩
      go_wp2_with fail
      go_ret2
      exact ⟨HI.o.1,fun h=>absurd h HB.o,fun _=>rfl⟩
    | true =>
      by_cases h2:0≤pn
      · have t2:decide (pn<0)=false:=by simp;omega
        by_cases h3:pn≤255
        · have t3:decide (255<pn)=false:=by simp;omega
          have HJ:Bx (Below w.heap.size w W1 ∧ ∀ c∈cs.take (j+1),zJH N c):=⟨HI.o.1,fun c hc=>by
           rw [zNJ Co.o] at hc;rcases List.mem_append.1 hc with hc | hc
           · exact HI.o.2 c hc
           · rw [List.mem_singleton.1 hc];exact ⟨Cw.o,h2,h3⟩⟩
          clear h2 h3 HI;go_wp2_with fail
          go_roundw
          case rel=>exact ⟨j+1,by omega,by go_num,HJ⟩
          case measure=>simp [intOf];omega
        · have t3:decide (255<pn)=true:=by simp;omega
          have HB:Bx (¬ ∀ c∈cs,zJH N c):=⟨fun h=>h3 (h _ (List.mem_of_getElem? Co.o)).2.2⟩;clear h2 h3;go_wp2_with fail
          go_ret2
          exact ⟨HI.o.1,fun h=>absurd h HB.o,fun _=>rfl⟩
      · have t2:decide (pn<0)=true:=by simp;omega
        have HB:Bx (¬ ∀ c∈cs,zJH N c):=⟨fun h=>h2 (h _ (List.mem_of_getElem? Co.o)).2.1⟩;clear h2;go_wp2_with fail
        go_ret2
        exact ⟨HI.o.1,fun h=>absurd h HB.o,fun _=>rfl⟩
  · obtain rfl:j=cs.length:=by omega
    rw [List.take_of_length_le (Nat.le_refl _)] at hI;have t0:decide ((cs.length:Int)<(cs.length:Int))=false:=by simp
    have HV:=Bx.mk hI.o.2;have HB:=Bx.mk hI.o.1;clear hI hlt hj;go_wp2_with fail;clear t0;obtain ⟨wo,T3⟩ : ∃ wo:World,wo=wr:=⟨_,rfl⟩;rw [←T3] at HB
    go_loopw [0,10] (fun v0 v10 wr => ∃ k:Nat,k≤cs.length∧v10 = .int .i64 k∧v0 = .string (TX k)∧Bx (Below w.heap.size w wr)) (fun _ i _=>cs.length - (intOf i).toNat)
    case atStart=>subst T3;exact ⟨0,Nat.zero_le _,rfl,rfl,HB⟩
    case round =>
     clear HB T3;obtain ⟨k,hk,rfl,rfl,HB⟩:=hrel;by_cases hlt:k<cs.length
     · obtain ⟨⟨px,py,pz,po,pn⟩,MR⟩ : ∃ ed,cs[k]? = some ed:=⟨_,lge hlt⟩;have QG:=HV.o _ (List.mem_of_getElem? MR);obtain ⟨bk,off,rfl,c0,c1,c2,c3,c4⟩:=(Ch.o.below HB.o) k _ MR;dsimp only at c0 c1 c2 c3 c4;have t0:decide ((k:Int)<(cs.length:Int))=true:=by simp;omega
       have b1:(0:Int)≤(k:Int):=by omega
       have b2:(k:Int)<(cs.length:Int):=by omega
       have hs:=Bx.mk fun W=>Da.o (zAM (pts (cs.take k)) g) (zKY Hg.o _ (fun c hc=>(HV.o c (List.mem_of_mem_take hc)).2)) px py pz pn QG W;rw [←zKZ MR g] at hs;rw [show strOfNums (Tr.enc (trF N (zAM (pts (cs.take k)) g)))=TX k by rw [CD.o],show strOfNums (Tr.enc (trF N (zAM (pts (cs.take (k+1))) g)))=TX (k+1) by rw [CD.o]] at hs
       clear MR QG;go_upto_region 10 with fail;have x0 : ∀ dk osk,(grow (redrawn wr dk) osk).cell? ⟨bk,off+k * 5,none⟩=some (.int .i64 px):=cq c0;have x1 : ∀ dk osk,(grow (redrawn wr dk) osk).cell? ⟨bk,off+k * 5+1,none⟩=some (.int .i64 py):=cq c1;have x2 : ∀ dk osk,(grow (redrawn wr dk) osk).cell? ⟨bk,off+k * 5+2,none⟩=some (.int .i64 pz):=cq c2;have x4 : ∀ dk osk,(grow (redrawn wr dk) osk).cell? ⟨bk,off+k * 5+4,none⟩=some (.int .i64 pn):=cq c4;have q0:=Bx.mk fun dk osk=>rq (hs.o (grow (redrawn wr dk) osk));refine wg ?_
       repeat (first | go_big_quiet_step (with_reducible exact q0.o _ _) | quiet_step (with_reducible exact q0.o _ _))
       refine wq ?_;rintro _ ⟨⟨dq,osq⟩,rfl⟩;have hb:=bq wr dq osq;have HJ:=Bx.mk (tr HB.o hb);clear x0 x1 x2 x4 q0 hb HB c0 c1 c2 c3 c4 hs;generalize grow (redrawn wr dq) osq=W1 at *;go_wp2_with fail
       go_roundw
       case rel=>exact ⟨k+1,by omega,by go_num,rfl,HJ⟩
       case measure=>simp [intOf];omega
     · obtain rfl:k=cs.length:=by omega
       have t0:decide ((cs.length:Int)<(cs.length:Int))=false:=by simp
       have hR:Bx (TX cs.length=strOfNums (Tr.enc (trF N (zAM (pts cs) g)))):=⟨by rw [CD.o];simp only [];rw [List.take_of_length_le (Nat.le_refl _)]⟩
       clear hlt hk;go_wp2_with fail
       go_ret2
       exact ⟨HB.o,fun _=>by rw [←hR.o];rfl,fun h=>absurd HV.o h⟩
end
section
open Go.RowKit Go.Sort Go.Maps
open Oct
theorem play_1 (sb:Nat) (id dd:Int) (kd b0 b1 b2 b3 b4 b5 cell g0 g1 g2 g3 g4 g5:Int) (ga:Option Addr) (gn gc:Nat) (la:Option Addr) (ln lc:Nat) (c0 c1 c2 cl d0 d1 d2 dl:Int) (hk:kd=1) (w:World) (R:Ending→World→Prop) (hR : ∀ e W',R e W' → ∃ a b:Int,e=zLY a b)
 (hF : ∀ W,Below w.heap.size w W→Calls Tryz.prog 49 #[.pointer (some ⟨sb,0,none⟩),id,dd,.agg #[b0,b1,b2,b3,b4,b5],cell] W R) :
 Calls Tryz.prog 13 #[.pointer (some ⟨sb,0,none⟩),id,dd,.agg #[kd,b0,b1,b2,b3,b4,b5,cell,g0,g1,g2,g3,g4,g5,.slice ga gn gc,.slice la ln lc,c0,c1,c2,cl,d0,d1,d2,dl]] w R:=by
 have t1:(kd == 1)=true:=by simp [hk]
 have t2:(kd == 2)=false:=by simp [hk]
 have t3:(kd == 3)=false:=by simp [hk]
 have HF:=Bx.mk hF;have HR:=Bx.mk hR;clear hF hR hk;go_enter Tryz.func13,Tryz.ntmps13;go_upto_region 1 with fail;generalize hW:w.alloc _=W;have hB:=bl1 hW;have kg:Bk W w.heap.size #[kd,b0,b1,b2,b3,b4,b5,cell,g0,g1,g2,g3,g4,g5,.slice ga gn gc,.slice la ln lc,c0,c1,c2,cl,d0,d1,d2,dl] 41:=bk0 hW;clear hW;obtain ⟨q0,q1,q2,q3,q4,q5,q6,q7,q8,q9,UG,UH⟩:=kg.c12;have UI:=kg.cell 12 rfl;have UJ:=kg.cell 13 rfl;have UK:=kg.cell 14 rfl;have UL:=kg.cell 15 rfl;have UM:=kg.cell 16 rfl;have UN:=kg.cell 17 rfl;have UO:=kg.cell 18 rfl;have UP:=kg.cell 19 rfl;have UQ:=kg.cell 20 rfl;have UR:=kg.cell 21 rfl;have US:=kg.cell 22 rfl;have UT:=kg.cell 23 rfl;have HQ:=Bx.mk (HF.o W hB);clear kg HF hB;go_wp2_with fail;refine HQ.o.mono ?_;intro e W' hr;obtain ⟨x,y,rfl⟩:=HR.o e W' hr;have Bo:=Bx.mk hr;clear hr HQ HR;clear q0 q1 q2 q3 q4 q5 q6 q7 q8 q9 UG UH UI UJ UK UL UM UN UO UP UQ UR US UT;go_wp2_with fail;exact Bo.o
theorem play_2 (sb:Nat) (id dd:Int) (kd b0 b1 b2 b3 b4 b5 cell g0 g1 g2 g3 g4 g5:Int) (ga:Option Addr) (gn gc:Nat) (la:Option Addr) (ln lc:Nat) (c0 c1 c2 cl d0 d1 d2 dl:Int) (hk:kd=2) (w:World) (R:Ending→World→Prop) (hR : ∀ e W',R e W' → ∃ a b:Int,e=zLY a b)
 (hF : ∀ W,Below w.heap.size w W→Calls Tryz.prog 55 #[.pointer (some ⟨sb,0,none⟩),id,dd,.agg #[g0,g1,g2,g3,g4,g5,.slice ga gn gc]] W R) :
 Calls Tryz.prog 13 #[.pointer (some ⟨sb,0,none⟩),id,dd,.agg #[kd,b0,b1,b2,b3,b4,b5,cell,g0,g1,g2,g3,g4,g5,.slice ga gn gc,.slice la ln lc,c0,c1,c2,cl,d0,d1,d2,dl]] w R:=by
 have t1:(kd == 1)=false:=by simp [hk]
 have t2:(kd == 2)=true:=by simp [hk]
 have t3:(kd == 3)=false:=by simp [hk]
 have HF:=Bx.mk hF;have HR:=Bx.mk hR;clear hF hR hk;go_enter Tryz.func13,Tryz.ntmps13;go_upto_region 1 with fail;generalize hW:w.alloc _=W;have hB:=bl1 hW;have kg:Bk W w.heap.size #[kd,b0,b1,b2,b3,b4,b5,cell,g0,g1,g2,g3,g4,g5,.slice ga gn gc,.slice la ln lc,c0,c1,c2,cl,d0,d1,d2,dl] 41:=bk0 hW;clear hW;obtain ⟨q0,q1,q2,q3,q4,q5,q6,q7,q8,q9,UG,UH⟩:=kg.c12;have UI:=kg.cell 12 rfl;have UJ:=kg.cell 13 rfl;have UK:=kg.cell 14 rfl;have UL:=kg.cell 15 rfl;have UM:=kg.cell 16 rfl;have UN:=kg.cell 17 rfl;have UO:=kg.cell 18 rfl;have UP:=kg.cell 19 rfl;have UQ:=kg.cell 20 rfl;have UR:=kg.cell 21 rfl;have US:=kg.cell 22 rfl;have UT:=kg.cell 23 rfl;have HQ:=Bx.mk (HF.o W hB);clear kg HF hB;go_wp2_with fail;refine HQ.o.mono ?_;intro e W' hr;obtain ⟨x,y,rfl⟩:=HR.o e W' hr;have Bo:=Bx.mk hr;clear hr HQ HR;clear q0 q1 q2 q3 q4 q5 q6 q7 q8 q9 UG UH UI UJ UK UL UM UN UO UP UQ UR US UT;go_wp2_with fail;exact Bo.o
theorem play_3 (sb:Nat) (id dd:Int) (kd b0 b1 b2 b3 b4 b5 cell g0 g1 g2 g3 g4 g5:Int) (ga:Option Addr) (gn gc:Nat) (la:Option Addr) (ln lc:Nat) (c0 c1 c2 cl d0 d1 d2 dl:Int) (hk:kd=3) (w:World) (R:Ending→World→Prop) (hR : ∀ e W',R e W' → ∃ a b:Int,e=zLY a b)
 (hF : ∀ W,Below w.heap.size w W→Calls Tryz.prog 52 #[.pointer (some ⟨sb,0,none⟩),id,dd,.slice la ln lc] W R) :
 Calls Tryz.prog 13 #[.pointer (some ⟨sb,0,none⟩),id,dd,.agg #[kd,b0,b1,b2,b3,b4,b5,cell,g0,g1,g2,g3,g4,g5,.slice ga gn gc,.slice la ln lc,c0,c1,c2,cl,d0,d1,d2,dl]] w R:=by
 have t1:(kd == 1)=false:=by simp [hk]
 have t2:(kd == 2)=false:=by simp [hk]
 have t3:(kd == 3)=true:=by simp [hk]
 have HF:=Bx.mk hF;have HR:=Bx.mk hR;clear hF hR hk;go_enter Tryz.func13,Tryz.ntmps13;go_upto_region 1 with fail;generalize hW:w.alloc _=W;have hB:=bl1 hW;have kg:Bk W w.heap.size #[kd,b0,b1,b2,b3,b4,b5,cell,g0,g1,g2,g3,g4,g5,.slice ga gn gc,.slice la ln lc,c0,c1,c2,cl,d0,d1,d2,dl] 41:=bk0 hW;clear hW;obtain ⟨q0,q1,q2,q3,q4,q5,q6,q7,q8,q9,UG,UH⟩:=kg.c12;have UI:=kg.cell 12 rfl;have UJ:=kg.cell 13 rfl;have UK:=kg.cell 14 rfl;have UL:=kg.cell 15 rfl;have UM:=kg.cell 16 rfl;have UN:=kg.cell 17 rfl;have UO:=kg.cell 18 rfl;have UP:=kg.cell 19 rfl;have UQ:=kg.cell 20 rfl;have UR:=kg.cell 21 rfl;have US:=kg.cell 22 rfl;have UT:=kg.cell 23 rfl;have HQ:=Bx.mk (HF.o W hB);clear kg HF hB;go_wp2_with fail;refine HQ.o.mono ?_;intro e W' hr;obtain ⟨x,y,rfl⟩:=HR.o e W' hr;have Bo:=Bx.mk hr;clear hr HQ HR;clear q0 q1 q2 q3 q4 q5 q6 q7 q8 q9 UG UH UI UJ UK UL UM UN UO UP UQ UR US UT;go_wp2_with fail;exact Bo.o
theorem told_1 (S:ByteArray) (dd:Int) (kd b0 b1 b2 b3 b4 b5 cell g0 g1 g2 g3 g4 g5:Int) (ga:Option Addr) (gn gc:Nat) (la:Option Addr) (ln lc:Nat) (c0 c1 c2 cl d0 d1 d2 dl:Int) (hk:kd=1) (w:World) (R:Ending→World→Prop) (hR : ∀ e W',R e W' → ∃ (S:ByteArray) (b:Int),e = .returned (.tuple #[.string S,b]))
 (hF : ∀ W,Below w.heap.size w W→Calls Tryz.prog 58 #[.string S,dd,.agg #[b0,b1,b2,b3,b4,b5],cell] W R) :
 Calls Tryz.prog 14 #[.string S,dd,.agg #[kd,b0,b1,b2,b3,b4,b5,cell,g0,g1,g2,g3,g4,g5,.slice ga gn gc,.slice la ln lc,c0,c1,c2,cl,d0,d1,d2,dl]] w R:=by
 have t1:(kd == 1)=true:=by simp [hk]
 have t2:(kd == 2)=false:=by simp [hk]
 have t3:(kd == 3)=false:=by simp [hk]
 have HF:=Bx.mk hF;have HR:=Bx.mk hR;clear hF hR hk;go_enter Tryz.func14,Tryz.ntmps14;go_upto_region 1 with fail;generalize hW:w.alloc _=W;have hB:=bl1 hW;have kg:Bk W w.heap.size #[kd,b0,b1,b2,b3,b4,b5,cell,g0,g1,g2,g3,g4,g5,.slice ga gn gc,.slice la ln lc,c0,c1,c2,cl,d0,d1,d2,dl] 41:=bk0 hW;clear hW;obtain ⟨q0,q1,q2,q3,q4,q5,q6,q7,q8,q9,UG,UH⟩:=kg.c12;have UI:=kg.cell 12 rfl;have UJ:=kg.cell 13 rfl;have UK:=kg.cell 14 rfl;have UL:=kg.cell 15 rfl;have UM:=kg.cell 16 rfl;have UN:=kg.cell 17 rfl;have UO:=kg.cell 18 rfl;have UP:=kg.cell 19 rfl;have UQ:=kg.cell 20 rfl;have UR:=kg.cell 21 rfl;have US:=kg.cell 22 rfl;have UT:=kg.cell 23 rfl;have HQ:=Bx.mk (HF.o W hB);clear kg HF hB;go_wp2_with fail;refine HQ.o.mono ?_;intro e W' hr;obtain ⟨x,y,rfl⟩:=HR.o e W' hr;have Bo:=Bx.mk hr;clear hr HQ HR;clear q0 q1 q2 q3 q4 q5 q6 q7 q8 q9 UG UH UI UJ UK UL UM UN UO UP UQ UR US UT;go_wp2_with fail;exact Bo.o
theorem told_3 (S:ByteArray) (dd:Int) (kd b0 b1 b2 b3 b4 b5 cell g0 g1 g2 g3 g4 g5:Int) (ga:Option Addr) (gn gc:Nat) (la:Option Addr) (ln lc:Nat) (c0 c1 c2 cl d0 d1 d2 dl:Int) (hk:kd=3) (w:World) (R:Ending→World→Prop) (hR : ∀ e W',R e W' → ∃ (S:ByteArray) (b:Int),e = .returned (.tuple #[.string S,b]))
 (hF : ∀ W,Below w.heap.size w W→Calls Tryz.prog 60 #[.string S,dd,.slice la ln lc] W R) :
 Calls Tryz.prog 14 #[.string S,dd,.agg #[kd,b0,b1,b2,b3,b4,b5,cell,g0,g1,g2,g3,g4,g5,.slice ga gn gc,.slice la ln lc,c0,c1,c2,cl,d0,d1,d2,dl]] w R:=by
 have t1:(kd == 1)=false:=by simp [hk]
 have t2:(kd == 2)=false:=by simp [hk]
 have t3:(kd == 3)=true:=by simp [hk]
 have HF:=Bx.mk hF;have HR:=Bx.mk hR;clear hF hR hk;go_enter Tryz.func14,Tryz.ntmps14;go_upto_region 1 with fail;generalize hW:w.alloc _=W;have hB:=bl1 hW;have kg:Bk W w.heap.size #[kd,b0,b1,b2,b3,b4,b5,cell,g0,g1,g2,g3,g4,g5,.slice ga gn gc,.slice la ln lc,c0,c1,c2,cl,d0,d1,d2,dl] 41:=bk0 hW;clear hW;obtain ⟨q0,q1,q2,q3,q4,q5,q6,q7,q8,q9,UG,UH⟩:=kg.c12;have UI:=kg.cell 12 rfl;have UJ:=kg.cell 13 rfl;have UK:=kg.cell 14 rfl;have UL:=kg.cell 15 rfl;have UM:=kg.cell 16 rfl;have UN:=kg.cell 17 rfl;have UO:=kg.cell 18 rfl;have UP:=kg.cell 19 rfl;have UQ:=kg.cell 20 rfl;have UR:=kg.cell 21 rfl;have US:=kg.cell 22 rfl;have UT:=kg.cell 23 rfl;have HQ:=Bx.mk (HF.o W hB);clear kg HF hB;go_wp2_with fail;refine HQ.o.mono ?_;intro e W' hr;obtain ⟨x,y,rfl⟩:=HR.o e W' hr;have Bo:=Bx.mk hr;clear hr HQ HR;clear q0 q1 q2 q3 q4 q5 q6 q7 q8 q9 UG UH UI UJ UK UL UM UN UO UP UQ UR US UT;go_wp2_with fail;exact Bo.o
theorem told_2 (S:ByteArray) (dd:Int) (kd b0 b1 b2 b3 b4 b5 cell g0 g1 g2 g3 g4 g5:Int) (ga:Option Addr) (gn gc:Nat) (la:Option Addr) (ln lc:Nat) (c0 c1 c2 cl d0 d1 d2 dl:Int) (hk:kd=2) (w:World) (R:Ending→World→Prop) (T:ByteArray)
 (hF : ∀ W,Below w.heap.size w W→Calls Tryz.prog 59 #[.string S,dd,.agg #[g0,g1,g2,g3,g4,g5,.slice ga gn gc]] W fun e W'=>e = .returned (.string T)∧R (.returned (.tuple #[.string T,(0:Int)])) W') :
 Calls Tryz.prog 14 #[.string S,dd,.agg #[kd,b0,b1,b2,b3,b4,b5,cell,g0,g1,g2,g3,g4,g5,.slice ga gn gc,.slice la ln lc,c0,c1,c2,cl,d0,d1,d2,dl]] w R:=by
 have t1:(kd == 1)=false:=by simp [hk]
 have t2:(kd == 2)=true:=by simp [hk]
 have t3:(kd == 3)=false:=by simp [hk]
 have HF:=Bx.mk hF;clear hF hk;go_enter Tryz.func14,Tryz.ntmps14;go_upto_region 1 with fail;generalize hW:w.alloc _=W;have hB:=bl1 hW;have kg:Bk W w.heap.size #[kd,b0,b1,b2,b3,b4,b5,cell,g0,g1,g2,g3,g4,g5,.slice ga gn gc,.slice la ln lc,c0,c1,c2,cl,d0,d1,d2,dl] 41:=bk0 hW;clear hW;obtain ⟨q0,q1,q2,q3,q4,q5,q6,q7,q8,q9,UG,UH⟩:=kg.c12;have UI:=kg.cell 12 rfl;have UJ:=kg.cell 13 rfl;have UK:=kg.cell 14 rfl;have UL:=kg.cell 15 rfl;have UM:=kg.cell 16 rfl;have UN:=kg.cell 17 rfl;have UO:=kg.cell 18 rfl;have UP:=kg.cell 19 rfl;have UQ:=kg.cell 20 rfl;have UR:=kg.cell 21 rfl;have US:=kg.cell 22 rfl;have UT:=kg.cell 23 rfl;have HQ:=Bx.mk (HF.o W hB);clear kg HF hB;go_wp2_with fail;refine HQ.o.mono ?_;intro e W' hr;obtain ⟨rfl,hr⟩:=hr;have Bo:=Bx.mk hr;clear hr HQ;clear q0 q1 q2 q3 q4 q5 q6 q7 q8 q9 UG UH UI UJ UK UL UM UN UO UP UQ UR US UT;go_wp2_with fail;exact Bo.o
theorem play_4 (sb:Nat) (id dd:Int) (kd b0 b1 b2 b3 b4 b5 cell g0 g1 g2 g3 g4 g5:Int) (ga:Option Addr) (gn gc:Nat) (la:Option Addr) (ln lc:Nat) (c0 c1 c2 cl d0 d1 d2 dl:Int) (hk:kd ≠ 1∧kd ≠ 2∧kd ≠ 3) (w:World) (R:Ending→World→Prop) (hR : ∀ e W',R e W' → ∃ a b:Int,e=zLY a b)
 (hF : ∀ W,Below w.heap.size w W→Calls Tryz.prog 38 #[.pointer (some ⟨sb,0,none⟩),id,dd,.agg #[c0,c1,c2],cl] W fun e W'=>Below W.heap.size W W'∧((e=zLY 0 1∧R e W') ∨ ∃ p,e=zLY p 0∧Calls Tryz.prog 53 #[.pointer (some ⟨sb,0,none⟩),id,dd,.agg #[d0,d1,d2,dl],p] W' R)) :
 Calls Tryz.prog 13 #[.pointer (some ⟨sb,0,none⟩),id,dd,.agg #[kd,b0,b1,b2,b3,b4,b5,cell,g0,g1,g2,g3,g4,g5,.slice ga gn gc,.slice la ln lc,c0,c1,c2,cl,d0,d1,d2,dl]] w R:=by
 have t1:(kd == 1)=false:=by simp;omega
 have t2:(kd == 2)=false:=by simp;omega
 have t3:(kd == 3)=false:=by simp;omega
 have HF:=Bx.mk hF;have HR:=Bx.mk hR;clear hF hR hk;go_enter Tryz.func13,Tryz.ntmps13;go_upto_region 1 with fail;generalize hW:w.alloc _=W;have hB:=bl1 hW;have kg:Bk W w.heap.size #[kd,b0,b1,b2,b3,b4,b5,cell,g0,g1,g2,g3,g4,g5,.slice ga gn gc,.slice la ln lc,c0,c1,c2,cl,d0,d1,d2,dl] 41:=bk0 hW;clear hW;obtain ⟨q0,q1,q2,q3,q4,q5,q6,q7,q8,q9,UG,UH⟩:=kg.c12;have UI:=kg.cell 12 rfl;have UJ:=kg.cell 13 rfl;have UK:=kg.cell 14 rfl;have UL:=kg.cell 15 rfl;have UM:=kg.cell 16 rfl;have UN:=kg.cell 17 rfl;have UO:=kg.cell 18 rfl;have UP:=kg.cell 19 rfl;have UQ:=kg.cell 20 rfl;have UR:=kg.cell 21 rfl;have US:=kg.cell 22 rfl;have UT:=kg.cell 23 rfl;have HQ:=Bx.mk (HF.o W hB);have KG:=Bx.mk kg;clear kg HF hB;go_wp2_with fail;refine HQ.o.mono ?_;rintro e W1 ⟨Jr,⟨rfl,hr⟩ | ⟨p,rfl,hg⟩⟩
 · have Bo:=Bx.mk hr;clear hr HQ HR Jr KG;clear q0 q1 q2 q3 q4 q5 q6 q7 q8 q9 UG UH UI UJ UK UL UM UN UO UP UQ UR US UT;go_wp2_with fail;exact Bo.o
 · have HG:=Bx.mk hg;have kg:=KG.o.la Jr;clear hg HQ Jr KG;clear q0 q1 q2 q3 q4 q5 q6 q7 q8 q9 UG UH UI UJ UK UL UM UN UO UP UQ UR US UT;have UQ:=kg.cell 20 rfl;have UR:=kg.cell 21 rfl;have US:=kg.cell 22 rfl;have UT:=kg.cell 23 rfl;clear kg;go_wp2_with fail;refine HG.o.mono ?_;intro e W' hr;obtain ⟨x,y,rfl⟩:=HR.o e W' hr;have Bo:=Bx.mk hr;clear hr HG HR UQ UR US UT;go_wp2_with fail;exact Bo.o
theorem told_4 (S:ByteArray) (dd:Int) (kd b0 b1 b2 b3 b4 b5 cell g0 g1 g2 g3 g4 g5:Int) (ga:Option Addr) (gn gc:Nat) (la:Option Addr) (ln lc:Nat) (c0 c1 c2 cl d0 d1 d2 dl:Int) (hk:kd ≠ 1∧kd ≠ 2∧kd ≠ 3) (w:World) (R:Ending→World→Prop) (hR : ∀ e W',R e W' → ∃ (S:ByteArray) (b:Int),e = .returned (.tuple #[.string S,b]))
 (hF : ∀ W,Below w.heap.size w W→Calls Tryz.prog 61 #[.string S,dd,.agg #[c0,c1,c2],cl] W fun e W'=>Below W.heap.size W W'∧((e = .returned (.tuple #[.string ByteArray.empty,(1:Int)])∧R e W') ∨ ∃ p,e = .returned (.tuple #[.string p,(0:Int)])∧Calls Tryz.prog 62 #[.string S,dd,.agg #[d0,d1,d2,dl],.string p] W' R)) :
 Calls Tryz.prog 14 #[.string S,dd,.agg #[kd,b0,b1,b2,b3,b4,b5,cell,g0,g1,g2,g3,g4,g5,.slice ga gn gc,.slice la ln lc,c0,c1,c2,cl,d0,d1,d2,dl]] w R:=by
 have t1:(kd == 1)=false:=by simp;omega
 have t2:(kd == 2)=false:=by simp;omega
 have t3:(kd == 3)=false:=by simp;omega
 have HF:=Bx.mk hF;have HR:=Bx.mk hR;clear hF hR hk;go_enter Tryz.func14,Tryz.ntmps14;go_upto_region 1 with fail;generalize hW:w.alloc _=W;have hB:=bl1 hW;have kg:Bk W w.heap.size #[kd,b0,b1,b2,b3,b4,b5,cell,g0,g1,g2,g3,g4,g5,.slice ga gn gc,.slice la ln lc,c0,c1,c2,cl,d0,d1,d2,dl] 41:=bk0 hW;clear hW;obtain ⟨q0,q1,q2,q3,q4,q5,q6,q7,q8,q9,UG,UH⟩:=kg.c12;have UI:=kg.cell 12 rfl;have UJ:=kg.cell 13 rfl;have UK:=kg.cell 14 rfl;have UL:=kg.cell 15 rfl;have UM:=kg.cell 16 rfl;have UN:=kg.cell 17 rfl;have UO:=kg.cell 18 rfl;have UP:=kg.cell 19 rfl;have UQ:=kg.cell 20 rfl;have UR:=kg.cell 21 rfl;have US:=kg.cell 22 rfl;have UT:=kg.cell 23 rfl;have HQ:=Bx.mk (HF.o W hB);have KG:=Bx.mk kg;clear kg HF hB;go_wp2_with fail;refine HQ.o.mono ?_;rintro e W1 ⟨Jr,⟨rfl,hr⟩ | ⟨p,rfl,hg⟩⟩
 · have Bo:=Bx.mk hr;clear hr HQ HR Jr KG;clear q0 q1 q2 q3 q4 q5 q6 q7 q8 q9 UG UH UI UJ UK UL UM UN UO UP UQ UR US UT;go_wp2_with fail;exact Bo.o
 · have HG:=Bx.mk hg;have kg:=KG.o.la Jr;clear hg HQ Jr KG;clear q0 q1 q2 q3 q4 q5 q6 q7 q8 q9 UG UH UI UJ UK UL UM UN UO UP UQ UR US UT;have UQ:=kg.cell 20 rfl;have UR:=kg.cell 21 rfl;have US:=kg.cell 22 rfl;have UT:=kg.cell 23 rfl;clear kg;go_wp2_with fail;refine HG.o.mono ?_;intro e W' hr;obtain ⟨x,y,rfl⟩:=HR.o e W' hr;have Bo:=Bx.mk hr;clear hr HG HR UQ UR US UT;go_wp2_with fail;exact Bo.o
theorem zDo (M:Int) (w:World):Calls Tryz.prog 29 #[M] w fun e w'=>e = .returned (.agg #[(0:Int),(0:Int),(0:Int),M,M,M])∧Below w.heap.size w w':=by
 go_enter Tryz.func29,Tryz.ntmps29;go_wp2_with fail;exact bodyPost_ret (v:=.agg #[(0:Int),(0:Int),(0:Int),M,M,M]) (by simp [results,Tryz.results29,go_sem]) rfl ⟨rfl,bf⟩
def zOL (n:Nat) (b:Box):Bool:=zAE (zn b (zN (2 ^ (n+2)))) == zAE (zN (2 ^ (n+2)))
theorem zOM (n:Nat) (hn:n≤12) (b0 b1 b2 b3 b4 b5:Int) (w:World) :
 Calls Tryz.prog 46 #[.agg #[b0,b1,b2,b3,b4,b5],((n:Int)+2:Int)] w fun e w'=>e = .returned (.bool (zOL n ⟨⟨b0,b1,b2⟩,⟨b3,b4,b5⟩⟩))∧Below w.heap.size w w':=by
 have hp:=zt (show n+2≤14 by omega)
 have Qv:=zu (show n+2≤14 by omega)
 have Rk:Op.shift .shl .i64 1 .i64 ((n:Int)+2)=pure (.int .i64 ((2:Int) ^ (n+2))):=by
  have h:=shift_shl .i64 .i64 1 ((n:Int)+2) (by omega) (by show (n:Int)+2≤64;omega)
  rw [show ((n:Int)+2).toNat=n+2 by omega,Int.one_mul,Qv] at h
  exact h
 have Ls:=Bx.mk fun W=>zK1 b0 b1 b2 b3 b4 b5 0 0 0 (2 ^ (n+2)) (2 ^ (n+2)) (2 ^ (n+2)) ⟨by simp only [];omega,by simp only [];omega,by simp only [];omega,by simp only [];omega,by simp only [];omega,by simp only [];omega⟩ W
 have St:zOL n ⟨⟨b0,b1,b2⟩,⟨b3,b4,b5⟩⟩=(zAE (zn ⟨⟨b0,b1,b2⟩,⟨b3,b4,b5⟩⟩ ⟨⟨0,0,0⟩,⟨2 ^ (n+2),2 ^ (n+2),2 ^ (n+2)⟩⟩) == zAE ⟨⟨0,0,0⟩,⟨2 ^ (n+2),2 ^ (n+2),2 ^ (n+2)⟩⟩):=rfl;rw [←St] at Ls;generalize zOL n ⟨⟨b0,b1,b2⟩,⟨b3,b4,b5⟩⟩=r at *;have Lu:=Bx.mk fun W=>zDo (2 ^ (n+2)) W;generalize (2:Int) ^ (n+2)=M at *;have Bu:=Bx.mk Rk;clear hp Qv St Rk hn;go_enter Tryz.func46,Tryz.ntmps46;go_upto_region 1 with fail;generalize hW:w.alloc _=W;have hB:=bl1 hW;have KB:=Bx.mk (show Bk W w.heap.size #[b0,b1,b2,b3,b4,b5] 25 by rw [←hW];exact zC _ _ _ (by simp))
 clear hW
 refine zAL 4 (fun i v w'=>match i with
  | 0=>v = .agg #[b0,b1,b2,b3,b4,b5]
  | 1=>v = .int .i64 ((n:Int)+2)
  | 2=>v = .int .i64 M
  | _=>v = .agg #[(0:Int),(0:Int),(0:Int),M,M,M]) (by kernel_rfl) (by kernel_rfl) 10 (by kernel_rfl) (by rfl) ?_ ?_ ?_
 · intro i hi v u1 u2 hb h
   match i,hi with
   | 0,_=>exact h
   | 1,_=>exact h
   | 2,_=>exact h
   | 3,_=>exact h
 · intro i o hi ho ρ w1 hb L3 L5 L6 hk
   match i,hi with
   | 0, _ =>
     obtain rfl:=osi ho;have g0:ρ (.tmp 2) = .pointer (some ⟨w.heap.size,0,none⟩):=hk 2 (by simp)
     have k1:=KB.o.la hb;obtain ⟨z0,z1,z2,z3,z4,z5⟩:=k1.c6;clear hk hb Lu Bu KB Ls hB;go_simp;exact br
   | 1, _ =>
     obtain rfl:=osi ho;have g0:ρ (.tmp 1) = .int .i64 ((n:Int)+2):=hk 1 (by simp)
     clear hk hb Lu Bu KB Ls hB;go_simp;exact br
   | 2, _ =>
     obtain rfl:=osi ho;have g0:ρ (.tmp 6) = .int .i64 ((n:Int)+2):=hk 6 (by simp)
     have e1:=Bu.o;clear hk hb Lu Bu KB Ls hB;go_simp;exact br
   | 3, _ =>
     obtain rfl:=osi ho;have g0:ρ (.tmp 7) = .int .i64 M:=hk 7 (by simp)
     have h4:=Lu.o w1;have H4:=Bx.mk h4;clear h4;clear hk hb Lu Bu KB Ls hB;go_simp
     all_goals exact H4.o
 · intro vs W1 Od hb hR
   match vs,Od with
   | [v0, v1, v2, v3], _ =>
     have r0:v0 = .agg #[b0,b1,b2,b3,b4,b5]:=hR 0 v0 rfl;have r1:v1 = .int .i64 ((n:Int)+2):=hR 1 v1 rfl;have r2:v2 = .int .i64 M:=hR 2 v2 rfl;have r3:v3 = .agg #[(0:Int),(0:Int),(0:Int),M,M,M]:=hR 3 v3 rfl;clear hR;subst r0 r1 r2 r3;have HQ:=Bx.mk (Ls.o W1);have HB:=Bx.mk (tr hB hb);clear hb hB KB Ls Lu Bu;simp only [zKg,List.take_succ_cons,List.take_zero,List.drop_succ_cons,List.drop_zero,List.map_cons,List.map_nil,List.zip_cons_cons,List.zip_nil_right,List.foldl_cons,List.foldl_nil];go_wp2_with fail;refine HQ.o.mono ?_;rintro _ w5 ⟨rfl,K3⟩;have A8:=Bx.mk (tr HB.o K3);clear K3 HB HQ;go_wp2_with fail;go_ret;exact ⟨rfl,A8.o⟩
end
section
open Go.RowKit
def Bl (w:World) (b:Nat) (k:IntKind) (xs:List Int) (t:TypeId):Prop:=Bk w b (xs.map (Value.int k)).toArray t
section
variable {w w':World} {b:Nat} {k:IntKind} {xs:List Int} {t:TypeId}
theorem Bl.lt (h:Bl w b k xs t):b<w.heap.size:=Bk.lt h
theorem Bl.cell (h:Bl w b k xs t) {i:Nat} {x:Int} (hx:xs[i]? = some x):w.cell? ⟨b,i,none⟩=some (.int k x):=by
 refine Bk.cell h i ?_;rw [List.getElem?_toArray,List.getElem?_map,hx];rfl
theorem Bl.frozen (h:Bl w b k xs t) (i:Nat):w.frozen? ⟨b,i,none⟩=false:=Bk.frozen h i
theorem Bl.la (h:Bl w b k xs t) (hb:Below w.heap.size w w'):Bl w' b k xs t:=Bk.la h hb
theorem Bl.alloc (h:Bl w b k xs t) (o:Obj):Bl (w.alloc o) b k xs t:=Bk.alloc h o
theorem Bl.put (h:Bl w b k xs t) (i:Nat) (v:Int):Bl (w.setCell ⟨b,i,none⟩ (.int k v)) b k (xs.set i v) t:=by
 have:=Bk.set h i (.int k v);unfold Bl;rw [List.map_set];rwa [List.setIfInBounds_toArray] at this
theorem Bl.other (h:Bl w b k xs t) (a:Addr) (v:Value) (Ph:b ≠ a.block):Bl (w.setCell a v) b k xs t:=Bk.other h a v Ph
theorem Bl.whole (h:Bl w b k xs t) (ys:List Int):Bl (w.setRow b (ys.map (Value.int k)).toArray) b k ys t:=setRow_heap w b _ _ t (0,0) h
theorem Bl.apart (h:Bl w b k xs t) {g:Nat} (cs:Array Value) (Ph:b ≠ g):Bl (w.setRow g cs) b k xs t:=by
 unfold Bl Bk at *;rw [setRow_other w g b cs Ph];exact h
end
theorem zOc {P:Program} {ops:Array Oper} {rest:List Oper} {op:Oper} {a:Act} {w:World} {Q:Exit→Act→World→Prop} (NF:op.guard=none) (ty:TypeId) (x:Operand) (ho:op.op = .load ty x)
 (g:Nat) (hx:a.eval x = .pointer (some ⟨g,0,none⟩)) (cs:Array Value) (t:TypeId) (hg:w.heap[g]? = some (.cells cs t (0,0))) (d:TypeDesc)
 (hu:P.underlying ty=some d) (hd:(match d with | .struct _ | .array _ _=>true | _=>false)=true) (hi:(P.info? ty).map (·.size)=some cs.size)
 (h:wpList P ops Q rest (a.put op.dst (.agg cs)) w):wpList P ops Q (op::rest) a w:=by
 refine wpList_plain NF fun K hK=>?_;unfold Oper.wp execOp;simp only [ho,hx,Instr.loadAt,Instr.sureAddr,Sem.run_bind,Sem.run_pure,Result.andThen_ok,run_loadVar_row w g t ty cs (0,0) d hg hu hd hi];exact hK _ _ h
theorem zOd {P:Program} {ops:Array Oper} {rest:List Oper} {op:Oper} {a:Act} {w:World} {Q:Exit→Act→World→Prop} (NF:op.guard=none) (ty:TypeId) (x y:Operand) (ho:op.op = .store ty x y)
 (g:Nat) (hx:a.eval x = .pointer (some ⟨g,0,none⟩)) (cs Fs:Array Value) (hy:a.eval y = .agg Fs) (t:TypeId) (hg:w.heap[g]? = some (.cells cs t (0,0)))
 (hi:(P.info? ty).map (·.size)=some Fs.size) (hs:cs.size=Fs.size) (h1:Fs.all (·.oneCell')=true)
 (h:wpList P ops Q rest (a.put op.dst undef) (w.setRow g Fs)):wpList P ops Q (op::rest) a w:=by
 refine wpList_plain NF fun K hK=>?_;unfold Oper.wp execOp;have hr:=run_storeVar_row (P:=P) w g t ty cs Fs hg hi hs h1;simp only [ho,hx,hy,Instr.storeAt,Instr.sureAddr,Sem.run_bind,Sem.run_pure,Result.andThen_ok,hr];exact hK _ _ h
end
end Go.Proofs.YtfcbajmjaifjlaaGreat