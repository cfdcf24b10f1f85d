/- Rva, Rnw: joined by program, for one claim. -/
import Derived.Test.YtgnfgblkpnfcnaaGreatDoorM18
set_option maxHeartbeats 2000000
set_option maxRecDepth 100000
set_option linter.unusedVariables false
set_option linter.unusedSimpArgs false
namespace Go.Proofs.YtgnfgblkpnfcnaaGreatDoor
section
open Go.RowKit Go.Sort Go.Maps
open Oct
theorem zMM {a b:Box} {m:Int} (hm:0≤m) (h:Small b m):Small (zf a b) m:=by
 obtain ⟨h1,h2,h3,h4,h5,h6⟩:=h;unfold zf;split
 · exact ⟨by simp [Box.zero,Pt.zero];omega,by simp [Box.zero,Pt.zero];omega,by simp [Box.zero,Pt.zero];omega,by simp [Box.zero,Pt.zero];omega,by simp [Box.zero,Pt.zero];omega,by simp [Box.zero,Pt.zero];omega⟩
 · unfold zFn;exact ⟨by simp only [];omega,by simp only [];omega,by simp only [];omega,by simp only [];omega,by simp only [];omega,by simp only [];omega⟩
theorem zKd (a0 a1 a2 a3 a4 a5 b0 b1 b2 b3 b4 b5:Int) (hS:Small ⟨⟨b0,b1,b2⟩,⟨b3,b4,b5⟩⟩ 1048575) (w:World) :
 Calls Tryz.prog 92 #[.agg #[a0,a1,a2,a3,a4,a5],.agg #[b0,b1,b2,b3,b4,b5]] w fun e w'=>e = .returned (.bool (zAC (zf ⟨⟨a0,a1,a2⟩,⟨a3,a4,a5⟩⟩ ⟨⟨b0,b1,b2⟩,⟨b3,b4,b5⟩⟩) == zAC ⟨⟨b0,b1,b2⟩,⟨b3,b4,b5⟩⟩))∧Below w.heap.size w w':=by
 have h1:=Bx.mk fun W=>zKp a0 a1 a2 a3 a4 a5 b0 b1 b2 b3 b4 b5 W;have hM:Small (zf ⟨⟨a0,a1,a2⟩,⟨a3,a4,a5⟩⟩ ⟨⟨b0,b1,b2⟩,⟨b3,b4,b5⟩⟩) 1048575:=zMM (by decide) hS
 have h2:=Bx.mk fun W=>zK5 (zf ⟨⟨a0,a1,a2⟩,⟨a3,a4,a5⟩⟩ ⟨⟨b0,b1,b2⟩,⟨b3,b4,b5⟩⟩).lo.x (zf ⟨⟨a0,a1,a2⟩,⟨a3,a4,a5⟩⟩ ⟨⟨b0,b1,b2⟩,⟨b3,b4,b5⟩⟩).lo.y (zf ⟨⟨a0,a1,a2⟩,⟨a3,a4,a5⟩⟩ ⟨⟨b0,b1,b2⟩,⟨b3,b4,b5⟩⟩).lo.z (zf ⟨⟨a0,a1,a2⟩,⟨a3,a4,a5⟩⟩ ⟨⟨b0,b1,b2⟩,⟨b3,b4,b5⟩⟩).hi.x (zf ⟨⟨a0,a1,a2⟩,⟨a3,a4,a5⟩⟩ ⟨⟨b0,b1,b2⟩,⟨b3,b4,b5⟩⟩).hi.y (zf ⟨⟨a0,a1,a2⟩,⟨a3,a4,a5⟩⟩ ⟨⟨b0,b1,b2⟩,⟨b3,b4,b5⟩⟩).hi.z hM W;have h3:=Bx.mk fun W=>zK5 b0 b1 b2 b3 b4 b5 hS W;have hV:zAC ⟨⟨(zf ⟨⟨a0,a1,a2⟩,⟨a3,a4,a5⟩⟩ ⟨⟨b0,b1,b2⟩,⟨b3,b4,b5⟩⟩).lo.x,(zf ⟨⟨a0,a1,a2⟩,⟨a3,a4,a5⟩⟩ ⟨⟨b0,b1,b2⟩,⟨b3,b4,b5⟩⟩).lo.y,(zf ⟨⟨a0,a1,a2⟩,⟨a3,a4,a5⟩⟩ ⟨⟨b0,b1,b2⟩,⟨b3,b4,b5⟩⟩).lo.z⟩,⟨(zf ⟨⟨a0,a1,a2⟩,⟨a3,a4,a5⟩⟩ ⟨⟨b0,b1,b2⟩,⟨b3,b4,b5⟩⟩).hi.x,(zf ⟨⟨a0,a1,a2⟩,⟨a3,a4,a5⟩⟩ ⟨⟨b0,b1,b2⟩,⟨b3,b4,b5⟩⟩).hi.y,(zf ⟨⟨a0,a1,a2⟩,⟨a3,a4,a5⟩⟩ ⟨⟨b0,b1,b2⟩,⟨b3,b4,b5⟩⟩).hi.z⟩⟩=zAC (zf ⟨⟨a0,a1,a2⟩,⟨a3,a4,a5⟩⟩ ⟨⟨b0,b1,b2⟩,⟨b3,b4,b5⟩⟩):=rfl;rw [hV] at h2;generalize zAC (zf ⟨⟨a0,a1,a2⟩,⟨a3,a4,a5⟩⟩ ⟨⟨b0,b1,b2⟩,⟨b3,b4,b5⟩⟩)=v1 at *;generalize zAC ⟨⟨b0,b1,b2⟩,⟨b3,b4,b5⟩⟩=v2 at *;generalize (zf ⟨⟨a0,a1,a2⟩,⟨a3,a4,a5⟩⟩ ⟨⟨b0,b1,b2⟩,⟨b3,b4,b5⟩⟩).lo.x=m0 at *;generalize (zf ⟨⟨a0,a1,a2⟩,⟨a3,a4,a5⟩⟩ ⟨⟨b0,b1,b2⟩,⟨b3,b4,b5⟩⟩).lo.y=m1 at *;generalize (zf ⟨⟨a0,a1,a2⟩,⟨a3,a4,a5⟩⟩ ⟨⟨b0,b1,b2⟩,⟨b3,b4,b5⟩⟩).lo.z=m2 at *;generalize (zf ⟨⟨a0,a1,a2⟩,⟨a3,a4,a5⟩⟩ ⟨⟨b0,b1,b2⟩,⟨b3,b4,b5⟩⟩).hi.x=m3 at *;generalize (zf ⟨⟨a0,a1,a2⟩,⟨a3,a4,a5⟩⟩ ⟨⟨b0,b1,b2⟩,⟨b3,b4,b5⟩⟩).hi.y=m4 at *;generalize (zf ⟨⟨a0,a1,a2⟩,⟨a3,a4,a5⟩⟩ ⟨⟨b0,b1,b2⟩,⟨b3,b4,b5⟩⟩).hi.z=m5 at *;clear hS hM hV;go_enter Tryz.func92,Tryz.ntmps92;go_wp2_with fail;generalize hW:World.alloc (World.alloc w _) _=W;have hSz:=sz2 hW;have hB:=bl2 hW;have ka:Bk W (w.heap.size) #[a0,a1,a2,a3,a4,a5] 25:=bk1 hW;have kb:Bk W (w.heap.size+1) #[b0,b1,b2,b3,b4,b5] 25:=bk0 hW;clear hW;obtain ⟨ca0,ca1,ca2,ca3,ca4,ca5⟩:=ka.r6;obtain ⟨cb0,cb1,cb2,cb3,cb4,cb5⟩:=kb.r6;have q0:=Bx.mk fun dk osk=>Calls.regrown_of (h1.out (grow (redrawn W dk) osk));have q1:=Bx.mk fun dk osk=>Calls.regrown_of (h2.out (grow (redrawn W dk) osk));have q2:=Bx.mk fun dk osk=>Calls.regrown_of (h3.out (grow (redrawn W dk) osk));refine wp_region_quiet_below (by kernel_rfl) (by kernel_rfl) ?_
 repeat (first | go_big_quiet_step ((first | with_reducible exact q0.out _ _ | with_reducible exact q1.out _ _ | with_reducible exact q2.out _ _)) | quiet_step (first | with_reducible exact q0.out _ _ | with_reducible exact q1.out _ _ | with_reducible exact q2.out _ _))
 refine wpQuiet_nil ?_;rintro _ ⟨⟨dq,osq⟩,rfl⟩;have hb:=below_regrown W dq osq;clear ca0 ca1 ca2 ca3 ca4 ca5;clear cb0 cb1 cb2 cb3 cb4 cb5;clear q0;clear q1;clear q2;replace hB:=hB.trans (hb.mono hB.size);replace ka:=ka.later hb;replace kb:=kb.later hb;replace hSz:=Nat.le_trans hSz hb.size;clear hb;generalize grow (redrawn W dq) osq=W1 at *;go_wp2_with fail;go_ret;exact ⟨rfl,hB⟩
theorem zK4 (a b c d e f:Int) (ha:Option Addr) (hcp:Nat) (xs:List Int) (hl:xs.length≤300) (w:World) (hsl:Sl w .i64 ha xs) :
 Calls Tryz.prog 90 #[.agg #[a,b,c,d,e,f,.slice ha xs.length hcp]] w fun e' w'=>e' = .returned (.bool (zAB ⟨⟨a,b,c⟩,⟨d,e,f⟩⟩ xs))∧Below w.heap.size w w':=by
 have hr0:=Bx.mk fun W=>zKy a b c W;have hr1:=Bx.mk fun W=>zKy d e f W;have hV:=show zAB ⟨⟨a,b,c⟩,⟨d,e,f⟩⟩ xs=(okP ⟨a,b,c⟩ && okP ⟨d,e,f⟩ && (!zN ⟨⟨a,b,c⟩,⟨d,e,f⟩⟩ || decide (⟨⟨a,b,c⟩,⟨d,e,f⟩⟩=Box.zero)) && decide (zAC ⟨⟨a,b,c⟩,⟨d,e,f⟩⟩≤2097152) && decide (zAC ⟨⟨a,b,c⟩,⟨d,e,f⟩⟩=xs.length) && xs.all Pal.cell) from rfl;have hok:okP ⟨a,b,c⟩=true→okP ⟨d,e,f⟩=true→Small ⟨⟨a,b,c⟩,⟨d,e,f⟩⟩ 1048575:=fun h1 h2=>zk (by unfold okB;rw [h1,h2];rfl)
 have hvp:zN ⟨⟨a,b,c⟩,⟨d,e,f⟩⟩=false→1≤zAC ⟨⟨a,b,c⟩,⟨d,e,f⟩⟩:=fun h=>zBR h;have hv0:zN ⟨⟨a,b,c⟩,⟨d,e,f⟩⟩=true→zAC ⟨⟨a,b,c⟩,⟨d,e,f⟩⟩=0:=fun h=>zNy h;have hvol:okP ⟨a,b,c⟩=true→okP ⟨d,e,f⟩=true → ∀ W,Calls Tryz.prog 77 #[.agg #[a,b,c,d,e,f]] W fun e' w'=>e' = .returned (.int .i64 (zAC ⟨⟨a,b,c⟩,⟨d,e,f⟩⟩))∧Below W.heap.size W w':=fun h1 h2 W=>zK5 a b c d e f (hok h1 h2) W;have hq:=fun W=>zIC a b c d e f 0 0 0 0 0 0 W;rw [show decide (⟨⟨a,b,c⟩,⟨d,e,f⟩⟩=Box.zero)=decide ((⟨⟨a,b,c⟩,⟨d,e,f⟩⟩:Box)=⟨⟨0,0,0⟩,⟨0,0,0⟩⟩) from rfl] at hV;have Hsl:=Bx.mk hsl;clear hsl hok;generalize hr:zAB ⟨⟨a,b,c⟩,⟨d,e,f⟩⟩ xs=r at *;generalize okP ⟨a,b,c⟩=r1 at *;generalize okP ⟨d,e,f⟩=r2 at *;generalize zN ⟨⟨a,b,c⟩,⟨d,e,f⟩⟩=em at *;generalize decide ((⟨⟨a,b,c⟩,⟨d,e,f⟩⟩:Box)=⟨⟨0,0,0⟩,⟨0,0,0⟩⟩)=bz at *;generalize zAC ⟨⟨a,b,c⟩,⟨d,e,f⟩⟩=v at *;clear hr;cases r1 with
 | false =>
   have Hr:=Bx.mk (show r=false by simpa using hV)
   clear hV hvp hv0 hvol hq;go_enter Tryz.func90,Tryz.ntmps90;go_wp2_with fail;generalize hW:World.alloc w _=W;have hSz:=sz1 hW;have hB:=bl1 hW;have kg:Bk W (w.heap.size) #[a,b,c,d,e,f,.slice ha xs.length hcp] 28:=bk0 hW;clear hW;refine (hr0.out _).mono ?_;rintro _ w1 ⟨rfl,hb⟩;replace hB:=hB.trans (hb.mono hB.size);replace kg:=kg.later hb;replace hSz:=Nat.le_trans hSz hb.size;clear hb;obtain ⟨cg0,cg1,cg2,cg3,cg4,cg5,cg6⟩:=kg.c7;go_wp2_with fail;clear cg0 cg1 cg2 cg3 cg4 cg5 cg6;refine (hr1.out _).mono ?_;rintro _ w2 ⟨rfl,hb⟩;replace hB:=hB.trans (hb.mono hB.size);replace kg:=kg.later hb;replace hSz:=Nat.le_trans hSz hb.size;clear hb;obtain ⟨cg0,cg1,cg2,cg3,cg4,cg5,cg6⟩:=kg.c7;go_wp2_with fail;clear cg0 cg1 cg2 cg3 cg4 cg5 cg6;go_ret;exact ⟨by rw [Hr.out];rfl,hB⟩
 | true =>
   cases r2 with
   | false =>
     have Hr:=Bx.mk (show r=false by simpa using hV)
     clear hV hvp hv0 hvol hq;go_enter Tryz.func90,Tryz.ntmps90;go_wp2_with fail;generalize hW:World.alloc w _=W;have hSz:=sz1 hW;have hB:=bl1 hW;have kg:Bk W (w.heap.size) #[a,b,c,d,e,f,.slice ha xs.length hcp] 28:=bk0 hW;clear hW;refine (hr0.out _).mono ?_;rintro _ w1 ⟨rfl,hb⟩;replace hB:=hB.trans (hb.mono hB.size);replace kg:=kg.later hb;replace hSz:=Nat.le_trans hSz hb.size;clear hb;obtain ⟨cg0,cg1,cg2,cg3,cg4,cg5,cg6⟩:=kg.c7;go_wp2_with fail;clear cg0 cg1 cg2 cg3 cg4 cg5 cg6;refine (hr1.out _).mono ?_;rintro _ w2 ⟨rfl,hb⟩;replace hB:=hB.trans (hb.mono hB.size);replace kg:=kg.later hb;replace hSz:=Nat.le_trans hSz hb.size;clear hb;obtain ⟨cg0,cg1,cg2,cg3,cg4,cg5,cg6⟩:=kg.c7;go_wp2_with fail;clear cg0 cg1 cg2 cg3 cg4 cg5 cg6;go_ret;exact ⟨by rw [Hr.out];rfl,hB⟩
   | true =>
     have hv:=Bx.mk (hvol rfl rfl);clear hvol;cases em with
     | true =>
       obtain rfl:v=0:=hv0 rfl;clear hv0 hvp;cases bz with
       | false =>
         have Hr:=Bx.mk (show r=false by simpa using hV)
         clear hV;go_enter Tryz.func90,Tryz.ntmps90;go_wp2_with fail;generalize hW:World.alloc w _=W;have hSz:=sz1 hW;have hB:=bl1 hW;have kg:Bk W (w.heap.size) #[a,b,c,d,e,f,.slice ha xs.length hcp] 28:=bk0 hW;clear hW;refine (hr0.out _).mono ?_;rintro _ w1 ⟨rfl,hb⟩;replace hB:=hB.trans (hb.mono hB.size);replace kg:=kg.later hb;replace hSz:=Nat.le_trans hSz hb.size;clear hb;obtain ⟨cg0,cg1,cg2,cg3,cg4,cg5,cg6⟩:=kg.c7;go_wp2_with fail;clear cg0 cg1 cg2 cg3 cg4 cg5 cg6;refine (hr1.out _).mono ?_;rintro _ w2 ⟨rfl,hb⟩;replace hB:=hB.trans (hb.mono hB.size);replace kg:=kg.later hb;replace hSz:=Nat.le_trans hSz hb.size;clear hb;obtain ⟨cg0,cg1,cg2,cg3,cg4,cg5,cg6⟩:=kg.c7;go_wp2_with fail;clear cg0 cg1 cg2 cg3 cg4 cg5 cg6;refine (hv.out _).mono ?_;rintro _ w3 ⟨rfl,hb⟩;replace hB:=hB.trans (hb.mono hB.size);replace kg:=kg.later hb;replace hSz:=Nat.le_trans hSz hb.size;clear hb;obtain ⟨cg0,cg1,cg2,cg3,cg4,cg5,cg6⟩:=kg.c7;go_wp2_with fail;clear cg0 cg1 cg2 cg3 cg4 cg5 cg6;go_ret;exact ⟨by rw [Hr.out];rfl,hB⟩
       | true =>
         by_cases h0:xs.length=0
         · have Hr:=Bx.mk (show r=true by
            have:xs=[]:=List.eq_nil_of_length_eq_zero h0;rw [hV,this];rfl)
           have t0:((xs.length:Int) != 0)=false:=by rw [h0];rfl
           clear hV h0;go_enter Tryz.func90,Tryz.ntmps90;go_wp2_with fail;generalize hW:World.alloc w _=W;have hSz:=sz1 hW;have hB:=bl1 hW;have kg:Bk W (w.heap.size) #[a,b,c,d,e,f,.slice ha xs.length hcp] 28:=bk0 hW;clear hW;refine (hr0.out _).mono ?_;rintro _ w1 ⟨rfl,hb⟩;replace hB:=hB.trans (hb.mono hB.size);replace kg:=kg.later hb;replace hSz:=Nat.le_trans hSz hb.size;clear hb;obtain ⟨cg0,cg1,cg2,cg3,cg4,cg5,cg6⟩:=kg.c7;go_wp2_with fail;clear cg0 cg1 cg2 cg3 cg4 cg5 cg6;refine (hr1.out _).mono ?_;rintro _ w2 ⟨rfl,hb⟩;replace hB:=hB.trans (hb.mono hB.size);replace kg:=kg.later hb;replace hSz:=Nat.le_trans hSz hb.size;clear hb;obtain ⟨cg0,cg1,cg2,cg3,cg4,cg5,cg6⟩:=kg.c7;go_wp2_with fail;clear cg0 cg1 cg2 cg3 cg4 cg5 cg6;refine (hv.out _).mono ?_;rintro _ w3 ⟨rfl,hb⟩;replace hB:=hB.trans (hb.mono hB.size);replace kg:=kg.later hb;replace hSz:=Nat.le_trans hSz hb.size;clear hb;obtain ⟨cg0,cg1,cg2,cg3,cg4,cg5,cg6⟩:=kg.c7;go_wp2_with fail;clear cg0 cg1 cg2 cg3 cg4 cg5 cg6
           go_loop [6] (fun v6=>v6 = .int .i64 0) (fun _=>0)
           case atStart=>rfl
           case round =>
            subst hrel;have t9:decide ((0:Int)<0)=false:=by decide
            go_wp2_with fail;go_ret;exact ⟨by rw [Hr.out];rfl,hB⟩
         · have t0:((xs.length:Int) != 0)=true:=bne_iff_ne.2 (by omega)
           have Hr:=Bx.mk (show r=false by
            have:decide ((0:Int)=xs.length)=false:=decide_eq_false (by omega)
            rw [hV,this,Bool.and_false,Bool.false_and])
           clear hV;go_enter Tryz.func90,Tryz.ntmps90;go_wp2_with fail;generalize hW:World.alloc w _=W;have hSz:=sz1 hW;have hB:=bl1 hW;have kg:Bk W (w.heap.size) #[a,b,c,d,e,f,.slice ha xs.length hcp] 28:=bk0 hW;clear hW;refine (hr0.out _).mono ?_;rintro _ w1 ⟨rfl,hb⟩;replace hB:=hB.trans (hb.mono hB.size);replace kg:=kg.later hb;replace hSz:=Nat.le_trans hSz hb.size;clear hb;obtain ⟨cg0,cg1,cg2,cg3,cg4,cg5,cg6⟩:=kg.c7;go_wp2_with fail;clear cg0 cg1 cg2 cg3 cg4 cg5 cg6;refine (hr1.out _).mono ?_;rintro _ w2 ⟨rfl,hb⟩;replace hB:=hB.trans (hb.mono hB.size);replace kg:=kg.later hb;replace hSz:=Nat.le_trans hSz hb.size;clear hb;obtain ⟨cg0,cg1,cg2,cg3,cg4,cg5,cg6⟩:=kg.c7;go_wp2_with fail;clear cg0 cg1 cg2 cg3 cg4 cg5 cg6;refine (hv.out _).mono ?_;rintro _ w3 ⟨rfl,hb⟩;replace hB:=hB.trans (hb.mono hB.size);replace kg:=kg.later hb;replace hSz:=Nat.le_trans hSz hb.size;clear hb;obtain ⟨cg0,cg1,cg2,cg3,cg4,cg5,cg6⟩:=kg.c7;go_wp2_with fail;clear cg0 cg1 cg2 cg3 cg4 cg5 cg6;go_ret;exact ⟨by rw [Hr.out];rfl,hB⟩
     | false =>
       have hv1:=hvp rfl;clear hv0 hvp hq;have t00:(v == 0)=false:=beq_eq_false_iff_ne.2 (by omega)
       by_cases h1:2097152<v
       · have t1:decide (2097152<v)=true:=by simpa using h1
         have Hr:=Bx.mk (show r=false by
          have:decide (v≤2097152)=false:=decide_eq_false (by omega)
          rw [hV,this];simp)
         clear hV;go_enter Tryz.func90,Tryz.ntmps90;go_wp2_with fail;generalize hW:World.alloc w _=W;have hSz:=sz1 hW;have hB:=bl1 hW;have kg:Bk W (w.heap.size) #[a,b,c,d,e,f,.slice ha xs.length hcp] 28:=bk0 hW;clear hW;refine (hr0.out _).mono ?_;rintro _ w1 ⟨rfl,hb⟩;replace hB:=hB.trans (hb.mono hB.size);replace kg:=kg.later hb;replace hSz:=Nat.le_trans hSz hb.size;clear hb;obtain ⟨cg0,cg1,cg2,cg3,cg4,cg5,cg6⟩:=kg.c7;go_wp2_with fail;clear cg0 cg1 cg2 cg3 cg4 cg5 cg6;refine (hr1.out _).mono ?_;rintro _ w2 ⟨rfl,hb⟩;replace hB:=hB.trans (hb.mono hB.size);replace kg:=kg.later hb;replace hSz:=Nat.le_trans hSz hb.size;clear hb;obtain ⟨cg0,cg1,cg2,cg3,cg4,cg5,cg6⟩:=kg.c7;go_wp2_with fail;clear cg0 cg1 cg2 cg3 cg4 cg5 cg6;refine (hv.out _).mono ?_;rintro _ w3 ⟨rfl,hb⟩;replace hB:=hB.trans (hb.mono hB.size);replace kg:=kg.later hb;replace hSz:=Nat.le_trans hSz hb.size;clear hb;obtain ⟨cg0,cg1,cg2,cg3,cg4,cg5,cg6⟩:=kg.c7;go_wp2_with fail;clear cg0 cg1 cg2 cg3 cg4 cg5 cg6;go_ret;exact ⟨by rw [Hr.out];rfl,hB⟩
       · have t1:decide (2097152<v)=false:=by simpa using h1
         by_cases h2:v=xs.length
         · have t2:((xs.length:Int) != v)=false:=by rw [h2];simp
           have Hv:=Bx.mk (show r=xs.all Pal.cell by
            have:decide (v≤2097152)=true:=decide_eq_true (by omega)
            rw [hV,this,h2];simp)
           have H2:=Bx.mk h2;clear hV h2;go_enter Tryz.func90,Tryz.ntmps90;go_wp2_with fail;generalize hW:World.alloc w _=W;have hSz:=sz1 hW;have hB:=bl1 hW;have kg:Bk W (w.heap.size) #[a,b,c,d,e,f,.slice ha xs.length hcp] 28:=bk0 hW;clear hW;refine (hr0.out _).mono ?_;rintro _ w1 ⟨rfl,hb⟩;replace hB:=hB.trans (hb.mono hB.size);replace kg:=kg.later hb;replace hSz:=Nat.le_trans hSz hb.size;clear hb;obtain ⟨cg0,cg1,cg2,cg3,cg4,cg5,cg6⟩:=kg.c7;go_wp2_with fail;clear cg0 cg1 cg2 cg3 cg4 cg5 cg6;refine (hr1.out _).mono ?_;rintro _ w2 ⟨rfl,hb⟩;replace hB:=hB.trans (hb.mono hB.size);replace kg:=kg.later hb;replace hSz:=Nat.le_trans hSz hb.size;clear hb;obtain ⟨cg0,cg1,cg2,cg3,cg4,cg5,cg6⟩:=kg.c7;go_wp2_with fail;clear cg0 cg1 cg2 cg3 cg4 cg5 cg6;refine (hv.out _).mono ?_;rintro _ w3 ⟨rfl,hb⟩;replace hB:=hB.trans (hb.mono hB.size);replace kg:=kg.later hb;replace hSz:=Nat.le_trans hSz hb.size;clear hb;obtain ⟨cg0,cg1,cg2,cg3,cg4,cg5,cg6⟩:=kg.c7;go_wp2_with fail;clear cg0 cg1 cg2 cg3 cg4 cg5 cg6;have hBv:v≤300:=by have:=H2.out;omega
           have HB:=Bx.mk hB;clear hB
           go_loop [6] (fun v6 => ∃ k:Nat,(k:Int)≤v∧v6 = .int .i64 k∧Bx ((xs.take k).all Pal.cell=true)) (fun i=>300 - (intOf i).toNat)
           case atStart=>exact ⟨0,by omega,rfl,⟨rfl⟩⟩
           case round =>
            obtain ⟨k,hk,rfl,hall⟩:=hrel;by_cases hlt:(k:Int)<v
            · have t9:decide ((k:Int)<v)=true:=by simpa using hlt
              obtain ⟨x,hx⟩ : ∃ x,xs[k]? = some x:=⟨_,List.getElem?_eq_getElem (by have:=H2.out;omega)⟩
              obtain ⟨b',off,hbo,hc⟩:=(Hsl.out.below HB.out) k x hx;have b1:(0:Int)≤(k:Int):=by omega
              have b2:(k:Int)<(xs.length:Int):=by have:=H2.out;omega
              have cg6:=kg.cell 6 rfl;have HX:=Bx.mk hx;have hm:=Bx.mk fun W=>zKo x W;clear hx;subst hbo;cases hp:Pal.cell x with
              | true =>
                rw [hp] at hm;have hall2:=Bx.mk (zBA HX.out hall.out hp);clear hp;go_wp2_with fail;refine (hm.out _).mono ?_;rintro _ _ ⟨rfl,rfl⟩;go_wp2_with fail;go_round
                case rel=>exact ⟨k+1,by omega,by go_num,hall2⟩
                case measure=>simp [intOf];omega
              | false =>
                rw [hp] at hm;have Hr:=Bx.mk (Hv.out.trans (zBB HX.out hp));clear hp;go_wp2_with fail;refine (hm.out _).mono ?_;rintro _ _ ⟨rfl,rfl⟩;go_wp2_with fail;go_ret;exact ⟨by rw [Hr.out];rfl,HB.out⟩
            · have t9:decide ((k:Int)<v)=false:=by simpa using hlt
              have Hr:=Bx.mk (show r=true from Hv.out.trans (by
               have h:=hall.out;rwa [List.take_of_length_le (by have:=H2.out;omega)] at h))
              go_wp2_with fail;go_ret;exact ⟨by rw [Hr.out];rfl,HB.out⟩
         · have t2:((xs.length:Int) != v)=true:=bne_iff_ne.2 (fun e=>h2 e.symm)
           have Hr:=Bx.mk (show r=false by
            have:decide (v=xs.length)=false:=decide_eq_false h2;rw [hV,this];simp)
           clear hV h2;go_enter Tryz.func90,Tryz.ntmps90;go_wp2_with fail;generalize hW:World.alloc w _=W;have hSz:=sz1 hW;have hB:=bl1 hW;have kg:Bk W (w.heap.size) #[a,b,c,d,e,f,.slice ha xs.length hcp] 28:=bk0 hW;clear hW;refine (hr0.out _).mono ?_;rintro _ w1 ⟨rfl,hb⟩;replace hB:=hB.trans (hb.mono hB.size);replace kg:=kg.later hb;replace hSz:=Nat.le_trans hSz hb.size;clear hb;obtain ⟨cg0,cg1,cg2,cg3,cg4,cg5,cg6⟩:=kg.c7;go_wp2_with fail;clear cg0 cg1 cg2 cg3 cg4 cg5 cg6;refine (hr1.out _).mono ?_;rintro _ w2 ⟨rfl,hb⟩;replace hB:=hB.trans (hb.mono hB.size);replace kg:=kg.later hb;replace hSz:=Nat.le_trans hSz hb.size;clear hb;obtain ⟨cg0,cg1,cg2,cg3,cg4,cg5,cg6⟩:=kg.c7;go_wp2_with fail;clear cg0 cg1 cg2 cg3 cg4 cg5 cg6;refine (hv.out _).mono ?_;rintro _ w3 ⟨rfl,hb⟩;replace hB:=hB.trans (hb.mono hB.size);replace kg:=kg.later hb;replace hSz:=Nat.le_trans hSz hb.size;clear hb;obtain ⟨cg0,cg1,cg2,cg3,cg4,cg5,cg6⟩:=kg.c7;go_wp2_with fail;clear cg0 cg1 cg2 cg3 cg4 cg5 cg6;go_ret;exact ⟨by rw [Hr.out];rfl,hB⟩
structure RnI (w:World) (a b c d e f:Int) (gr gk:Nat) (k:Nat) (v:Value) (wr:World):Prop where
 kk:Bk wr gk #[a,b,c,d,e,f,v] 28
 own:Own wr (gk+1) 3 .i64 v (List.replicate k 0)
 kr:Bk wr gr #[(0:Int),(0:Int),(0:Int),(0:Int),(0:Int),(0:Int),.slice none 0 0] 28
 bel:Below w.heap.size w wr
 lt:w.heap.size≤gr∧gr<gk
theorem zKr (a b c d e f:Int) (hok:okB ⟨⟨a,b,c⟩,⟨d,e,f⟩⟩=true) (he:zN ⟨⟨a,b,c⟩,⟨d,e,f⟩⟩=false) (n:Nat) (hn:zAC ⟨⟨a,b,c⟩,⟨d,e,f⟩⟩=n) (hle:n≤5000) (w:World) :
 Calls Tryz.prog 37 #[.agg #[a,b,c,d,e,f],(0:Int)] w fun e' w' => ∃ g cap,e' = .returned (.tuple #[.agg #[a,b,c,d,e,f,.slice (some ⟨g,0,none⟩) n cap],(0:Int)])∧Own w' w.heap.size 3 .i64 (.slice (some ⟨g,0,none⟩) n cap) (List.replicate n 0)∧Below w.heap.size w w':=by
 have hok2:okP ⟨a,b,c⟩=true∧okP ⟨d,e,f⟩=true:=by simpa [okB] using hok
 have hr0:=Bx.mk fun W=>zKy a b c W;have hr1:=Bx.mk fun W=>zKy d e f W;have hm:=Bx.mk fun W=>zKo 0 W;have hv:=Bx.mk fun W=>zK5 a b c d e f (zk hok) W;have hpos:1≤n:=by have:=zBR he;omega
 rw [hok2.1] at hr0;rw [hok2.2] at hr1;rw [hn] at hv;rw [show Pal.cell 0=true from rfl] at hm;clear hok he hok2 hn;have t1:((n:Int) == 0)=false:=beq_eq_false_iff_ne.2 (by omega)
 have t2:decide (2097152<(n:Int))=false:=by simp;omega
 go_enter Tryz.func37,Tryz.ntmps37;go_wp2_with fail;generalize hW:World.alloc (World.alloc w _) _=W;have hSz:=sz2 hW;have hB:=bl2 hW;have kb:Bk W (w.heap.size) #[a,b,c,d,e,f] 25:=bk1 hW;have kr:Bk W (w.heap.size+1) #[(0:Int),(0:Int),(0:Int),(0:Int),(0:Int),(0:Int),.slice none 0 0] 28:=bk0 hW;clear hW;refine (hr0.out _).mono ?_;rintro _ w1 ⟨rfl,hb⟩;replace hB:=hB.trans (hb.mono hB.size);replace kb:=kb.later hb;replace kr:=kr.later hb;replace hSz:=Nat.le_trans hSz hb.size;clear hb;obtain ⟨cb0,cb1,cb2,cb3,cb4,cb5⟩:=kb.c6;go_wp2_with fail;clear cb0 cb1 cb2 cb3 cb4 cb5;refine (hr1.out _).mono ?_;rintro _ w2 ⟨rfl,hb⟩;replace hB:=hB.trans (hb.mono hB.size);replace kb:=kb.later hb;replace kr:=kr.later hb;replace hSz:=Nat.le_trans hSz hb.size;clear hb;go_wp2_with fail;refine (hm.out _).mono ?_;rintro _ _ ⟨rfl,rfl⟩;obtain ⟨cb0,cb1,cb2,cb3,cb4,cb5⟩:=kb.c6;go_wp2_with fail;refine (hv.out _).mono ?_;rintro _ w3 ⟨rfl,hb⟩;clear cb0 cb1 cb2 cb3 cb4 cb5;replace hB:=hB.trans (hb.mono hB.size);replace kb:=kb.later hb;replace kr:=kr.later hb;replace hSz:=Nat.le_trans hSz hb.size;clear hb;obtain ⟨cb0,cb1,cb2,cb3,cb4,cb5⟩:=kb.c6;go_wp2_with fail;generalize hW3:World.alloc w3 _=V3
 have HI:Bx (RnI w a b c d e f (w.heap.size+1) w3.heap.size 0 (.slice none 0 0) V3):=⟨by
  have kk:Bk V3 w3.heap.size #[a,b,c,d,e,f,.slice none 0 0] 28:=bk0 hW3 rfl;have hb3:=bl1 hW3;exact ⟨kk,Own.nil _ _ _ _,kr.later hb3,hB.trans (hb3.mono hB.size),by omega,kr.lt⟩⟩
 clear cb0 cb1 cb2 cb3 cb4 cb5;clear hW3 kb kr hB hr0 hr1 hm hv hSz;generalize w3.heap.size=gk at *;obtain ⟨gr,hgr⟩ : ∃ gr,gr=w.heap.size+1:=⟨_,rfl⟩;rw [←hgr] at HI ⊢;clear hgr
 go_loopw [11] (fun v11 wr => ∃ (k:Nat) (v:Value),k≤n∧v11 = .int .i64 k∧Bx (RnI w a b c d e f gr gk k v wr)) (fun i _=>n - (intOf i).toNat)
 case atStart=>exact ⟨0,_,Nat.zero_le _,rfl,HI⟩
 case round =>
  clear HI;obtain ⟨k,v,hk,rfl,HI⟩:=hrel;by_cases hlt:k<n
  · have t0:decide ((k:Int)<(n:Int))=true:=by simp;omega
    obtain ⟨pa0,pc0,rfl,-⟩:=HI.out.own.form;have hlr:(List.replicate k (0:Int)).length=k:=List.length_replicate;rw [hlr] at HI;have cg6:=HI.out.kk.cell 6 rfl;have hgl:gk+1≤wr.heap.size:=HI.out.kk.lt;have hl9:(List.replicate k (0:Int)++[0]).length=k+1:=by simp
    have hne:=Bx.mk (show ∀ x,x<gk+1→(Value.slice pa0 k pc0).ownBlock ≠ some x from fun x hx e=>by have:=(HI.out.own.lt x e).1;omega)
    have Htl:=Bx.mk (show (List.replicate k (0:Int)).length≤1000000000 by rw [List.length_replicate];omega)
    go_wp2_with (first
     | (at_builtin
        refine zAF rfl _ _ 26 rfl 3 .i64 (.int .i64 0) 8 (by omega) Tryz.underlying26 (by kernel_rfl) rfl (gk+1) _ (List.replicate k 0) rfl (HI.out.own.alloc _) 0 ⟨wr.heap.size,0,none⟩ 1 rfl (zH _ _ _) Htl.out (ze hgl _) ?_
        intro v1 w1 hown1 hg1 hv1;obtain ⟨pa,pc,rfl,-⟩:=hown1.form;rw [hl9] at hown1 ⊢;have kk1:Bk w1 gk #[a,b,c,d,e,f,.slice pa0 k pc0] 28:=Bk.grownO (zE HI.out.kk) hg1 (hne.out _ (by omega))
        have cg6':=kk1.cell 6 rfl;have fg6:=kk1.frozen 6))
    have kr1:Bk w1 gr #[(0:Int),(0:Int),(0:Int),(0:Int),(0:Int),(0:Int),.slice none 0 0] 28:=Bk.grownO (zE HI.out.kr) hg1 (hne.out _ (by have:=HI.out.lt.2;omega))
    have hb1:Below w.heap.size w w1:=(HI.out.bel.alloc HI.out.bel.size (.cells #[(0:Int)] 3)).grown hg1 (ze HI.out.bel.size _) (fun g hg=>by have:=(HI.out.own.lt g hg).1;have:=HI.out.lt;omega)
    have Hown1:=Bx.mk hown1;have HK:=Bx.mk kk1;have HR:=Bx.mk kr1;have HB:=Bx.mk hb1;clear hl9 hlr hown1 hg1 hne kk1 kr1 hb1 cg6;generalize hW2:World.setCell w1 _ _=w2
    have HI2:Bx (RnI w a b c d e f gr gk (k+1) (.slice pa (k+1) pc) w2):=⟨by
     have hge:=HI.out.lt;rw [←hW2];refine ⟨by simpa using HK.out.set 6 (.slice pa (k+1) pc),?_,HR.out.other _ _ (by simp only;omega),HB.out.setCell (by simp only;omega) _,HI.out.lt⟩
     rw [List.replicate_succ'];exact Hown1.out.setBelow (by simp only;omega) _⟩
    clear hW2 Hown1 HK HR HB HI cg6' fg6
    go_roundw
    case rel=>exact ⟨k+1,_,by omega,by go_num,HI2⟩
    case measure=>simp [intOf];omega
  · obtain rfl:k=n:=by omega
    have t0:decide ((k:Int)<(k:Int))=false:=by simp
    obtain ⟨g,cap,rfl,-,-,-,-,-⟩:=HI.out.own.at (by rw [List.length_replicate];omega)
    have hlr:(List.replicate k (0:Int)).length=k:=List.length_replicate;rw [hlr] at HI;have kk:=HI.out.kk;have kr:=HI.out.kr;have hB:=HI.out.bel;have hlo:=HI.out.lt;have Hown:=Bx.mk HI.out.own;clear HI hlr;obtain ⟨ck0,ck1,ck2,ck3,ck4,ck5,ck6⟩:=kk.c7;have cr0:=kr.cell 0 rfl;have fr0:=kr.frozen 0;have cr1:=kr.cell 1 rfl;have fr1:=kr.frozen 1;have cr2:=kr.cell 2 rfl;have fr2:=kr.frozen 2;have cr3:=kr.cell 3 rfl;have fr3:=kr.frozen 3;have cr4:=kr.cell 4 rfl;have fr4:=kr.frozen 4;have cr5:=kr.cell 5 rfl;have fr5:=kr.frozen 5;have cr6:=kr.cell 6 rfl;have fr6:=kr.frozen 6;go_wp2_with fail;replace kr:=kr.put7 (.int .i64 a) (.int .i64 b) (.int .i64 c) (.int .i64 d) (.int .i64 e) (.int .i64 f) (.slice (some ⟨g,0,none⟩) k cap);obtain ⟨z0,z1,z2,z3,z4,z5,z6⟩:=kr.c7;have hB7:=zBj hB hlo.1 (.int .i64 a) (.int .i64 b) (.int .i64 c) (.int .i64 d) (.int .i64 e) (.int .i64 f) (.slice (some ⟨g,0,none⟩) k cap);have hO:Own _ (gk+1) 3 .i64 (.slice (some ⟨g,0,none⟩) k cap) (List.replicate k 0):=((((((Hown.out.setBelow (a:=⟨gr,0,none⟩) (by simp only;omega) (.int .i64 a)).setBelow (a:=⟨gr,1,none⟩) (by simp only;omega) (.int .i64 b)).setBelow (a:=⟨gr,2,none⟩) (by simp only;omega) (.int .i64 c)).setBelow (a:=⟨gr,3,none⟩) (by simp only;omega) (.int .i64 d)).setBelow (a:=⟨gr,4,none⟩) (by simp only;omega) (.int .i64 e)).setBelow (a:=⟨gr,5,none⟩) (by simp only;omega) (.int .i64 f)).setBelow (a:=⟨gr,6,none⟩) (by simp only;omega) (.slice (some ⟨g,0,none⟩) k cap)
    clear ck0 ck1 ck2 ck3 ck4 ck5 ck6 cr0 cr1 cr2 cr3 cr4 cr5 cr6 fr0 fr1 fr2 fr3 fr4 fr5 fr6;exact bodyPost_ret (v:=.tuple #[.agg #[a,b,c,d,e,f,.slice (some ⟨g,0,none⟩) k cap],(0:Int)]) (by simp [results,Tryz.results37,go_sem,z0,z1,z2,z3,z4,z5,z6]) rfl ⟨g,cap,rfl,hO.base (by omega),hB7⟩
end
end Go.Proofs.YtgnfgblkpnfcnaaGreatDoor
