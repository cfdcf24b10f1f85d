/- Set3, SanP, Ref: joined by program, for one claim. -/
import Derived.Test.YtgnfgblkpnfcnaaGreatDoorMr
import Derived.Test.YtgnfgblkpnfcnaaGreatDoorM17
import Derived.Laws.EntriesVeiled
set_option linter.unusedVariables false
set_option linter.unusedSimpArgs false
namespace Go.Proofs.YtgnfgblkpnfcnaaGreatDoor
section
open Go.RowKit Go.Sort Go.Maps
open Oct
theorem set_rec (ps pc pp pb sb:Nat) (c px py pz:Int) (hc:0≤c∧c≤255) (hx:0≤px∧px≤100000) (hy:0≤py∧py≤100000) (hz:0≤pz∧pz≤100000) (most:Int) (ts:List Tr) (hG:Good ts) : ∀ (n:Nat),n≤12 → ∀ (w:World) (Far:Nat→Prop) (_HC:Bx (SCtx w Far ps pc pp pb sb c px py pz)) (t:Tr) (_ht:t∈ts) (_hD:Dep n t) (_hlen:(Tr.add (Tr.setT n t ⟨px,py,pz⟩ c) ts).length≤1000000000000) (_hFar : ∀ k,Far k→k<w.heap.size) (_hS:StoreIs w Far sb most ts),
 Calls Tryz.prog 64 #[(idT ts t:Int),.int .i64 ((n:Int)+2),.pointer (some ⟨ps,0,none⟩),.pointer (some ⟨pc,0,none⟩),.pointer (some ⟨pp,0,none⟩),.pointer (some ⟨pb,0,none⟩)] w (Grew Far sb most ts (Tr.add (Tr.setT n t ⟨px,py,pz⟩ c) ts) (Tr.setT n t ⟨px,py,pz⟩ c) w):=by
 intro n
 induction n with
 | zero =>
   intro hn w Far HC t ht hD hlen hFar hS
   have hl:=Nat.le_trans (Tr.add_prefix (Tr.setT 0 t ⟨px,py,pz⟩ c) ts).length_le hlen
   rw [show (((0:Nat):Int)+2)=2 by decide]
   rcases dep_zero hD with ⟨c0,rfl⟩ | ⟨l,rfl⟩
   · exact set0_uni w Far ps pc pp pb sb c px py pz HC hc hx hy hz c0 most ts ht hG hl hFar hS
   · exact set0_brick w Far ps pc pp pb sb c px py pz HC hc hx hy hz l most ts ht hG hl hFar hS
 | succ n ih =>
   intro hn w Far HC t ht hD hlen hFar hS
   rw [show (((n+1:Nat):Int)+2)=(n:Int)+3 by omega]
   have key : ∀ (tt:Tr),tt∈ts→Dep (n+1) tt→(Tr.add (Tr.setT (n+1) tt ⟨px,py,pz⟩ c) ts).length≤1000000000000→Bx (∀ (W:World) (Far':Nat→Prop),SCtx W Far' ps pc pp pb sb c px py pz→(∀ k,Far' k→k<W.heap.size)→StoreIs W Far' sb most ts→Calls Tryz.prog 64 #[.int .i64 (idT ts (Tr.kid tt (Tr.oct n ⟨px,py,pz⟩)):Int),.int .i64 ((n:Int)+2),.pointer (some ⟨ps,0,none⟩),.pointer (some ⟨pc,0,none⟩),.pointer (some ⟨pp,0,none⟩),.pointer (some ⟨pb,0,none⟩)] W (Grew Far' sb most ts (Tr.add (Tr.setT n (Tr.kid tt (Tr.oct n ⟨px,py,pz⟩)) ⟨px,py,pz⟩ c) ts) (Tr.setT n (Tr.kid tt (Tr.oct n ⟨px,py,pz⟩)) ⟨px,py,pz⟩ c) W)):=fun tt htt hDt hlt=>⟨fun W Far' hC hF hSt=>by
    refine ih (by omega) W Far' ⟨hC⟩ _ (kids_in hG htt _) (hDt.kid _) ?_ hF hSt
    have h1:=(inner_pre (d:=n+3) (ch:=chS n tt ⟨px,py,pz⟩ c) hG).length_le
    rw [addK_chS hG htt,←set_succ] at h1
    omega⟩
   cases hD with
   | uni _ c0=>exact set_uni w Far ps pc pp pb sb c px py pz HC hc hx hy hz c0 n (by omega) most ts ht (fun i=>Dep.uni _ _) hG hlen hFar hS (key _ ht (Dep.uni _ _) hlen)
   | node _ ch hch=>exact set_node w Far ps pc pp pb sb c px py pz HC hc hx hy hz ch n (by omega) most ts ht (fun i=>hch i) hG hlen hFar hS (key _ ht (Dep.node n ch hch) hlen)
set_option maxHeartbeats 1000000 in
theorem set2_any (w:World) (Far:Nat→Prop) (ps pc pp pb sb pi pd:Nat) (c px py pz:Int) (HC:SCtx w Far ps pc pp pb sb c px py pz) (hc:0≤c∧c≤255) (hx:0≤px∧px≤100000) (hy:0≤py∧py≤100000) (hz:0≤pz∧pz≤100000) (most:Int) (ts:List Tr) (t:Tr) (ht:t∈ts) (n:Nat) (hn:n≤12) (hD:Dep n t) (hG:Good ts) (hlen:(Tr.add (Tr.setT n t ⟨px,py,pz⟩ c) ts).length≤1000000000000) (hFar : ∀ k,Far k→k<w.heap.size) (hS:StoreIs w Far sb most ts)
 (ki:Bk w pi #[(idT ts t:Int)] 3) (kd:Bk w pd #[.int .i64 ((n:Int)+2)] 3) :
 Calls Tryz.prog 72 #[.pointer (some ⟨pb,0,none⟩),.pointer (some ⟨pi,0,none⟩),.pointer (some ⟨pd,0,none⟩)] w (Grew Far sb most ts (Tr.add (Tr.setT n t ⟨px,py,pz⟩ c) ts) (Tr.setT n t ⟨px,py,pz⟩ c) w):=by
 have hb:=Bx.mk (set_rec ps pc pp pb sb c px py pz hc hx hy hz most ts hG n hn w Far ⟨HC⟩ t ht hD hlen hFar hS)
 have ci:=ki.cell 0 rfl
 have cd:=kd.cell 0 rfl
 have cb:=HC.kb.cell 0 rfl
 clear kd ki hlen hG hFar hS hD ht HC hc hx hy hz
 generalize (Tr.setT n t ⟨px,py,pz⟩ c)=T at *
 generalize (idT ts t:Int)=ii at *
 go_enter Tryz.func72,Tryz.ntmps72
 go_wp2_with fail
 refine hb.out.mono ?_
 rintro e w1 hg
 have Hg:=Bx.mk hg
 obtain ⟨-,-,(⟨hf,rfl,hs⟩ | ⟨hf,rfl,us,hs⟩)⟩:=hg
 all_goals
  clear hf hs
  go_wp2_with fail
  go_ret2
  exact Hg.out
theorem set_out (w:World) (sb n:Nat) (hn:n≤12) (id px py pz c:Int) (hI:inB ⟨px,py,pz⟩ (cubeB (2 ^ (n+2)))=false) :
 Calls Tryz.prog 33 #[.pointer (some ⟨sb,0,none⟩),id,.int .i64 ((n:Int)+2),.agg #[px,py,pz],c] w fun e w'=>e=ret2 0 1∧Below w.heap.size w w':=by
 have hin:=fun W=>isIn_any (n+2) (by omega) px py pz W
 have hcell:=fun W=>isCell_any c W
 rw [show ((n+2:Nat):Int)=(n:Int)+2 by omega] at hin
 simp only [hI] at hin
 replace hin:=Bx.mk hin
 replace hcell:=Bx.mk hcell
 clear hI
 go_enter Tryz.func33,Tryz.ntmps33
 go_upto_region 1 with fail
 generalize hW:World.alloc (World.alloc (World.alloc (World.alloc (World.alloc w _) _) _) _) _=W
 have hSz:w.heap.size+1+1+1+1+1≤W.heap.size:=by rw [←hW];simp
 have hB:Below w.heap.size w W:=by rw [←hW];exact (((((Below.refl _ _).alloc (Nat.le_refl _) _).alloc (by simp) _).alloc (by simp;omega) _).alloc (by simp;omega) _).alloc (by simp;omega) _
 have kr:Bk W (w.heap.size) #[.pointer (some ⟨sb,0,none⟩)] 31:=by rw [←hW];exact blk_old (blk_old (blk_old (blk_old (blk_new _ _ _ (by simp)))))
 have ki:Bk W (w.heap.size+1) #[id] 3:=by rw [←hW];exact blk_old (blk_old (blk_old (blk_new _ _ _ (by simp))))
 have kd:Bk W (w.heap.size+1+1) #[.int .i64 ((n:Int)+2)] 3:=bk2 hW
 have kp:Bk W (w.heap.size+1+1+1) #[px,py,pz] 23:=bk1 hW
 have kc:Bk W (w.heap.size+1+1+1+1) #[c] 3:=bk0 hW
 clear hW
 have cd0:=kd.cell 0 rfl
 obtain ⟨cp0,cp1,cp2⟩:=kp.c3
 go_wp2_with fail
 refine (hin.out _).mono ?_
 rintro e1 w1 ⟨rfl,hb⟩
 clear cd0 cp0 cp1 cp2
 replace hB:=hB.trans (hb.mono hB.size)
 replace kr:=kr.later hb
 replace ki:=ki.later hb
 replace kd:=kd.later hb
 replace kp:=kp.later hb
 replace kc:=kc.later hb
 replace hSz:=Nat.le_trans hSz hb.size
 clear hb
 go_wp2_with fail
 go_ret2
 exact ⟨rfl,hB⟩
theorem set_bad (w:World) (sb n:Nat) (hn:n≤12) (id px py pz c:Int) (hI:inB ⟨px,py,pz⟩ (cubeB (2 ^ (n+2)))=true) (hC:decide (0≤c∧c≤255)=false) :
 Calls Tryz.prog 33 #[.pointer (some ⟨sb,0,none⟩),id,.int .i64 ((n:Int)+2),.agg #[px,py,pz],c] w fun e w'=>e=ret2 0 1∧Below w.heap.size w w':=by
 have hin:=fun W=>isIn_any (n+2) (by omega) px py pz W
 have hcell:=fun W=>isCell_any c W
 rw [show ((n+2:Nat):Int)=(n:Int)+2 by omega] at hin
 simp only [hI] at hin
 simp only [hC] at hcell
 replace hin:=Bx.mk hin
 replace hcell:=Bx.mk hcell
 clear hI hC
 go_enter Tryz.func33,Tryz.ntmps33
 go_upto_region 1 with fail
 generalize hW:World.alloc (World.alloc (World.alloc (World.alloc (World.alloc w _) _) _) _) _=W
 have hSz:w.heap.size+1+1+1+1+1≤W.heap.size:=by rw [←hW];simp
 have hB:Below w.heap.size w W:=by rw [←hW];exact (((((Below.refl _ _).alloc (Nat.le_refl _) _).alloc (by simp) _).alloc (by simp;omega) _).alloc (by simp;omega) _).alloc (by simp;omega) _
 have kr:Bk W (w.heap.size) #[.pointer (some ⟨sb,0,none⟩)] 31:=by rw [←hW];exact blk_old (blk_old (blk_old (blk_old (blk_new _ _ _ (by simp)))))
 have ki:Bk W (w.heap.size+1) #[id] 3:=by rw [←hW];exact blk_old (blk_old (blk_old (blk_new _ _ _ (by simp))))
 have kd:Bk W (w.heap.size+1+1) #[.int .i64 ((n:Int)+2)] 3:=bk2 hW
 have kp:Bk W (w.heap.size+1+1+1) #[px,py,pz] 23:=bk1 hW
 have kc:Bk W (w.heap.size+1+1+1+1) #[c] 3:=bk0 hW
 clear hW
 have cd0:=kd.cell 0 rfl
 obtain ⟨cp0,cp1,cp2⟩:=kp.c3
 go_wp2_with fail
 refine (hin.out _).mono ?_
 rintro e1 w1 ⟨rfl,hb⟩
 clear cd0 cp0 cp1 cp2
 replace hB:=hB.trans (hb.mono hB.size)
 replace kr:=kr.later hb
 replace ki:=ki.later hb
 replace kd:=kd.later hb
 replace kp:=kp.later hb
 replace kc:=kc.later hb
 replace hSz:=Nat.le_trans hSz hb.size
 clear hb
 have cc0:=kc.cell 0 rfl
 go_wp2_with fail
 refine (hcell.out _).mono ?_
 rintro e2 w2 ⟨rfl,rfl⟩
 go_wp2_with fail
 go_ret2
 exact ⟨rfl,hB⟩
set_option maxHeartbeats 1000000 in
theorem set_same (w:World) (sb n:Nat) (hn:n≤12) (px py pz c:Int) (hI:inB ⟨px,py,pz⟩ (cubeB (2 ^ (n+2)))=true) (hC:decide (0≤c∧c≤255)=true) (Far:Nat→Prop) (most:Int) (ts:List Tr) (t:Tr) (ht:t∈ts) (hD:Dep n t) (hG:Good ts) (hlen:ts.length≤1000000000000) (hS:StoreIs w Far sb most ts) (hr:(Tr.getT t n ⟨px,py,pz⟩)=c) :
 Calls Tryz.prog 33 #[.pointer (some ⟨sb,0,none⟩),(idT ts t:Int),.int .i64 ((n:Int)+2),.agg #[px,py,pz],c] w fun e w'=>e=ret2 (idT ts t:Int) 0∧Below w.heap.size w w':=by
 have hin:=fun W=>isIn_any (n+2) (by omega) px py pz W
 have hcell:=fun W=>isCell_any c W
 rw [show ((n+2:Nat):Int)=(n:Int)+2 by omega] at hin
 simp only [hI] at hin
 simp only [hC] at hcell
 replace hin:=Bx.mk hin
 replace hcell:=Bx.mk hcell
 have hget:=Bx.mk (fun W (hb:Below w.heap.size w W)=>get_in W Far sb most ts t ht n hn hD hG hlen px py pz hI (hS.later hb))
 simp only [hr] at hget
 clear hI hC hr ht hD hG hlen hS
 generalize (idT ts t:Int)=ii at *
 go_enter Tryz.func33,Tryz.ntmps33
 go_upto_region 1 with fail
 generalize hW:World.alloc (World.alloc (World.alloc (World.alloc (World.alloc w _) _) _) _) _=W
 have hSz:w.heap.size+1+1+1+1+1≤W.heap.size:=by rw [←hW];simp
 have hB:Below w.heap.size w W:=by rw [←hW];exact (((((Below.refl _ _).alloc (Nat.le_refl _) _).alloc (by simp) _).alloc (by simp;omega) _).alloc (by simp;omega) _).alloc (by simp;omega) _
 have kr:Bk W (w.heap.size) #[.pointer (some ⟨sb,0,none⟩)] 31:=by rw [←hW];exact blk_old (blk_old (blk_old (blk_old (blk_new _ _ _ (by simp)))))
 have ki:Bk W (w.heap.size+1) #[ii] 3:=by rw [←hW];exact blk_old (blk_old (blk_old (blk_new _ _ _ (by simp))))
 have kd:Bk W (w.heap.size+1+1) #[.int .i64 ((n:Int)+2)] 3:=bk2 hW
 have kp:Bk W (w.heap.size+1+1+1) #[px,py,pz] 23:=bk1 hW
 have kc:Bk W (w.heap.size+1+1+1+1) #[c] 3:=bk0 hW
 clear hW
 have cd0:=kd.cell 0 rfl
 obtain ⟨cp0,cp1,cp2⟩:=kp.c3
 go_wp2_with fail
 refine (hin.out _).mono ?_
 rintro e1 w1 ⟨rfl,hb⟩
 clear cd0 cp0 cp1 cp2
 replace hB:=hB.trans (hb.mono hB.size)
 replace kr:=kr.later hb
 replace ki:=ki.later hb
 replace kd:=kd.later hb
 replace kp:=kp.later hb
 replace kc:=kc.later hb
 replace hSz:=Nat.le_trans hSz hb.size
 clear hb
 have cc0:=kc.cell 0 rfl
 go_wp2_with fail
 refine (hcell.out _).mono ?_
 rintro e2 w2 ⟨rfl,rfl⟩
 clear cc0
 go_wp2_with fail
 have cr0 : ∀ dk osk,(grow (redrawn w1 dk) osk).cell? ⟨w.heap.size,0,none⟩=some (.pointer (some ⟨sb,0,none⟩)):=cell_regrown (kr.cell 0 rfl)
 have ci0 : ∀ dk osk,(grow (redrawn w1 dk) osk).cell? ⟨w.heap.size+1,0,none⟩=some (.int .i64 ii):=cell_regrown (ki.cell 0 rfl)
 have cd0 : ∀ dk osk,(grow (redrawn w1 dk) osk).cell? ⟨w.heap.size+1+1,0,none⟩=some (.int .i64 ((n:Int)+2)):=cell_regrown (kd.cell 0 rfl)
 obtain ⟨cp0,cp1,cp2⟩:=kp.r3
 have cc0 : ∀ dk osk,(grow (redrawn w1 dk) osk).cell? ⟨w.heap.size+1+1+1+1,0,none⟩=some (.int .i64 c):=cell_regrown (kc.cell 0 rfl)
 have q0:=Bx.mk fun dk osk=>Calls.regrown_of (hget.out (grow (redrawn w1 dk) osk) (hB.trans ((below_regrown w1 dk osk).mono hB.size)))
 refine wp_region_quiet_below (by kernel_rfl) (by kernel_rfl) ?_
 repeat (first | go_big_quiet_step ((first | with_reducible exact q0.out _ _)) | quiet_step (first | with_reducible exact q0.out _ _))
 refine wpQuiet_nil ?_
 rintro _ ⟨⟨dq,osq⟩,rfl⟩
 have hb:=below_regrown w1 dq osq
 clear cr0
 clear ci0
 clear cd0
 clear cp0 cp1 cp2
 clear cc0
 clear q0
 replace hB:=hB.trans (hb.mono hB.size)
 replace kr:=kr.later hb
 replace ki:=ki.later hb
 replace kd:=kd.later hb
 replace kp:=kp.later hb
 replace kc:=kc.later hb
 replace hSz:=Nat.le_trans hSz hb.size
 clear hb
 generalize grow (redrawn w1 dq) osq=w3 at *
 have ci0:=ki.cell 0 rfl
 go_wp2_with fail
 go_ret2
 exact ⟨rfl,hB⟩
theorem in_range {n:Nat} (hn:n≤12) {px py pz:Int} (h:inB ⟨px,py,pz⟩ (cubeB (2 ^ (n+2)))=true):(0≤px∧px≤100000)∧(0≤py∧py≤100000)∧(0≤pz∧pz≤100000):=by
 have hl:=(pow_le (show n+2≤14 by omega)).2
 have:=inB_iff.1 h
 simp only [cubeB,Pt.zero] at this
 omega
set_option maxRecDepth 100000 in
set_option maxHeartbeats 1000000 in
theorem set_new (w:World) (sb n:Nat) (hn:n≤12) (px py pz c:Int) (hI:inB ⟨px,py,pz⟩ (cubeB (2 ^ (n+2)))=true) (hC:decide (0≤c∧c≤255)=true) (Far:Nat→Prop) (most:Int) (ts:List Tr) (t:Tr) (ht:t∈ts) (hD:Dep n t) (hG:Good ts) (hlen:ts.length≤1000000000000) (hS:StoreIs w Far sb most ts) (hr:(Tr.getT t n ⟨px,py,pz⟩) ≠ c) (hlen2:(Tr.add (Tr.setT n t ⟨px,py,pz⟩ c) ts).length≤1000000000000) (hFar : ∀ k,Far k→k<w.heap.size) :
 Calls Tryz.prog 33 #[.pointer (some ⟨sb,0,none⟩),(idT ts t:Int),.int .i64 ((n:Int)+2),.agg #[px,py,pz],c] w (Done Far sb most ts (Tr.add (Tr.setT n t ⟨px,py,pz⟩ c) ts) (Tr.setT n t ⟨px,py,pz⟩ c) w):=by
 have hin:=fun W=>isIn_any (n+2) (by omega) px py pz W
 have hcell:=fun W=>isCell_any c W
 rw [show ((n+2:Nat):Int)=(n:Int)+2 by omega] at hin
 simp only [hI] at hin
 simp only [hC] at hcell
 replace hin:=Bx.mk hin
 replace hcell:=Bx.mk hcell
 have hget:=Bx.mk (fun W (hb:Below w.heap.size w W)=>get_in W Far sb most ts t ht n hn hD hG hlen px py pz hI (hS.later hb))
 have hrc:((Tr.getT t n ⟨px,py,pz⟩) == c)=false:=by simpa using hr
 have hc:0≤c∧c≤255:=by simpa using hC
 obtain ⟨rx,ry,rz⟩:=in_range hn hI
 have hbt:=between_add (Tr.setT n t ⟨px,py,pz⟩ c) hG (wf_set hc ⟨px,py,pz⟩ n t (by omega) (wf_of_good hG _ ht) hD).1
 have HW:=Bx.mk (fun W3 W5 hb pi pd kd ki hn5 HC=>whole_set W5 (fun x=>Far x∨(w.heap.size≤x∧x<W5.heap.size)) sb most ts (Tr.add (Tr.setT n t ⟨px,py,pz⟩ c) ts) (Tr.setT n t ⟨px,py,pz⟩ c) ⟨W3,0,none⟩ ⟨pi,0,none⟩ ⟨pd,0,none⟩ hbt hlen2
  ((hS.widen (fun k hk=>hk.imp id (fun h=>h.1))).later hb)
  (set2_any W5 (fun x=>Far x∨(w.heap.size≤x∧x<W5.heap.size)) w.heap.size (w.heap.size+1+1+1+1) (w.heap.size+1+1+1) W3 sb pi pd c px py pz HC hc rx ry rz most ts t ht n hn hD hG hlen2 (fun k hk=>hk.elim (fun h=>Nat.lt_of_lt_of_le (hFar k h) hn5) (fun h=>h.2)) ((hS.widen (fun k hk=>hk.imp id (fun h=>h.1))).later hb) ki kd))
 clear hI hC hr ht hD hG hlen hS hlen2 hFar hc rx ry rz hbt
 generalize (Tr.setT n t ⟨px,py,pz⟩ c)=T at *
 generalize (Tr.getT t n ⟨px,py,pz⟩)=R at *
 generalize (idT ts t:Int)=ii at *
 go_enter Tryz.func33,Tryz.ntmps33
 go_upto_region 1 with fail
 generalize hW:World.alloc (World.alloc (World.alloc (World.alloc (World.alloc w _) _) _) _) _=W
 have hSz:w.heap.size+1+1+1+1+1≤W.heap.size:=by rw [←hW];simp
 have hB:Below w.heap.size w W:=by rw [←hW];exact (((((Below.refl _ _).alloc (Nat.le_refl _) _).alloc (by simp) _).alloc (by simp;omega) _).alloc (by simp;omega) _).alloc (by simp;omega) _
 have kr:Bk W (w.heap.size) #[.pointer (some ⟨sb,0,none⟩)] 31:=by rw [←hW];exact blk_old (blk_old (blk_old (blk_old (blk_new _ _ _ (by simp)))))
 have ki:Bk W (w.heap.size+1) #[ii] 3:=by rw [←hW];exact blk_old (blk_old (blk_old (blk_new _ _ _ (by simp))))
 have kd:Bk W (w.heap.size+1+1) #[.int .i64 ((n:Int)+2)] 3:=bk2 hW
 have kp:Bk W (w.heap.size+1+1+1) #[px,py,pz] 23:=bk1 hW
 have kc:Bk W (w.heap.size+1+1+1+1) #[c] 3:=bk0 hW
 clear hW
 have cd0:=kd.cell 0 rfl
 obtain ⟨cp0,cp1,cp2⟩:=kp.c3
 go_wp2_with fail
 refine (hin.out _).mono ?_
 rintro e1 w1 ⟨rfl,hb⟩
 clear cd0 cp0 cp1 cp2
 replace hB:=hB.trans (hb.mono hB.size)
 replace kr:=kr.later hb
 replace ki:=ki.later hb
 replace kd:=kd.later hb
 replace kp:=kp.later hb
 replace kc:=kc.later hb
 replace hSz:=Nat.le_trans hSz hb.size
 clear hb
 have cc0:=kc.cell 0 rfl
 go_wp2_with fail
 refine (hcell.out _).mono ?_
 rintro e2 w2 ⟨rfl,rfl⟩
 clear cc0
 go_wp2_with fail
 have cr0 : ∀ dk osk,(grow (redrawn w1 dk) osk).cell? ⟨w.heap.size,0,none⟩=some (.pointer (some ⟨sb,0,none⟩)):=cell_regrown (kr.cell 0 rfl)
 have ci0 : ∀ dk osk,(grow (redrawn w1 dk) osk).cell? ⟨w.heap.size+1,0,none⟩=some (.int .i64 ii):=cell_regrown (ki.cell 0 rfl)
 have cd0 : ∀ dk osk,(grow (redrawn w1 dk) osk).cell? ⟨w.heap.size+1+1,0,none⟩=some (.int .i64 ((n:Int)+2)):=cell_regrown (kd.cell 0 rfl)
 obtain ⟨cp0,cp1,cp2⟩:=kp.r3
 have cc0 : ∀ dk osk,(grow (redrawn w1 dk) osk).cell? ⟨w.heap.size+1+1+1+1,0,none⟩=some (.int .i64 c):=cell_regrown (kc.cell 0 rfl)
 have q0:=Bx.mk fun dk osk=>Calls.regrown_of (hget.out (grow (redrawn w1 dk) osk) (hB.trans ((below_regrown w1 dk osk).mono hB.size)))
 refine wp_region_quiet_below (by kernel_rfl) (by kernel_rfl) ?_
 repeat (first | go_big_quiet_step ((first | with_reducible exact q0.out _ _)) | quiet_step (first | with_reducible exact q0.out _ _))
 refine wpQuiet_nil ?_
 rintro _ ⟨⟨dq,osq⟩,rfl⟩
 have hb:=below_regrown w1 dq osq
 clear cr0
 clear ci0
 clear cd0
 clear cp0 cp1 cp2
 clear cc0
 clear q0
 replace hB:=hB.trans (hb.mono hB.size)
 replace kr:=kr.later hb
 replace ki:=ki.later hb
 replace kd:=kd.later hb
 replace kp:=kp.later hb
 replace kc:=kc.later hb
 replace hSz:=Nat.le_trans hSz hb.size
 clear hb
 generalize grow (redrawn w1 dq) osq=w3 at *
 have crr : ∀ o,(w3.alloc o).cell? ⟨w.heap.size,0,none⟩=some (.pointer (some ⟨sb,0,none⟩)):=fun o=>(kr.alloc o).cell 0 rfl
 go_wp2_with fail
 generalize hW5:World.alloc w3 _=W5
 have hb5:Below w3.heap.size w3 W5:=by rw [←hW5];exact below_lit _ _
 have kb:Bk W5 w3.heap.size #[.func (.func 64) #[] #[.pointer (some ⟨w.heap.size,0,none⟩),.pointer (some ⟨w.heap.size+1+1+1+1,0,none⟩),.pointer (some ⟨w.heap.size+1+1+1,0,none⟩),.pointer (some ⟨w3.heap.size,0,none⟩)]] 81:=bk0 hW5 rfl
 have hs5:W5.heap.size=w3.heap.size+1:=by rw [←hW5];simp
 have hB5:=Bx.mk (hB.trans (hb5.mono hB.size))
 have HC:Bx (SCtx W5 (fun x=>Far x∨(w.heap.size≤x∧x<W5.heap.size)) w.heap.size (w.heap.size+1+1+1+1) (w.heap.size+1+1+1) w3.heap.size sb c px py pz):=⟨⟨kr.later hb5,kc.later hb5,kp.later hb5,kb,.inr ⟨by omega,by omega⟩,.inr ⟨by omega,by omega⟩,.inr ⟨by omega,by omega⟩,.inr ⟨by omega,by omega⟩⟩⟩
 have kd5:=Bx.mk (kd.later hb5)
 have ki5:=Bx.mk (ki.later hb5)
 clear hW5 kb hb5 crr kr kc kp kd ki
 refine (HW.out _ W5 hB5.out _ _ kd5.out ki5.out hB5.out.size HC.out).mono ?_
 rintro e9 w9 hg
 have Hg:=Bx.mk (hg.since (Far:=Far) hB5.out (fun k hk=>.inl hk))
 obtain ⟨-,-,(⟨hf,rfl,hs⟩ | ⟨hf,rfl,hs⟩)⟩:=hg
 all_goals
  clear hf hs
  go_wp2_with fail
  go_ret2
  exact Hg.out
end
section
open Go.RowKit Go.Sort Go.Maps
open Oct
theorem MapFn.same {w w':World} {b n:Nat} {f:Value→Option Int} (h:MapFn w b n f) (hk:w'.heap[b]? = w.heap[b]?):MapFn w' b n f:=by
 obtain ⟨D,⟨es,clock,hb,F,hs,hd⟩,h2,h3⟩:=h
 exact ⟨D,⟨es,clock,hk.trans hb,F,hs,hd⟩,h2,h3⟩
theorem ownsRow_same {w w':World} {B:Nat} {e:TypeId} {sz:Nat} {v:Value} {n:Nat} {xs:List Value} (h:w.ownsRow B e sz v n xs) (hk : ∀ g,v.ownBlock=some g→w'.heap[g]? = w.heap[g]?):w'.ownsRow B e sz v n xs:=by
 refine ⟨h.1,h.2.imp id ?_⟩
 rintro ⟨g,cap,cur,rfl,h2,h3,h4⟩
 exact ⟨g,cap,cur,rfl,h2,(hk g rfl).trans h3,h4⟩
theorem StoreIs.other {w w':World} {Far Far':Nat→Prop} {sb:Nat} {most:Int} {ts:List Tr} (h:StoreIs w Far' sb most ts) (hk:Keeps Far w w') (hf : ∀ k,¬Far' k→k<w.heap.size→Far k):StoreIs w' Far' sb most ts:=by
 obtain ⟨mb,nv,h1,h2,h3,P⟩:=h.parts
 have hb : ∀ k,¬Far' k→k<w.heap.size→w'.heap[k]? = w.heap[k]? := fun k h4 h5=>hk.block k (hf k h4 h5) h5
 refine StoreIs.of ((hb sb P.fs h1.lt).trans h1) (ownsRow_same h2 (fun g hg=>hb g (P.fn g hg) (World.ownsRow.lt h2 g hg).2)) (h3.same (hb mb P.fm h3.lt)) P
theorem Grew.fit {Far:Nat→Prop} {sb:Nat} {most:Int} {ts ts':List Tr} {t:Tr} {w w':World} {e:Ending} (h:Grew Far sb most ts ts' t w e w') (hf:Tr.Fits most ts ts'):e=ret2 (idT ts' t:Int) 0∧StoreIs w' Far sb most ts'∧Keeps Far w w':=by
 rcases h.way with ⟨_,h2,h3⟩ | ⟨h1,_⟩
 · exact ⟨h2,h3,h.keeps⟩
 · exact absurd hf h1
theorem Done.fit {Far:Nat→Prop} {sb:Nat} {most:Int} {ts ts':List Tr} {t:Tr} {w w':World} {e:Ending} (h:Done Far sb most ts ts' t w e w') (hf:Tr.Fits most ts ts'):e=ret2 (idT ts' t:Int) 0∧StoreIs w' Far sb most ts'∧Keeps Far w w':=by
 rcases h.way with ⟨_,h2,h3⟩ | ⟨h1,_⟩
 · exact ⟨h2,h3,h.keeps⟩
 · exact absurd hf h1
theorem below_of_keeps {w w1 w2:World} {Far:Nat→Prop} (hb:Below w.heap.size w w1) (hk:Keeps Far w1 w2) (hf : ∀ k,k<w.heap.size→Far k):Below w.heap.size w w2 :=
 ⟨hk.os.trans hb.os,hk.tape.trans hb.tape,hk.output.trans hb.output,Nat.le_trans hb.size hk.size,fun k h=>(hk.block k (hf k h) (Nat.lt_of_lt_of_le h hb.size)).trans (hb.block k h)⟩
end
section
open Go.RowKit Go.Sort Go.Maps
open Oct
set_option maxHeartbeats 1000000 in
theorem ref_in (px py pz a b c d e f:Int) (w:World) :
 Calls Tryz.prog 26 #[.agg #[px,py,pz],.agg #[a,b,c,d,e,f]] w fun e' w'=>e' = .returned (.bool (inB ⟨px,py,pz⟩ ⟨⟨a,b,c⟩,⟨d,e,f⟩⟩))∧Below w.heap.size w w':=by
 go_enter Tryz.func26,Tryz.ntmps26
 go_wp2_with fail
 all_goals
  go_ret
  exact ⟨ret_bool (by rw [Bool.eq_iff_iff];simp [inB];omega),((Below.refl _ _).alloc (Nat.le_refl _) _).alloc (by simp) _⟩
theorem ref_empty (a b c d e f:Int) (w:World) :
 Calls Tryz.prog 91 #[.agg #[a,b,c,d,e,f]] w fun e' w'=>e' = .returned (.bool (emptyB ⟨⟨a,b,c⟩,⟨d,e,f⟩⟩))∧Below w.heap.size w w':=by
 go_enter Tryz.func91,Tryz.ntmps91
 go_wp2_with fail
 all_goals
  go_ret
  exact ⟨ret_bool (by rw [Bool.eq_iff_iff];simp [emptyB,inB];omega),(Below.refl _ _).alloc (Nat.le_refl _) _⟩
theorem ref_sub (px py pz qx qy qz:Int) (h1 : -4000000000≤px∧px≤4000000000) (h2 : -4000000000≤py∧py≤4000000000) (h3 : -4000000000≤pz∧pz≤4000000000) (h4 : -4000000000≤qx∧qx≤4000000000) (h5 : -4000000000≤qy∧qy≤4000000000) (h6 : -4000000000≤qz∧qz≤4000000000) (w:World) :
 Calls Tryz.prog 114 #[.agg #[px,py,pz],.agg #[qx,qy,qz]] w fun e' w'=>e' = .returned (.agg #[.int .i64 (px - qx),.int .i64 (py - qy),.int .i64 (pz - qz)])∧Below w.heap.size w w':=by
 obtain ⟨a1,a2⟩:=h1
 obtain ⟨a3,a4⟩:=h2
 obtain ⟨a5,a6⟩:=h3
 obtain ⟨b1,b2⟩:=h4
 obtain ⟨b3,b4⟩:=h5
 obtain ⟨b5,b6⟩:=h6
 go_enter Tryz.func114,Tryz.ntmps114
 go_wp2_with fail
 generalize hW:World.alloc (World.alloc (World.alloc w _) _) _=W
 have hB:=bl3 hW
 have kr:Bk W (w.heap.size+1+1) #[.int .i64 (px - qx),.int .i64 (py - qy),.int .i64 (pz - qz)] 23:=bk0 hW
 clear hW
 exact bodyPost_ret (v:=.agg #[.int .i64 (px - qx),.int .i64 (py - qy),.int .i64 (pz - qz)]) (results_cell_row rfl _ _ _ 23 #[.int .i64 (px - qx),.int .i64 (py - qy),.int .i64 (pz - qz)] (0,0) _ rfl kr Tryz.underlying23 rfl (by kernel_rfl)) rfl ⟨rfl,hB⟩
theorem ref_add (px py pz qx qy qz:Int) (h1 : -4000000000≤px∧px≤4000000000) (h2 : -4000000000≤py∧py≤4000000000) (h3 : -4000000000≤pz∧pz≤4000000000) (h4 : -4000000000≤qx∧qx≤4000000000) (h5 : -4000000000≤qy∧qy≤4000000000) (h6 : -4000000000≤qz∧qz≤4000000000) (w:World) :
 Calls Tryz.prog 29 #[.agg #[px,py,pz],.agg #[qx,qy,qz]] w fun e' w'=>e' = .returned (.agg #[.int .i64 (px+qx),.int .i64 (py+qy),.int .i64 (pz+qz)])∧Below w.heap.size w w':=by
 obtain ⟨a1,a2⟩:=h1
 obtain ⟨a3,a4⟩:=h2
 obtain ⟨a5,a6⟩:=h3
 obtain ⟨b1,b2⟩:=h4
 obtain ⟨b3,b4⟩:=h5
 obtain ⟨b5,b6⟩:=h6
 go_enter Tryz.func29,Tryz.ntmps29
 go_wp2_with fail
 generalize hW:World.alloc (World.alloc (World.alloc w _) _) _=W
 have hB:=bl3 hW
 have kr:Bk W (w.heap.size+1+1) #[.int .i64 (px+qx),.int .i64 (py+qy),.int .i64 (pz+qz)] 23:=bk0 hW
 clear hW
 exact bodyPost_ret (v:=.agg #[.int .i64 (px+qx),.int .i64 (py+qy),.int .i64 (pz+qz)]) (results_cell_row rfl _ _ _ 23 #[.int .i64 (px+qx),.int .i64 (py+qy),.int .i64 (pz+qz)] (0,0) _ rfl kr Tryz.underlying23 rfl (by kernel_rfl)) rfl ⟨rfl,hB⟩
theorem ref_size (a b c d e f:Int) (hS:Small ⟨⟨a,b,c⟩,⟨d,e,f⟩⟩ 1048575) (he:emptyB ⟨⟨a,b,c⟩,⟨d,e,f⟩⟩=false) (w:World) :
 Calls Tryz.prog 113 #[.agg #[a,b,c,d,e,f]] w fun e' w'=>e' = .returned (.agg #[.int .i64 (d - a),.int .i64 (e - b),.int .i64 (f - c)])∧Below w.heap.size w w':=by
 obtain ⟨s1,s2,s3,s4,s5,s6⟩:=hS
 simp only [] at s1 s2 s3 s4 s5 s6
 have hem:=Bx.mk (fun W=>ref_empty a b c d e f W)
 have he2:=emptyB_iff.1 he
 simp only [] at he2
 have hsub:=Bx.mk (fun W=>ref_sub d e f a b c (by omega) (by omega) (by omega) (by omega) (by omega) (by omega) W)
 rw [he] at hem
 clear s1 s2 s3 s4 s5 s6 he he2
 go_enter Tryz.func113,Tryz.ntmps113
 go_wp2_with fail
 generalize hW:World.alloc (World.alloc w _) _=W
 have hSz:=sz2 hW
 have hB:=bl2 hW
 have kb:Bk W (w.heap.size) #[a,b,c,d,e,f] 25:=bk1 hW
 have kr:Bk W (w.heap.size+1) #[(0:Int),(0:Int),(0:Int)] 23:=bk0 hW
 clear hW
 refine (hem.out _).mono ?_
 rintro e1 w1 ⟨rfl,hb⟩
 replace hB:=hB.trans (hb.mono hB.size)
 replace kb:=kb.later hb
 replace kr:=kr.later hb
 replace hSz:=Nat.le_trans hSz hb.size
 clear hb
 obtain ⟨cb0,cb1,cb2,cb3,cb4,cb5⟩:=kb.c6
 go_wp2_with fail
 refine (hsub.out _).mono ?_
 rintro e2 w2 ⟨rfl,hb⟩
 clear cb0 cb1 cb2 cb3 cb4 cb5
 replace hB:=hB.trans (hb.mono hB.size)
 replace kb:=kb.later hb
 replace kr:=kr.later hb
 replace hSz:=Nat.le_trans hSz hb.size
 clear hb
 obtain ⟨cr0,cr1,cr2⟩:=kr.c3
 obtain ⟨fr0,fr1,fr2⟩:=kr.f3
 go_wp2_with fail
 replace kr:=kr.put3 (.int .i64 (d - a)) (.int .i64 (e - b)) (.int .i64 (f - c))
 exact bodyPost_ret (v:=.agg #[.int .i64 (d - a),.int .i64 (e - b),.int .i64 (f - c)]) (results_cell_row rfl _ _ _ 23 #[.int .i64 (d - a),.int .i64 (e - b),.int .i64 (f - c)] (0,0) _ rfl kr Tryz.underlying23 rfl (by kernel_rfl)) rfl ⟨rfl,blw3 hB (by omega) _ _ _⟩
theorem ref_size0 (a b c d e f:Int) (he:emptyB ⟨⟨a,b,c⟩,⟨d,e,f⟩⟩=true) (w:World) :
 Calls Tryz.prog 113 #[.agg #[a,b,c,d,e,f]] w fun e' w'=>e' = .returned (.agg #[(0:Int),(0:Int),(0:Int)])∧Below w.heap.size w w':=by
 have hem:=Bx.mk (fun W=>ref_empty a b c d e f W)
 rw [he] at hem
 clear he
 go_enter Tryz.func113,Tryz.ntmps113
 go_wp2_with fail
 generalize hW:World.alloc (World.alloc w _) _=W
 have hSz:=sz2 hW
 have hB:=bl2 hW
 have kb:Bk W (w.heap.size) #[a,b,c,d,e,f] 25:=bk1 hW
 have kr:Bk W (w.heap.size+1) #[(0:Int),(0:Int),(0:Int)] 23:=bk0 hW
 clear hW
 refine (hem.out _).mono ?_
 rintro e1 w1 ⟨rfl,hb⟩
 replace hB:=hB.trans (hb.mono hB.size)
 replace kb:=kb.later hb
 replace kr:=kr.later hb
 replace hSz:=Nat.le_trans hSz hb.size
 clear hb
 obtain ⟨cr0,cr1,cr2⟩:=kr.c3
 obtain ⟨fr0,fr1,fr2⟩:=kr.f3
 go_wp2_with fail
 replace kr:=kr.put3 (.int .i64 0) (.int .i64 0) (.int .i64 0)
 exact bodyPost_ret (v:=.agg #[(0:Int),(0:Int),(0:Int)]) (results_cell_row rfl _ _ _ 23 #[(0:Int),(0:Int),(0:Int)] (0,0) _ rfl kr Tryz.underlying23 rfl (by kernel_rfl)) rfl ⟨rfl,blw3 hB (by omega) _ _ _⟩
end
end Go.Proofs.YtgnfgblkpnfcnaaGreatDoor
