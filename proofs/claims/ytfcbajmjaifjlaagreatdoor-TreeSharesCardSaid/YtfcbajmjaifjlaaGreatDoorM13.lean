/- Set3, Prt, SanP, Ref, Ref2: joined by program, for one claim. -/
import Derived.Test.YtfcbajmjaifjlaaGreatDoorM12
set_option maxHeartbeats 1000000
set_option maxRecDepth 100000
set_option linter.unusedVariables false
set_option linter.unusedSimpArgs false
namespace Go.Proofs.YtfcbajmjaifjlaaGreatDoor
section
open Go.RowKit Go.Sort Go.Maps
open Oct
theorem zM8 (ps pc pp pb sb:Nat) (c px py pz:Int) (hc:0≤c∧c≤255) (hx:0≤px∧px≤100000) (hy:0≤py∧py≤100000) (hz:0≤pz∧pz≤100000) (most:Int) (ts:List Tr) (hG:Good ts) : ∀ (n:Nat),n≤12 → ∀ (w:World) (Far:Nat→Prop) (_HC:Bx (SCtx w Far ps pc pp pb sb c px py pz)) (t:Tr) (_ht:t∈ts) (_hD:Dep n t) (_hlen:(Tr.add (Tr.setT n t ⟨px,py,pz⟩ c) ts).length≤1000000000000) (_hFar : ∀ k,Far k→k<w.heap.size) (_hS:StoreIs w Far sb most ts),
 Calls Tryz.prog 45 #[(idT ts t:Int),.int .i64 ((n:Int)+2),.pointer (some ⟨ps,0,none⟩),.pointer (some ⟨pc,0,none⟩),.pointer (some ⟨pp,0,none⟩),.pointer (some ⟨pb,0,none⟩)] w (Grew Far sb most ts (Tr.add (Tr.setT n t ⟨px,py,pz⟩ c) ts) (Tr.setT n t ⟨px,py,pz⟩ c) w):=by
 intro n
 induction n with
 | zero =>
   intro hn w Far HC t ht hD hlen hFar hS;have hl:=Nat.le_trans (Tr.add_prefix (Tr.setT 0 t ⟨px,py,pz⟩ c) ts).length_le hlen;rw [show (((0:Nat):Int)+2)=2 by decide]
   rcases zL8 hD with ⟨c0,rfl⟩ | ⟨l,rfl⟩
   · exact zLF w Far ps pc pp pb sb c px py pz HC hc hx hy hz c0 most ts ht hG hl hFar hS
   · exact zHs w Far ps pc pp pb sb c px py pz HC hc hx hy hz l most ts ht hG hl hFar hS
 | succ n ih =>
   intro hn w Far HC t ht hD hlen hFar hS;rw [show (((n+1:Nat):Int)+2)=(n:Int)+3 by omega]
   have key : ∀ (tt:Tr),tt∈ts→Dep (n+1) tt→(Tr.add (Tr.setT (n+1) tt ⟨px,py,pz⟩ c) ts).length≤1000000000000→Bx (∀ (W:World) (Far':Nat→Prop),SCtx W Far' ps pc pp pb sb c px py pz→(∀ k,Far' k→k<W.heap.size)→StoreIs W Far' sb most ts→Calls Tryz.prog 45 #[.int .i64 (idT ts (Tr.kid tt (Tr.oct n ⟨px,py,pz⟩)):Int),.int .i64 ((n:Int)+2),.pointer (some ⟨ps,0,none⟩),.pointer (some ⟨pc,0,none⟩),.pointer (some ⟨pp,0,none⟩),.pointer (some ⟨pb,0,none⟩)] W (Grew Far' sb most ts (Tr.add (Tr.setT n (Tr.kid tt (Tr.oct n ⟨px,py,pz⟩)) ⟨px,py,pz⟩ c) ts) (Tr.setT n (Tr.kid tt (Tr.oct n ⟨px,py,pz⟩)) ⟨px,py,pz⟩ c) W)):=fun tt htt hDt hlt=>⟨fun W Far' hC hF hSt=>by
    refine ih (by omega) W Far' ⟨hC⟩ _ (zB0 hG htt _) (hDt.kid _) ?_ hF hSt
    have h1:=(zAU (d:=n+3) (ch:=chS n tt ⟨px,py,pz⟩ c) hG).length_le;rw [zDI hG htt,←zAz] at h1;omega⟩
   cases hD with
   | uni _ c0=>exact zM7 w Far ps pc pp pb sb c px py pz HC hc hx hy hz c0 n (by omega) most ts ht (fun i=>Dep.uni _ _) hG hlen hFar hS (key _ ht (Dep.uni _ _) hlen)
   | node _ ch hch=>exact zLC w Far ps pc pp pb sb c px py pz HC hc hx hy hz ch n (by omega) most ts ht (fun i=>hch i) hG hlen hFar hS (key _ ht (Dep.node n ch hch) hlen)
theorem zLE (w:World) (Far:Nat→Prop) (ps pc pp pb sb pi pd:Nat) (c px py pz:Int) (HC:SCtx w Far ps pc pp pb sb c px py pz) (hc:0≤c∧c≤255) (hx:0≤px∧px≤100000) (hy:0≤py∧py≤100000) (hz:0≤pz∧pz≤100000) (most:Int) (ts:List Tr) (t:Tr) (ht:t∈ts) (n:Nat) (hn:n≤12) (hD:Dep n t) (hG:Good ts) (hlen:(Tr.add (Tr.setT n t ⟨px,py,pz⟩ c) ts).length≤1000000000000) (hFar : ∀ k,Far k→k<w.heap.size) (hS:StoreIs w Far sb most ts)
 (ki:Bk w pi #[(idT ts t:Int)] 3) (kd:Bk w pd #[.int .i64 ((n:Int)+2)] 3) :
 Calls Tryz.prog 53 #[.pointer (some ⟨pb,0,none⟩),.pointer (some ⟨pi,0,none⟩),.pointer (some ⟨pd,0,none⟩)] w (Grew Far sb most ts (Tr.add (Tr.setT n t ⟨px,py,pz⟩ c) ts) (Tr.setT n t ⟨px,py,pz⟩ c) w):=by
 have hb:=Bx.mk (zM8 ps pc pp pb sb c px py pz hc hx hy hz most ts hG n hn w Far ⟨HC⟩ t ht hD hlen hFar hS);have ci:=ki.cell 0 rfl;have cd:=kd.cell 0 rfl;have cb:=HC.kb.cell 0 rfl;clear kd ki hlen hG hFar hS hD ht HC hc hx hy hz;generalize (Tr.setT n t ⟨px,py,pz⟩ c)=T at *;generalize (idT ts t:Int)=ii at *;go_enter Tryz.func53,Tryz.ntmps53;go_wp2_with fail;refine hb.out.mono ?_;rintro e w1 hg;have Hg:=Bx.mk hg;obtain ⟨-,-,(⟨hf,rfl,hs⟩ | ⟨hf,rfl,us,hs⟩)⟩:=hg
 all_goals
  clear hf hs;go_wp2_with fail
  go_ret2
  exact Hg.out
theorem zLB (w:World) (sb n:Nat) (hn:n≤12) (px py pz c:Int) (hI:inB ⟨px,py,pz⟩ (zy (2 ^ (n+2)))=true) (hC:decide (0≤c∧c≤255)=true) (Far:Nat→Prop) (most:Int) (ts:List Tr) (t:Tr) (ht:t∈ts) (hD:Dep n t) (hG:Good ts) (hlen:ts.length≤1000000000000) (hS:StoreIs w Far sb most ts) (hr:(Tr.getT t n ⟨px,py,pz⟩)=c) :
 Calls Tryz.prog 11 #[.pointer (some ⟨sb,0,none⟩),(idT ts t:Int),.int .i64 ((n:Int)+2),.agg #[px,py,pz],c] w fun e w'=>e=zAv (idT ts t:Int) 0∧Below w.heap.size w w':=by
 have hin:=fun W=>zA2 (n+2) (by omega) px py pz W
 have hcell:=fun W=>zBk c W;rw [show ((n+2:Nat):Int)=(n:Int)+2 by omega] at hin
 simp only [hI] at hin;simp only [hC] at hcell;replace hin:=Bx.mk hin;replace hcell:=Bx.mk hcell;have hget:=Bx.mk (fun W (hb:Below w.heap.size w W)=>zJ3 W Far sb most ts t ht n hn hD hG hlen px py pz hI (hS.later hb));simp only [hr] at hget;clear hI hC hr ht hD hG hlen hS;generalize (idT ts t:Int)=ii at *;go_enter Tryz.func11,Tryz.ntmps11;go_upto_region 1 with fail;generalize hW:World.alloc (World.alloc (World.alloc (World.alloc (World.alloc w _) _) _) _) _=W;have hSz:w.heap.size+1+1+1+1+1≤W.heap.size:=by rw [←hW];simp
 have hB:Below w.heap.size w W:=by rw [←hW];exact (((((Below.refl _ _).alloc (Nat.le_refl _) _).alloc (by simp) _).alloc (by simp;omega) _).alloc (by simp;omega) _).alloc (by simp;omega) _
 have kr:Bk W (w.heap.size) #[.pointer (some ⟨sb,0,none⟩)] 33:=by rw [←hW];exact zB (zB (zB (zB (zI _ _ _ (by simp)))))
 have ki:Bk W (w.heap.size+1) #[ii] 3:=by rw [←hW];exact zB (zB (zB (zI _ _ _ (by simp))))
 have kd:Bk W (w.heap.size+1+1) #[.int .i64 ((n:Int)+2)] 3:=bk2 hW;have kp:Bk W (w.heap.size+1+1+1) #[px,py,pz] 23:=bk1 hW;have kc:Bk W (w.heap.size+1+1+1+1) #[c] 3:=bk0 hW;clear hW;have cd0:=kd.cell 0 rfl;obtain ⟨cp0,cp1,cp2⟩:=kp.c3;go_wp2_with fail;refine (hin.out _).mono ?_;rintro e1 w1 ⟨rfl,hb⟩;clear cd0 cp0 cp1 cp2;replace hB:=hB.trans (hb.mono hB.size);replace kr:=kr.later hb;replace ki:=ki.later hb;replace kd:=kd.later hb;replace kp:=kp.later hb;replace kc:=kc.later hb;replace hSz:=Nat.le_trans hSz hb.size;clear hb;have cc0:=kc.cell 0 rfl;go_wp2_with fail;refine (hcell.out _).mono ?_;rintro e2 w2 ⟨rfl,rfl⟩;clear cc0;go_wp2_with fail;have cr0 : ∀ dk osk,(grow (redrawn w1 dk) osk).cell? ⟨w.heap.size,0,none⟩=some (.pointer (some ⟨sb,0,none⟩)):=cell_regrown (kr.cell 0 rfl);have ci0 : ∀ dk osk,(grow (redrawn w1 dk) osk).cell? ⟨w.heap.size+1,0,none⟩=some (.int .i64 ii):=cell_regrown (ki.cell 0 rfl);have cd0 : ∀ dk osk,(grow (redrawn w1 dk) osk).cell? ⟨w.heap.size+1+1,0,none⟩=some (.int .i64 ((n:Int)+2)):=cell_regrown (kd.cell 0 rfl);obtain ⟨cp0,cp1,cp2⟩:=kp.r3;have cc0 : ∀ dk osk,(grow (redrawn w1 dk) osk).cell? ⟨w.heap.size+1+1+1+1,0,none⟩=some (.int .i64 c):=cell_regrown (kc.cell 0 rfl);have q0:=Bx.mk fun dk osk=>Calls.regrown_of (hget.out (grow (redrawn w1 dk) osk) (hB.trans ((below_regrown w1 dk osk).mono hB.size)));refine wp_region_quiet_below (by kernel_rfl) (by kernel_rfl) ?_
 repeat (first | go_big_quiet_step ((first | with_reducible exact q0.out _ _)) | quiet_step (first | with_reducible exact q0.out _ _))
 refine wpQuiet_nil ?_;rintro _ ⟨⟨dq,osq⟩,rfl⟩;have hb:=below_regrown w1 dq osq;clear cr0;clear ci0;clear cd0;clear cp0 cp1 cp2;clear cc0;clear q0;replace hB:=hB.trans (hb.mono hB.size);replace kr:=kr.later hb;replace ki:=ki.later hb;replace kd:=kd.later hb;replace kp:=kp.later hb;replace kc:=kc.later hb;replace hSz:=Nat.le_trans hSz hb.size;clear hb;generalize grow (redrawn w1 dq) osq=w3 at *;have ci0:=ki.cell 0 rfl;go_wp2_with fail
 go_ret2
 exact ⟨rfl,hB⟩
theorem zHF {n:Nat} (hn:n≤12) {px py pz:Int} (h:inB ⟨px,py,pz⟩ (zy (2 ^ (n+2)))=true):(0≤px∧px≤100000)∧(0≤py∧py≤100000)∧(0≤pz∧pz≤100000):=by
 have hl:=(zV (show n+2≤14 by omega)).2
 have:=zX.1 h;simp only [zy,Pt.zero] at this;omega
theorem zM9 (w:World) (sb n:Nat) (hn:n≤12) (px py pz c:Int) (hI:inB ⟨px,py,pz⟩ (zy (2 ^ (n+2)))=true) (hC:decide (0≤c∧c≤255)=true) (Far:Nat→Prop) (most:Int) (ts:List Tr) (t:Tr) (ht:t∈ts) (hD:Dep n t) (hG:Good ts) (hlen:ts.length≤1000000000000) (hS:StoreIs w Far sb most ts) (hr:(Tr.getT t n ⟨px,py,pz⟩) ≠ c) (hlen2:(Tr.add (Tr.setT n t ⟨px,py,pz⟩ c) ts).length≤1000000000000) (hFar : ∀ k,Far k→k<w.heap.size) :
 Calls Tryz.prog 11 #[.pointer (some ⟨sb,0,none⟩),(idT ts t:Int),.int .i64 ((n:Int)+2),.agg #[px,py,pz],c] w (Done Far sb most ts (Tr.add (Tr.setT n t ⟨px,py,pz⟩ c) ts) (Tr.setT n t ⟨px,py,pz⟩ c) w):=by
 have hin:=fun W=>zA2 (n+2) (by omega) px py pz W
 have hcell:=fun W=>zBk c W;rw [show ((n+2:Nat):Int)=(n:Int)+2 by omega] at hin
 simp only [hI] at hin;simp only [hC] at hcell;replace hin:=Bx.mk hin;replace hcell:=Bx.mk hcell;have hget:=Bx.mk (fun W (hb:Below w.heap.size w W)=>zJ3 W Far sb most ts t ht n hn hD hG hlen px py pz hI (hS.later hb));have hrc:((Tr.getT t n ⟨px,py,pz⟩) == c)=false:=by simpa using hr
 have hc:0≤c∧c≤255:=by simpa using hC
 obtain ⟨rx,ry,rz⟩:=zHF hn hI;have hbt:=zBN (Tr.setT n t ⟨px,py,pz⟩ c) hG (zD7 hc ⟨px,py,pz⟩ n t (by omega) (zCV hG _ ht) hD).1
 have HW:=Bx.mk (fun W3 W5 hb pi pd kd ki hn5 HC=>zIx W5 (fun x=>Far x∨(w.heap.size≤x∧x<W5.heap.size)) sb most ts (Tr.add (Tr.setT n t ⟨px,py,pz⟩ c) ts) (Tr.setT n t ⟨px,py,pz⟩ c) ⟨W3,0,none⟩ ⟨pi,0,none⟩ ⟨pd,0,none⟩ hbt hlen2
  ((hS.widen (fun k hk=>hk.imp id (fun h=>h.1))).later hb)
  (zLE W5 (fun x=>Far x∨(w.heap.size≤x∧x<W5.heap.size)) w.heap.size (w.heap.size+1+1+1+1) (w.heap.size+1+1+1) W3 sb pi pd c px py pz HC hc rx ry rz most ts t ht n hn hD hG hlen2 (fun k hk=>hk.elim (fun h=>Nat.lt_of_lt_of_le (hFar k h) hn5) (fun h=>h.2)) ((hS.widen (fun k hk=>hk.imp id (fun h=>h.1))).later hb) ki kd))
 clear hI hC hr ht hD hG hlen hS hlen2 hFar hc rx ry rz hbt;generalize (Tr.setT n t ⟨px,py,pz⟩ c)=T at *;generalize (Tr.getT t n ⟨px,py,pz⟩)=R at *;generalize (idT ts t:Int)=ii at *;go_enter Tryz.func11,Tryz.ntmps11;go_upto_region 1 with fail;generalize hW:World.alloc (World.alloc (World.alloc (World.alloc (World.alloc w _) _) _) _) _=W;have hSz:w.heap.size+1+1+1+1+1≤W.heap.size:=by rw [←hW];simp
 have hB:Below w.heap.size w W:=by rw [←hW];exact (((((Below.refl _ _).alloc (Nat.le_refl _) _).alloc (by simp) _).alloc (by simp;omega) _).alloc (by simp;omega) _).alloc (by simp;omega) _
 have kr:Bk W (w.heap.size) #[.pointer (some ⟨sb,0,none⟩)] 33:=by rw [←hW];exact zB (zB (zB (zB (zI _ _ _ (by simp)))))
 have ki:Bk W (w.heap.size+1) #[ii] 3:=by rw [←hW];exact zB (zB (zB (zI _ _ _ (by simp))))
 have kd:Bk W (w.heap.size+1+1) #[.int .i64 ((n:Int)+2)] 3:=bk2 hW;have kp:Bk W (w.heap.size+1+1+1) #[px,py,pz] 23:=bk1 hW;have kc:Bk W (w.heap.size+1+1+1+1) #[c] 3:=bk0 hW;clear hW;have cd0:=kd.cell 0 rfl;obtain ⟨cp0,cp1,cp2⟩:=kp.c3;go_wp2_with fail;refine (hin.out _).mono ?_;rintro e1 w1 ⟨rfl,hb⟩;clear cd0 cp0 cp1 cp2;replace hB:=hB.trans (hb.mono hB.size);replace kr:=kr.later hb;replace ki:=ki.later hb;replace kd:=kd.later hb;replace kp:=kp.later hb;replace kc:=kc.later hb;replace hSz:=Nat.le_trans hSz hb.size;clear hb;have cc0:=kc.cell 0 rfl;go_wp2_with fail;refine (hcell.out _).mono ?_;rintro e2 w2 ⟨rfl,rfl⟩;clear cc0;go_wp2_with fail;have cr0 : ∀ dk osk,(grow (redrawn w1 dk) osk).cell? ⟨w.heap.size,0,none⟩=some (.pointer (some ⟨sb,0,none⟩)):=cell_regrown (kr.cell 0 rfl);have ci0 : ∀ dk osk,(grow (redrawn w1 dk) osk).cell? ⟨w.heap.size+1,0,none⟩=some (.int .i64 ii):=cell_regrown (ki.cell 0 rfl);have cd0 : ∀ dk osk,(grow (redrawn w1 dk) osk).cell? ⟨w.heap.size+1+1,0,none⟩=some (.int .i64 ((n:Int)+2)):=cell_regrown (kd.cell 0 rfl);obtain ⟨cp0,cp1,cp2⟩:=kp.r3;have cc0 : ∀ dk osk,(grow (redrawn w1 dk) osk).cell? ⟨w.heap.size+1+1+1+1,0,none⟩=some (.int .i64 c):=cell_regrown (kc.cell 0 rfl);have q0:=Bx.mk fun dk osk=>Calls.regrown_of (hget.out (grow (redrawn w1 dk) osk) (hB.trans ((below_regrown w1 dk osk).mono hB.size)));refine wp_region_quiet_below (by kernel_rfl) (by kernel_rfl) ?_
 repeat (first | go_big_quiet_step ((first | with_reducible exact q0.out _ _)) | quiet_step (first | with_reducible exact q0.out _ _))
 refine wpQuiet_nil ?_;rintro _ ⟨⟨dq,osq⟩,rfl⟩;have hb:=below_regrown w1 dq osq;clear cr0;clear ci0;clear cd0;clear cp0 cp1 cp2;clear cc0;clear q0;replace hB:=hB.trans (hb.mono hB.size);replace kr:=kr.later hb;replace ki:=ki.later hb;replace kd:=kd.later hb;replace kp:=kp.later hb;replace kc:=kc.later hb;replace hSz:=Nat.le_trans hSz hb.size;clear hb;generalize grow (redrawn w1 dq) osq=w3 at *;have crr : ∀ o,(w3.alloc o).cell? ⟨w.heap.size,0,none⟩=some (.pointer (some ⟨sb,0,none⟩)):=fun o=>(kr.alloc o).cell 0 rfl;go_wp2_with fail;generalize hW5:World.alloc w3 _=W5;have hb5:Below w3.heap.size w3 W5:=by rw [←hW5];exact zW _ _
 have kb:Bk W5 w3.heap.size #[.func (.func 45) #[] #[.pointer (some ⟨w.heap.size,0,none⟩),.pointer (some ⟨w.heap.size+1+1+1+1,0,none⟩),.pointer (some ⟨w.heap.size+1+1+1,0,none⟩),.pointer (some ⟨w3.heap.size,0,none⟩)]] 93:=bk0 hW5 rfl;have hs5:W5.heap.size=w3.heap.size+1:=by rw [←hW5];simp
 have hB5:=Bx.mk (hB.trans (hb5.mono hB.size));have HC:Bx (SCtx W5 (fun x=>Far x∨(w.heap.size≤x∧x<W5.heap.size)) w.heap.size (w.heap.size+1+1+1+1) (w.heap.size+1+1+1) w3.heap.size sb c px py pz):=⟨⟨kr.later hb5,kc.later hb5,kp.later hb5,kb,.inr ⟨by omega,by omega⟩,.inr ⟨by omega,by omega⟩,.inr ⟨by omega,by omega⟩,.inr ⟨by omega,by omega⟩⟩⟩
 have kd5:=Bx.mk (kd.later hb5);have ki5:=Bx.mk (ki.later hb5);clear hW5 kb hb5 crr kr kc kp kd ki;refine (HW.out _ W5 hB5.out _ _ kd5.out ki5.out hB5.out.size HC.out).mono ?_;rintro e9 w9 hg;have Hg:=Bx.mk (hg.since (Far:=Far) hB5.out (fun k hk=>.inl hk));obtain ⟨-,-,(⟨hf,rfl,hs⟩ | ⟨hf,rfl,hs⟩)⟩:=hg
 all_goals
  clear hf hs;go_wp2_with fail
  go_ret2
  exact Hg.out
theorem zEP (a b:Nat) (ha:a<4611686018427387904) (hb:b<4611686018427387904):bits .or .i64 (a:Int) (b:Int)=((a ||| b:Nat):Int):=by
 have hx:a ||| b<2 ^ 62:=Nat.or_lt_two_pow (by omega) (by omega)
 show IntKind.i64.wrap ((BitVec.ofInt 64 (a:Int) ||| BitVec.ofInt 64 (b:Int)).toNat:Int)=_
 rw [BitVec.toNat_or,Go.ofInt_u64 a (by omega),Go.ofInt_u64 b (by omega)]
 exact zB6 _ (by omega) (by omega)
def alB (L:Nat) (p:Pt):Bool:=decide (p.x % 2 ^ L=0∧p.y % 2 ^ L=0∧p.z % 2 ^ L=0)
theorem zOT (L:Nat) (hL:L≤14) (px py pz:Int) (hx:0≤px∧px≤100000) (hy:0≤py∧py≤100000) (hz:0≤pz∧pz≤100000) :
 ∃ q r:Int,bits .or .i64 (bits .or .i64 px py) pz=q∧bits .and .i64 q (2 ^ L - 1)=r∧(r != 0) = !alB L ⟨px,py,pz⟩:=by
 obtain ⟨a,rfl⟩:=Int.eq_ofNat_of_zero_le hx.1;obtain ⟨b,rfl⟩:=Int.eq_ofNat_of_zero_le hy.1;obtain ⟨c,rfl⟩:=Int.eq_ofNat_of_zero_le hz.1;have h1:a ||| b<2 ^ 20:=Nat.or_lt_two_pow (by omega) (by omega)
 have h2:a ||| b ||| c<2 ^ 20:=Nat.or_lt_two_pow h1 (by omega)
 refine ⟨((a ||| b ||| c:Nat):Int),(((a ||| b ||| c:Nat):Int) % 2 ^ L),?_,?_,?_⟩
 · rw [zEP a b (by omega) (by omega),zEP _ c (by omega) (by omega)]
 · have h62:(2:Int) ^ 62=4611686018427387904:=by decide
   exact bits_mask .i64 62 (by decide) zB6 L (by omega) _ (by omega) (by rw [h62];omega)
 · have e:(((a ||| b ||| c:Nat):Int) % 2 ^ L)=(((a % 2 ^ L) ||| (b % 2 ^ L) ||| (c % 2 ^ L):Nat):Int):=by
    rw [←Nat.or_mod_two_pow,←Nat.or_mod_two_pow]
    norm_cast
   rw [e];unfold alB;rw [Bool.eq_iff_iff];simp only [bne_iff_ne,ne_eq,Bool.not_eq_true',decide_eq_false_iff_not];have e1:((a:Int) % 2 ^ L=0) ↔ a % 2 ^ L=0:=by norm_cast
   have e2:((b:Int) % 2 ^ L=0) ↔ b % 2 ^ L=0:=by norm_cast
   have e3:((c:Int) % 2 ^ L=0) ↔ c % 2 ^ L=0:=by norm_cast
   rw [e1,e2,e3];generalize a % 2 ^ L=x;generalize b % 2 ^ L=y;generalize c % 2 ^ L=z
   have e4:(((x ||| y ||| z:Nat):Int)=0) ↔ (x=0∧y=0∧z=0):=by
    rw [show (((x ||| y ||| z:Nat):Int)=0) ↔ (x ||| y ||| z=0) by omega,Nat.or_eq_zero_iff,Nat.or_eq_zero_iff]
    omega
   rw [e4]
theorem zNM (w:World) (sb n:Nat) (hn:n≤12) (id px py pz lv:Int) (hI:inB ⟨px,py,pz⟩ (zy (2 ^ (n+2)))=false) :
 Calls Tryz.prog 69 #[.pointer (some ⟨sb,0,none⟩),id,.int .i64 ((n:Int)+2),.agg #[px,py,pz],lv] w fun e w'=>e=zAv 0 1∧Below w.heap.size w w':=by
 have hin:=fun W=>zA2 (n+2) (by omega) px py pz W
 rw [show ((n+2:Nat):Int)=(n:Int)+2 by omega] at hin
 simp only [hI] at hin;replace hin:=Bx.mk hin;clear hI;go_enter Tryz.func69,Tryz.ntmps69;go_wp2_with fail;generalize hW:World.alloc w _=W;have hSz:=sz1 hW;have hB:=bl1 hW;have kp:Bk W (w.heap.size) #[px,py,pz] 23:=bk0 hW;clear hW;obtain ⟨cp0,cp1,cp2⟩:=kp.r3;have q0:=Bx.mk fun dk osk=>Calls.regrown_of (hin.out (grow (redrawn W dk) osk));refine wp_region_quiet_below (by kernel_rfl) (by kernel_rfl) ?_
 repeat (first | go_big_quiet_step ((first | with_reducible exact q0.out _ _)) | quiet_step (first | with_reducible exact q0.out _ _))
 refine wpQuiet_nil ?_;rintro _ ⟨⟨dq,osq⟩,rfl⟩;have hb:=below_regrown W dq osq;clear cp0 cp1 cp2;clear q0;replace hB:=hB.trans (hb.mono hB.size);replace kp:=kp.later hb;replace hSz:=Nat.le_trans hSz hb.size;clear hb;generalize grow (redrawn W dq) osq=W1 at *;go_wp2_with fail
 go_ret2
 exact ⟨rfl,hB⟩
theorem zNL (w:World) (sb n:Nat) (hn:n≤12) (id px py pz lv:Int) (hI:inB ⟨px,py,pz⟩ (zy (2 ^ (n+2)))=true) (h1:lv<2) :
 Calls Tryz.prog 69 #[.pointer (some ⟨sb,0,none⟩),id,.int .i64 ((n:Int)+2),.agg #[px,py,pz],lv] w fun e w'=>e=zAv 0 1∧Below w.heap.size w w':=by
 have hin:=fun W=>zA2 (n+2) (by omega) px py pz W
 rw [show ((n+2:Nat):Int)=(n:Int)+2 by omega] at hin
 simp only [hI] at hin;replace hin:=Bx.mk hin;have t1:decide (lv<2)=true:=by simpa using h1
 clear hI;go_enter Tryz.func69,Tryz.ntmps69;go_wp2_with fail;generalize hW:World.alloc w _=W;have hSz:=sz1 hW;have hB:=bl1 hW;have kp:Bk W (w.heap.size) #[px,py,pz] 23:=bk0 hW;clear hW;obtain ⟨cp0,cp1,cp2⟩:=kp.r3;have q0:=Bx.mk fun dk osk=>Calls.regrown_of (hin.out (grow (redrawn W dk) osk));refine wp_region_quiet_below (by kernel_rfl) (by kernel_rfl) ?_
 repeat (first | go_big_quiet_step ((first | with_reducible exact q0.out _ _)) | quiet_step (first | with_reducible exact q0.out _ _))
 refine wpQuiet_nil ?_;rintro _ ⟨⟨dq,osq⟩,rfl⟩;have hb:=below_regrown W dq osq;clear cp0 cp1 cp2;clear q0;replace hB:=hB.trans (hb.mono hB.size);replace kp:=kp.later hb;replace hSz:=Nat.le_trans hSz hb.size;clear hb;generalize grow (redrawn W dq) osq=W1 at *;go_wp2_with fail
 go_ret2
 exact ⟨rfl,hB⟩
theorem zNN (w:World) (sb n:Nat) (hn:n≤12) (id px py pz lv:Int) (hI:inB ⟨px,py,pz⟩ (zy (2 ^ (n+2)))=true) (h1 : ¬lv<2) (h2:(n:Int)+2<lv) :
 Calls Tryz.prog 69 #[.pointer (some ⟨sb,0,none⟩),id,.int .i64 ((n:Int)+2),.agg #[px,py,pz],lv] w fun e w'=>e=zAv 0 1∧Below w.heap.size w w':=by
 have hin:=fun W=>zA2 (n+2) (by omega) px py pz W
 rw [show ((n+2:Nat):Int)=(n:Int)+2 by omega] at hin
 simp only [hI] at hin;replace hin:=Bx.mk hin;have t1:decide (lv<2)=false:=by simpa using h1
 have t2:decide ((n:Int)+2<lv)=true:=by simpa using h2
 clear hI;go_enter Tryz.func69,Tryz.ntmps69;go_wp2_with fail;generalize hW:World.alloc w _=W;have hSz:=sz1 hW;have hB:=bl1 hW;have kp:Bk W (w.heap.size) #[px,py,pz] 23:=bk0 hW;clear hW;obtain ⟨cp0,cp1,cp2⟩:=kp.r3;have q0:=Bx.mk fun dk osk=>Calls.regrown_of (hin.out (grow (redrawn W dk) osk));refine wp_region_quiet_below (by kernel_rfl) (by kernel_rfl) ?_
 repeat (first | go_big_quiet_step ((first | with_reducible exact q0.out _ _)) | quiet_step (first | with_reducible exact q0.out _ _))
 refine wpQuiet_nil ?_;rintro _ ⟨⟨dq,osq⟩,rfl⟩;have hb:=below_regrown W dq osq;clear cp0 cp1 cp2;clear q0;replace hB:=hB.trans (hb.mono hB.size);replace kp:=kp.later hb;replace hSz:=Nat.le_trans hSz hb.size;clear hb;generalize grow (redrawn W dq) osq=W1 at *;go_wp2_with fail
 go_ret2
 exact ⟨rfl,hB⟩
theorem zNO (w:World) (sb n L:Nat) (hn:n≤12) (hL:2≤L) (hL2:L≤n+2) (id px py pz:Int) (hI:inB ⟨px,py,pz⟩ (zy (2 ^ (n+2)))=true) (hA:alB L ⟨px,py,pz⟩=false) :
 Calls Tryz.prog 69 #[.pointer (some ⟨sb,0,none⟩),id,.int .i64 ((n:Int)+2),.agg #[px,py,pz],(L:Int)] w fun e w'=>e=zAv 0 1∧Below w.heap.size w w':=by
 have hin:=fun W=>zA2 (n+2) (by omega) px py pz W
 rw [show ((n+2:Nat):Int)=(n:Int)+2 by omega] at hin
 simp only [hI] at hin;replace hin:=Bx.mk hin;obtain ⟨rx,ry,rz⟩:=zHF hn hI;obtain ⟨q,r,hq,hr,hrz⟩:=zOT L (by omega) px py pz rx ry rz
 rw [hA] at hrz;have hrz2:(r == 0)=false:=by simpa [bne] using hrz
 obtain ⟨mL,hmL⟩ : ∃ mL,mL=(2:Int) ^ L:=⟨_,rfl⟩;have hp:IntKind.i64.wrap ((2:Int) ^ L)=mL:=by rw [zZ (by omega),hmL]
 have hml:=zV (show L≤14 by omega)
 rw [←hmL] at hr hml;have hm1:IntKind.i64.wrap (mL - 1)=mL - 1:=IntWalk.i64_in _ (by omega)
 have t1:decide ((L:Int)<2)=false:=by simp;omega
 have t2:decide ((n:Int)+2<(L:Int))=false:=by simp;omega
 clear hI hA rx ry rz hmL;go_enter Tryz.func69,Tryz.ntmps69;go_wp2_with fail;generalize hW:World.alloc w _=W;have hSz:=sz1 hW;have hB:=bl1 hW;have kp:Bk W (w.heap.size) #[px,py,pz] 23:=bk0 hW;clear hW;obtain ⟨cp0,cp1,cp2⟩:=kp.r3;have q0:=Bx.mk fun dk osk=>Calls.regrown_of (hin.out (grow (redrawn W dk) osk));refine wp_region_quiet_below (by kernel_rfl) (by kernel_rfl) ?_
 repeat (first | go_big_quiet_step ((first | with_reducible exact q0.out _ _)) | quiet_step (first | with_reducible exact q0.out _ _))
 refine wpQuiet_nil ?_;rintro _ ⟨⟨dq,osq⟩,rfl⟩;have hb:=below_regrown W dq osq;clear cp0 cp1 cp2;clear q0;replace hB:=hB.trans (hb.mono hB.size);replace kp:=kp.later hb;replace hSz:=Nat.le_trans hSz hb.size;clear hb;generalize grow (redrawn W dq) osq=W1 at *;go_wp2_with fail
 go_ret2
 exact ⟨rfl,hB⟩
theorem MapFn.same {w w':World} {b n:Nat} {f:Value→Option Int} (h:MapFn w b n f) (hk:w'.heap[b]? = w.heap[b]?):MapFn w' b n f:=by
 obtain ⟨D,⟨es,clock,hb,F,hs,hd⟩,h2,h3⟩:=h;exact ⟨D,⟨es,clock,hk.trans hb,F,hs,hd⟩,h2,h3⟩
theorem zCx {w w':World} {B:Nat} {e:TypeId} {sz:Nat} {v:Value} {n:Nat} {xs:List Value} (h:w.ownsRow B e sz v n xs) (hk : ∀ g,v.ownBlock=some g→w'.heap[g]? = w.heap[g]?):w'.ownsRow B e sz v n xs:=by
 refine ⟨h.1,h.2.imp id ?_⟩;rintro ⟨g,cap,cur,rfl,h2,h3,h4⟩;exact ⟨g,cap,cur,rfl,h2,(hk g rfl).trans h3,h4⟩
theorem StoreIs.other {w w':World} {Far Far':Nat→Prop} {sb:Nat} {most:Int} {ts:List Tr} (h:StoreIs w Far' sb most ts) (hk:Keeps Far w w') (hf : ∀ k,¬Far' k→k<w.heap.size→Far k):StoreIs w' Far' sb most ts:=by
 obtain ⟨mb,nv,h1,h2,h3,P⟩:=h.parts;have hb : ∀ k,¬Far' k→k<w.heap.size→w'.heap[k]? = w.heap[k]? := fun k h4 h5=>hk.block k (hf k h4 h5) h5;refine StoreIs.of ((hb sb P.fs h1.lt).trans h1) (zCx h2 (fun g hg=>hb g (P.fn g hg) (World.ownsRow.lt h2 g hg).2)) (h3.same (hb mb P.fm h3.lt)) P
theorem Grew.fit {Far:Nat→Prop} {sb:Nat} {most:Int} {ts ts':List Tr} {t:Tr} {w w':World} {e:Ending} (h:Grew Far sb most ts ts' t w e w') (hf:Tr.Fits most ts ts'):e=zAv (idT ts' t:Int) 0∧StoreIs w' Far sb most ts'∧Keeps Far w w':=by
 rcases h.way with ⟨_,h2,h3⟩ | ⟨h1,_⟩
 · exact ⟨h2,h3,h.keeps⟩
 · exact absurd hf h1
theorem Done.fit {Far:Nat→Prop} {sb:Nat} {most:Int} {ts ts':List Tr} {t:Tr} {w w':World} {e:Ending} (h:Done Far sb most ts ts' t w e w') (hf:Tr.Fits most ts ts'):e=zAv (idT ts' t:Int) 0∧StoreIs w' Far sb most ts'∧Keeps Far w w':=by
 rcases h.way with ⟨_,h2,h3⟩ | ⟨h1,_⟩
 · exact ⟨h2,h3,h.keeps⟩
 · exact absurd hf h1
theorem zBx {w w1 w2:World} {Far:Nat→Prop} (hb:Below w.heap.size w w1) (hk:Keeps Far w1 w2) (hf : ∀ k,k<w.heap.size→Far k):Below w.heap.size w w2 :=
 ⟨hk.os.trans hb.os,hk.tape.trans hb.tape,hk.output.trans hb.output,Nat.le_trans hb.size hk.size,fun k h=>(hk.block k (hf k h) (Nat.lt_of_lt_of_le h hb.size)).trans (hb.block k h)⟩
theorem zDT (px py pz a b c d e f:Int) (w:World) :
 Calls Tryz.prog 5 #[.agg #[px,py,pz],.agg #[a,b,c,d,e,f]] w fun e' w'=>e' = .returned (.bool (inB ⟨px,py,pz⟩ ⟨⟨a,b,c⟩,⟨d,e,f⟩⟩))∧Below w.heap.size w w':=by
 go_enter Tryz.func5,Tryz.ntmps5;go_wp2_with fail
 all_goals
  go_ret;exact ⟨zK (by rw [Bool.eq_iff_iff];simp [inB];omega),((Below.refl _ _).alloc (Nat.le_refl _) _).alloc (by simp) _⟩
theorem zAp (a b c d e f:Int) (w:World) :
 Calls Tryz.prog 57 #[.agg #[a,b,c,d,e,f]] w fun e' w'=>e' = .returned (.bool (zG ⟨⟨a,b,c⟩,⟨d,e,f⟩⟩))∧Below w.heap.size w w':=by
 go_enter Tryz.func57,Tryz.ntmps57;go_wp2_with fail
 all_goals
  go_ret;exact ⟨zK (by rw [Bool.eq_iff_iff];simp [zG,inB];omega),(Below.refl _ _).alloc (Nat.le_refl _) _⟩
theorem zJP (px py pz qx qy qz:Int) (h1 : -4000000000≤px∧px≤4000000000) (h2 : -4000000000≤py∧py≤4000000000) (h3 : -4000000000≤pz∧pz≤4000000000) (h4 : -4000000000≤qx∧qx≤4000000000) (h5 : -4000000000≤qy∧qy≤4000000000) (h6 : -4000000000≤qz∧qz≤4000000000) (w:World) :
 Calls Tryz.prog 111 #[.agg #[px,py,pz],.agg #[qx,qy,qz]] w fun e' w'=>e' = .returned (.agg #[.int .i64 (px - qx),.int .i64 (py - qy),.int .i64 (pz - qz)])∧Below w.heap.size w w':=by
 obtain ⟨a1,a2⟩:=h1;obtain ⟨a3,a4⟩:=h2;obtain ⟨a5,a6⟩:=h3;obtain ⟨b1,b2⟩:=h4;obtain ⟨b3,b4⟩:=h5;obtain ⟨b5,b6⟩:=h6;go_enter Tryz.func111,Tryz.ntmps111;go_wp2_with fail;generalize hW:World.alloc (World.alloc (World.alloc w _) _) _=W;have hB:=bl3 hW;have kr:Bk W (w.heap.size+1+1) #[.int .i64 (px - qx),.int .i64 (py - qy),.int .i64 (pz - qz)] 23:=bk0 hW;clear hW;exact bodyPost_ret (v:=.agg #[.int .i64 (px - qx),.int .i64 (py - qy),.int .i64 (pz - qz)]) (results_cell_row rfl _ _ _ 23 #[.int .i64 (px - qx),.int .i64 (py - qy),.int .i64 (pz - qz)] (0,0) _ rfl kr Tryz.underlying23 rfl (by kernel_rfl)) rfl ⟨rfl,hB⟩
theorem zNH (px py pz qx qy qz:Int) (h1 : -4000000000≤px∧px≤4000000000) (h2 : -4000000000≤py∧py≤4000000000) (h3 : -4000000000≤pz∧pz≤4000000000) (h4 : -4000000000≤qx∧qx≤4000000000) (h5 : -4000000000≤qy∧qy≤4000000000) (h6 : -4000000000≤qz∧qz≤4000000000) (w:World) :
 Calls Tryz.prog 164 #[.agg #[px,py,pz],.agg #[qx,qy,qz]] w fun e' w'=>e' = .returned (.agg #[.int .i64 (px+qx),.int .i64 (py+qy),.int .i64 (pz+qz)])∧Below w.heap.size w w':=by
 obtain ⟨a1,a2⟩:=h1;obtain ⟨a3,a4⟩:=h2;obtain ⟨a5,a6⟩:=h3;obtain ⟨b1,b2⟩:=h4;obtain ⟨b3,b4⟩:=h5;obtain ⟨b5,b6⟩:=h6;go_enter Tryz.func164,Tryz.ntmps164;go_wp2_with fail;generalize hW:World.alloc (World.alloc (World.alloc w _) _) _=W;have hB:=bl3 hW;have kr:Bk W (w.heap.size+1+1) #[.int .i64 (px+qx),.int .i64 (py+qy),.int .i64 (pz+qz)] 23:=bk0 hW;clear hW;exact bodyPost_ret (v:=.agg #[.int .i64 (px+qx),.int .i64 (py+qy),.int .i64 (pz+qz)]) (results_cell_row rfl _ _ _ 23 #[.int .i64 (px+qx),.int .i64 (py+qy),.int .i64 (pz+qz)] (0,0) _ rfl kr Tryz.underlying23 rfl (by kernel_rfl)) rfl ⟨rfl,hB⟩
theorem zLO (a b c d e f:Int) (hS:Small ⟨⟨a,b,c⟩,⟨d,e,f⟩⟩ 1048575) (he:zG ⟨⟨a,b,c⟩,⟨d,e,f⟩⟩=false) (w:World) :
 Calls Tryz.prog 62 #[.agg #[a,b,c,d,e,f]] w fun e' w'=>e' = .returned (.agg #[.int .i64 (d - a),.int .i64 (e - b),.int .i64 (f - c)])∧Below w.heap.size w w':=by
 obtain ⟨s1,s2,s3,s4,s5,s6⟩:=hS;simp only [] at s1 s2 s3 s4 s5 s6;have hem:=Bx.mk (fun W=>zAp a b c d e f W);have he2:=za.1 he;simp only [] at he2;have hsub:=Bx.mk (fun W=>zJP d e f a b c (by omega) (by omega) (by omega) (by omega) (by omega) (by omega) W)
 rw [he] at hem;clear s1 s2 s3 s4 s5 s6 he he2;go_enter Tryz.func62,Tryz.ntmps62;go_wp2_with fail;generalize hW:World.alloc (World.alloc w _) _=W;have hSz:=sz2 hW;have hB:=bl2 hW;have kb:Bk W (w.heap.size) #[a,b,c,d,e,f] 25:=bk1 hW;have kr:Bk W (w.heap.size+1) #[(0:Int),(0:Int),(0:Int)] 23:=bk0 hW;clear hW;refine (hem.out _).mono ?_;rintro e1 w1 ⟨rfl,hb⟩;replace hB:=hB.trans (hb.mono hB.size);replace kb:=kb.later hb;replace kr:=kr.later hb;replace hSz:=Nat.le_trans hSz hb.size;clear hb;obtain ⟨cb0,cb1,cb2,cb3,cb4,cb5⟩:=kb.c6;go_wp2_with fail;refine (hsub.out _).mono ?_;rintro e2 w2 ⟨rfl,hb⟩;clear cb0 cb1 cb2 cb3 cb4 cb5;replace hB:=hB.trans (hb.mono hB.size);replace kb:=kb.later hb;replace kr:=kr.later hb;replace hSz:=Nat.le_trans hSz hb.size;clear hb;obtain ⟨cr0,cr1,cr2⟩:=kr.c3;obtain ⟨fr0,fr1,fr2⟩:=kr.f3;go_wp2_with fail;replace kr:=kr.put3 (.int .i64 (d - a)) (.int .i64 (e - b)) (.int .i64 (f - c));exact bodyPost_ret (v:=.agg #[.int .i64 (d - a),.int .i64 (e - b),.int .i64 (f - c)]) (results_cell_row rfl _ _ _ 23 #[.int .i64 (d - a),.int .i64 (e - b),.int .i64 (f - c)] (0,0) _ rfl kr Tryz.underlying23 rfl (by kernel_rfl)) rfl ⟨rfl,zF3 hB (by omega) _ _ _⟩
theorem zJQ (a b c d e f:Int) (he:zG ⟨⟨a,b,c⟩,⟨d,e,f⟩⟩=true) (w:World) :
 Calls Tryz.prog 62 #[.agg #[a,b,c,d,e,f]] w fun e' w'=>e' = .returned (.agg #[(0:Int),(0:Int),(0:Int)])∧Below w.heap.size w w':=by
 have hem:=Bx.mk (fun W=>zAp a b c d e f W);rw [he] at hem;clear he;go_enter Tryz.func62,Tryz.ntmps62;go_wp2_with fail;generalize hW:World.alloc (World.alloc w _) _=W;have hSz:=sz2 hW;have hB:=bl2 hW;have kb:Bk W (w.heap.size) #[a,b,c,d,e,f] 25:=bk1 hW;have kr:Bk W (w.heap.size+1) #[(0:Int),(0:Int),(0:Int)] 23:=bk0 hW;clear hW;refine (hem.out _).mono ?_;rintro e1 w1 ⟨rfl,hb⟩;replace hB:=hB.trans (hb.mono hB.size);replace kb:=kb.later hb;replace kr:=kr.later hb;replace hSz:=Nat.le_trans hSz hb.size;clear hb;obtain ⟨cr0,cr1,cr2⟩:=kr.c3;obtain ⟨fr0,fr1,fr2⟩:=kr.f3;go_wp2_with fail;replace kr:=kr.put3 (.int .i64 0) (.int .i64 0) (.int .i64 0);exact bodyPost_ret (v:=.agg #[(0:Int),(0:Int),(0:Int)]) (results_cell_row rfl _ _ _ 23 #[(0:Int),(0:Int),(0:Int)] (0,0) _ rfl kr Tryz.underlying23 rfl (by kernel_rfl)) rfl ⟨rfl,zF3 hB (by omega) _ _ _⟩
theorem zBT (a b c d e f:Int) (hS:Small ⟨⟨a,b,c⟩,⟨d,e,f⟩⟩ 1048575) (w:World) :
 Calls Tryz.prog 62 #[.agg #[a,b,c,d,e,f]] w fun e' w'=>e' = .returned (.agg #[.int .i64 (zR ⟨⟨a,b,c⟩,⟨d,e,f⟩⟩).x,.int .i64 (zR ⟨⟨a,b,c⟩,⟨d,e,f⟩⟩).y,.int .i64 (zR ⟨⟨a,b,c⟩,⟨d,e,f⟩⟩).z])∧Below w.heap.size w w':=by
 cases he:zG ⟨⟨a,b,c⟩,⟨d,e,f⟩⟩ with
 | true =>
   have hz:zR ⟨⟨a,b,c⟩,⟨d,e,f⟩⟩=Pt.zero:=by unfold zR;rw [if_pos he]
   rw [hz];exact zJQ a b c d e f he w
 | false =>
   rw [zc he];exact zLO a b c d e f hS he w
theorem zCe (a b c d e f:Int) (hS:Small ⟨⟨a,b,c⟩,⟨d,e,f⟩⟩ 1048575) (w:World) :
 Calls Tryz.prog 17 #[.agg #[a,b,c,d,e,f]] w fun e' w'=>e' = .returned (.int .i64 (zU ⟨⟨a,b,c⟩,⟨d,e,f⟩⟩))∧Below w.heap.size w w':=by
 have hsz:=Bx.mk fun W=>zBT a b c d e f hS W;have hv:=Bx.mk (show zU ⟨⟨a,b,c⟩,⟨d,e,f⟩⟩=(zR ⟨⟨a,b,c⟩,⟨d,e,f⟩⟩).x * (zR ⟨⟨a,b,c⟩,⟨d,e,f⟩⟩).y * (zR ⟨⟨a,b,c⟩,⟨d,e,f⟩⟩).z from rfl);obtain ⟨⟨p1,p2⟩,p3,p4⟩:=zDV ⟨⟨a,b,c⟩,⟨d,e,f⟩⟩ (by decide) hS
 rw [show zU ⟨⟨a,b,c⟩,⟨d,e,f⟩⟩=(zR ⟨⟨a,b,c⟩,⟨d,e,f⟩⟩).x * (zR ⟨⟨a,b,c⟩,⟨d,e,f⟩⟩).y * (zR ⟨⟨a,b,c⟩,⟨d,e,f⟩⟩).z from rfl] at p3 p4;clear hS;generalize (zR ⟨⟨a,b,c⟩,⟨d,e,f⟩⟩)=s at *;obtain ⟨sx,sy,sz⟩:=s;simp only [] at *;have m1:=IntWalk.i64_in (sx * sy) (by omega)
 have m2:=IntWalk.i64_in (sx * sy * sz) (by omega)
 have m3:=IntWalk.wrap64_in (sx * sy) (by omega)
 have m4:=IntWalk.wrap64_in (sx * sy * sz) (by omega)
 clear p1 p2 p3 p4;go_enter Tryz.func17,Tryz.ntmps17;go_wp2_with fail;generalize hW:World.alloc w _=W;have hSz:=sz1 hW;have hB:=bl1 hW;have kb:Bk W (w.heap.size) #[a,b,c,d,e,f] 25:=bk0 hW;clear hW;refine (hsz.out _).mono ?_;rintro e' w1 ⟨rfl,hb⟩;replace hB:=hB.trans (hb.mono hB.size);replace kb:=kb.later hb;replace hSz:=Nat.le_trans hSz hb.size;clear hb;go_wp2_with fail;go_ret;exact ⟨zY (by rw [hv.out]),hB.alloc hB.size _⟩
theorem zHz (a b c d e f i:Int) (hS:Small ⟨⟨a,b,c⟩,⟨d,e,f⟩⟩ 1048575) (hi:0≤i∧i<zU ⟨⟨a,b,c⟩,⟨d,e,f⟩⟩) (w:World) :
 Calls Tryz.prog 161 #[.agg #[a,b,c,d,e,f],i] w fun e' w'=>e' = .returned (.tuple #[.agg #[.int .i64 (atB ⟨⟨a,b,c⟩,⟨d,e,f⟩⟩ i).x,.int .i64 (atB ⟨⟨a,b,c⟩,⟨d,e,f⟩⟩ i).y,.int .i64 (atB ⟨⟨a,b,c⟩,⟨d,e,f⟩⟩ i).z],.bool true])∧Below w.heap.size w w':=by
 have hv:=Bx.mk fun W=>zCe a b c d e f hS W;have hsz:=Bx.mk fun W=>zBT a b c d e f hS W;have hvb:=(zDV ⟨⟨a,b,c⟩,⟨d,e,f⟩⟩ (by decide) hS).2.2
 have hin:=zX.1 (zMs hi.1 hi.2).1;have hat:=Bx.mk (show (atB ⟨⟨a,b,c⟩,⟨d,e,f⟩⟩ i)=⟨a+i % (zR ⟨⟨a,b,c⟩,⟨d,e,f⟩⟩).x,b+i / (zR ⟨⟨a,b,c⟩,⟨d,e,f⟩⟩).x % (zR ⟨⟨a,b,c⟩,⟨d,e,f⟩⟩).y,c+i / (zR ⟨⟨a,b,c⟩,⟨d,e,f⟩⟩).x / (zR ⟨⟨a,b,c⟩,⟨d,e,f⟩⟩).y⟩ by unfold atB;rw [if_pos hi])
 rw [hat.out] at hin;obtain ⟨s1,s2,s3,s4,s5,s6⟩:=hS;have hvd:zU ⟨⟨a,b,c⟩,⟨d,e,f⟩⟩=(zR ⟨⟨a,b,c⟩,⟨d,e,f⟩⟩).x * (zR ⟨⟨a,b,c⟩,⟨d,e,f⟩⟩).y * (zR ⟨⟨a,b,c⟩,⟨d,e,f⟩⟩).z:=rfl;obtain ⟨h0,h1⟩:=hi;have hbd:=zG2 ⟨⟨a,b,c⟩,⟨d,e,f⟩⟩ (m:=1048575) (by decide) ⟨s1,s2,s3,s4,s5,s6⟩
 simp only [] at s1 s2 s3 s4 s5 s6 hin;generalize zU ⟨⟨a,b,c⟩,⟨d,e,f⟩⟩=v at *;generalize (zR ⟨⟨a,b,c⟩,⟨d,e,f⟩⟩)=s at *;obtain ⟨sx,sy,sz⟩:=s;simp only [] at hsz hat hin hvd hbd
 have x0:0<sx:=by
  rcases Int.lt_or_le 0 sx with h | h
  · exact h
  · obtain rfl:sx=0:=by omega
    simp at hvd;omega
 have y0:0<sy:=by
  rcases Int.lt_or_le 0 sy with h | h
  · exact h
  · obtain rfl:sy=0:=by omega
    simp at hvd;omega
 have q0:0≤i / sx:=Int.ediv_nonneg h0 (by omega)
 have q1:i / sx≤i:=Int.ediv_le_self _ h0;have q2:0≤i / sx / sy:=Int.ediv_nonneg q0 (by omega)
 have q3:i / sx / sy≤i / sx:=Int.ediv_le_self _ q0;have m1:=Int.emod_nonneg i (show sx ≠ 0 by omega)
 have m2:=Int.emod_lt_of_pos i x0;have m3:=Int.emod_nonneg (i / sx) (show sy ≠ 0 by omega)
 have m4:=Int.emod_lt_of_pos (i / sx) y0;have t1:i.tdiv sx=i / sx:=Int.tdiv_eq_ediv_of_nonneg h0;have t2:i.tmod sx=i % sx:=Int.tmod_eq_emod_of_nonneg h0;have t3:(i / sx).tdiv sy=i / sx / sy:=Int.tdiv_eq_ediv_of_nonneg q0;have t4:(i / sx).tmod sy=i / sx % sy:=Int.tmod_eq_emod_of_nonneg q0;generalize hq:i / sx=qi at *;generalize hr:i % sx=ri at *;generalize hj:qi % sy=rj at *;generalize hk:qi / sy=qk at *;have nx:(sx == 0)=false:=by simp;omega
 have ny:(sy == 0)=false:=by simp;omega
 have nx':sx ≠ 0:=by omega
 have ny':sy ≠ 0:=by omega
 have u1:=IntWalk.i64_in qi (by omega)
 have u2:=IntWalk.i64_in qk (by omega)
 have u3:=IntWalk.wrap64_in qi (by omega)
 have u4:=IntWalk.wrap64_in qk (by omega)
 have hadd:=Bx.mk fun W=>zNH a b c ri rj qk (by omega) (by omega) (by omega) (by omega) (by omega) (by omega) W
 clear hvb hvd hbd q0 q1 q2 q3 m1 m2 m3 m4 hin s1 s2 s3 s4 s5 s6 x0 y0 hq hr hj hk;go_enter Tryz.func161,Tryz.ntmps161;go_wp2_with fail;generalize hW:World.alloc (World.alloc w _) _=W;have hSz:=sz2 hW;have hB:=bl2 hW;have kb:Bk W (w.heap.size) #[a,b,c,d,e,f] 25:=bk1 hW;have kr:Bk W (w.heap.size+1) #[(0:Int),(0:Int),(0:Int)] 23:=bk0 hW;clear hW;refine (hv.out _).mono ?_;rintro e' w1 ⟨rfl,hb⟩;replace hB:=hB.trans (hb.mono hB.size);replace kb:=kb.later hb;replace kr:=kr.later hb;replace hSz:=Nat.le_trans hSz hb.size;clear hb;obtain ⟨cb0,cb1,cb2,cb3,cb4,cb5⟩:=kb.c6;go_wp2_with fail;refine (hsz.out _).mono ?_;rintro e' w2 ⟨rfl,hb⟩;clear cb0 cb1 cb2 cb3 cb4 cb5;replace hB:=hB.trans (hb.mono hB.size);replace kb:=kb.later hb;replace kr:=kr.later hb;replace hSz:=Nat.le_trans hSz hb.size;clear hb;go_wp2_with fail;generalize hW1:World.alloc w2 _=W2;have ks:Bk W2 w2.heap.size #[sx,sy,sz] 23:=bk0 hW1 rfl;have hb:=bl1 hW1;clear hW1;replace hB:=hB.trans (hb.mono hB.size);replace kb:=kb.later hb;replace kr:=kr.later hb;replace hSz:=Nat.le_trans hSz hb.size;clear hb;obtain ⟨cb0,cb1,cb2,cb3,cb4,cb5⟩:=kb.r6;obtain ⟨cs0,cs1,cs2⟩:=ks.r3;have q0:=Bx.mk fun dk osk=>Calls.regrown_of (hadd.out (grow (redrawn W2 dk) osk));refine zm 22 (by kernel_rfl) (by kernel_rfl) ?_
 simp only [List.take_succ_cons,List.take_zero,List.drop_succ_cons,List.drop_zero]
 repeat (first | go_big_quiet_step ((first | with_reducible exact q0.out _ _)) | quiet_step (first | with_reducible exact q0.out _ _))
 refine wpQuiet_nil ?_;rintro _ ⟨⟨dq,osq⟩,rfl⟩;have hb:=below_regrown W2 dq osq;replace hB:=hB.trans (hb.mono hB.size);clear cb0 cb1 cb2 cb3 cb4 cb5;clear cs0 cs1 cs2;clear q0;replace kb:=kb.later hb;replace kr:=kr.later hb;replace ks:=ks.later hb;replace hSz:=Nat.le_trans hSz hb.size;clear hb;generalize grow (redrawn W2 dq) osq=W3 at *;obtain ⟨fr0,fr1,fr2⟩:=kr.f3;obtain ⟨cr0,cr1,cr2⟩:=kr.c3;go_wp2_with fail;replace kr:=kr.put3 (.int .i64 (a+ri)) (.int .i64 (b+rj)) (.int .i64 (c+qk));obtain ⟨z0,z1,z2⟩:=kr.c3;exact bodyPost_ret (v:=.tuple #[.agg #[.int .i64 (a+ri),.int .i64 (b+rj),.int .i64 (c+qk)],.bool true]) (by simp [results,Tryz.results161,go_sem,z0,z1,z2]) rfl ⟨by rw [hat.out],zF3 hB (by omega) _ _ _⟩
theorem zFQ (a b c d e f px py pz:Int) (hS:Small ⟨⟨a,b,c⟩,⟨d,e,f⟩⟩ 1048575) (w:World) :
 Calls Tryz.prog 165 #[.agg #[a,b,c,d,e,f],.agg #[px,py,pz]] w fun e' w'=>e' = .returned (.int .i64 (zT ⟨⟨a,b,c⟩,⟨d,e,f⟩⟩ ⟨px,py,pz⟩))∧Below w.heap.size w w':=by
 cases hin:inB ⟨px,py,pz⟩ ⟨⟨a,b,c⟩,⟨d,e,f⟩⟩ with
 | false =>
   have hv:=Bx.mk (show zT ⟨⟨a,b,c⟩,⟨d,e,f⟩⟩ ⟨px,py,pz⟩ = -1 by unfold zT;rw [if_neg (by simp [hin])])
   have Hin:=Bx.mk (fun W=>zDT px py pz a b c d e f W);rw [hin] at Hin;clear hin hS;go_enter Tryz.func165,Tryz.ntmps165;go_wp2_with fail;generalize hW:World.alloc (World.alloc w _) _=W;have hSz:=sz2 hW;have hB:=bl2 hW;have kb:Bk W (w.heap.size) #[a,b,c,d,e,f] 25:=bk1 hW;have kp:Bk W (w.heap.size+1) #[px,py,pz] 23:=bk0 hW;clear hW;refine (Hin.out _).mono ?_;rintro e' w1 ⟨rfl,hb⟩;go_wp2_with fail;go_ret;exact ⟨zY hv.out.symm,hB.trans (hb.mono hB.size)⟩
 | true =>
   have hemp:=zt hin;have hin':=zX.1 hin;have hfull:=zc hemp;have hv:=Bx.mk (show zT ⟨⟨a,b,c⟩,⟨d,e,f⟩⟩ ⟨px,py,pz⟩=((pz - c) * (zR ⟨⟨a,b,c⟩,⟨d,e,f⟩⟩).y+(py - b)) * (zR ⟨⟨a,b,c⟩,⟨d,e,f⟩⟩).x+(px - a) by unfold zT;rw [if_pos hin])
   have hbd:=ze hin;rw [hv.out] at hbd;have hvb:=(zDV ⟨⟨a,b,c⟩,⟨d,e,f⟩⟩ (by decide) hS).2.2
   have hsz:=Bx.mk fun W=>zBT a b c d e f hS W;have Hin:=Bx.mk (fun W=>zDT px py pz a b c d e f W);rw [hin] at Hin;obtain ⟨s1,s2,s3,s4,s5,s6⟩:=hS;simp only [] at s1 s2 s3 s4 s5 s6 hin';have hsub:=Bx.mk fun W=>zJP px py pz a b c (by omega) (by omega) (by omega) (by omega) (by omega) (by omega) W
   have k1:=Int.mul_nonneg (show 0≤pz - c by omega) (show 0≤(zR ⟨⟨a,b,c⟩,⟨d,e,f⟩⟩).y by rw [hfull];simp only [Pt.sub];omega)
   have k2:0≤(zR ⟨⟨a,b,c⟩,⟨d,e,f⟩⟩).x:=by rw [hfull];simp only [Pt.sub];omega
   have k3:1≤(zR ⟨⟨a,b,c⟩,⟨d,e,f⟩⟩).x:=by rw [hfull];simp only [Pt.sub];omega
   have k4:0≤px - a∧0≤py - b:=by omega
   generalize zU ⟨⟨a,b,c⟩,⟨d,e,f⟩⟩=V at *;generalize zR ⟨⟨a,b,c⟩,⟨d,e,f⟩⟩=s at *;obtain ⟨sx,sy,sz⟩:=s;simp only [] at hsz hv hbd k1 k2 k3;generalize px - a=dx at *;generalize py - b=dy at *;generalize pz - c=dz at *
   have k5:(dz * sy+dy)≤(dz * sy+dy) * sx:=by
    have:=Int.mul_le_mul_of_nonneg_left k3 (show 0≤dz * sy+dy by omega)
    rwa [Int.mul_one] at this
   have k6:sy * dz=dz * sy:=Int.mul_comm _ _;have k7:sx * (dy+sy * dz)=(dz * sy+dy) * sx:=by rw [k6,Int.mul_comm,Int.add_comm dy]
   have hv2:dx+sx * (dy+sy * dz)=(dz * sy+dy) * sx+dx:=by rw [k7];omega
   have m1:=IntWalk.i64_in (sy * dz) (by rw [k6];omega)
   have m2:=IntWalk.i64_in (dy+sy * dz) (by rw [k6];omega)
   have m3:=IntWalk.i64_in (sx * (dy+sy * dz)) (by rw [k7];omega)
   have m4:=IntWalk.i64_in (dx+sx * (dy+sy * dz)) (by rw [k7];omega)
   have w1:=IntWalk.wrap64_in (sy * dz) (by rw [k6];omega)
   have w2:=IntWalk.wrap64_in (dy+sy * dz) (by rw [k6];omega)
   have w3:=IntWalk.wrap64_in (sx * (dy+sy * dz)) (by rw [k7];omega)
   have w4:=IntWalk.wrap64_in (dx+sx * (dy+sy * dz)) (by rw [k7];omega)
   rw [←hv2] at hv;clear k6 k7 hv2;clear s1 s2 s3 s4 s5 s6 hin' hin hemp hfull hbd hvb k1 k2 k3 k4 k5;go_enter Tryz.func165,Tryz.ntmps165;go_wp2_with fail;generalize hW:World.alloc (World.alloc w _) _=W;have hSz:=sz2 hW;have hB:=bl2 hW;have kb:Bk W (w.heap.size) #[a,b,c,d,e,f] 25:=bk1 hW;have kp:Bk W (w.heap.size+1) #[px,py,pz] 23:=bk0 hW;clear hW;refine (Hin.out _).mono ?_;rintro e' w5 ⟨rfl,hb⟩;replace hB:=hB.trans (hb.mono hB.size);replace kb:=kb.later hb;replace kp:=kp.later hb;replace hSz:=Nat.le_trans hSz hb.size;clear hb;obtain ⟨cb0,cb1,cb2,cb3,cb4,cb5⟩:=kb.c6;go_wp2_with fail;refine (hsz.out _).mono ?_;rintro e' w6 ⟨rfl,hb⟩;clear cb0 cb1 cb2 cb3 cb4 cb5;replace hB:=hB.trans (hb.mono hB.size);replace kb:=kb.later hb;replace kp:=kp.later hb;replace hSz:=Nat.le_trans hSz hb.size;clear hb;have hgs:=hSz;have ab : ∀ o,Bk (w6.alloc o) w.heap.size #[a,b,c,d,e,f] 25:=fun o=>kb.alloc o;have ap : ∀ o,Bk (w6.alloc o) (w.heap.size+1) #[px,py,pz] 23:=fun o=>kp.alloc o;have ab0 : ∀ o,(w6.alloc o).cell? ⟨w.heap.size,0,none⟩=some (.int .i64 a):=fun o=>(ab o).cell 0 rfl;have ab1 : ∀ o,(w6.alloc o).cell? ⟨w.heap.size,1,none⟩=some (.int .i64 b):=fun o=>(ab o).cell 1 rfl;have ab2 : ∀ o,(w6.alloc o).cell? ⟨w.heap.size,2,none⟩=some (.int .i64 c):=fun o=>(ab o).cell 2 rfl;have ap0 : ∀ o,(w6.alloc o).cell? ⟨w.heap.size+1,0,none⟩=some (.int .i64 px):=fun o=>(ap o).cell 0 rfl;have ap1 : ∀ o,(w6.alloc o).cell? ⟨w.heap.size+1,1,none⟩=some (.int .i64 py):=fun o=>(ap o).cell 1 rfl;have ap2 : ∀ o,(w6.alloc o).cell? ⟨w.heap.size+1,2,none⟩=some (.int .i64 pz):=fun o=>(ap o).cell 2 rfl;clear ab ap;go_wp2_with fail;generalize hW:World.alloc w6 _=W7;have ks:Bk W7 w6.heap.size #[sx,sy,sz] 23:=bk0 hW rfl;have hb:Below w6.heap.size w6 W7:=by rw [←hW];exact zW _ _
   clear hW ab0 ab1 ab2 ap0 ap1 ap2;replace hB:=hB.trans (hb.mono hB.size);clear hb kb kp hSz hgs;refine (hsub.out _).mono ?_;rintro e' w8 ⟨rfl,hb⟩;replace hB:=hB.trans (hb.mono hB.size);replace ks:=ks.later hb;clear hb;have as0 : ∀ o,(w8.alloc o).cell? ⟨w6.heap.size,0,none⟩=some (.int .i64 sx):=fun o=>(ks.alloc o).cell 0 rfl;have as1 : ∀ o,(w8.alloc o).cell? ⟨w6.heap.size,1,none⟩=some (.int .i64 sy):=fun o=>(ks.alloc o).cell 1 rfl;have as2 : ∀ o,(w8.alloc o).cell? ⟨w6.heap.size,2,none⟩=some (.int .i64 sz):=fun o=>(ks.alloc o).cell 2 rfl;clear ks;go_wp2_with fail;go_ret;exact ⟨zY hv.out.symm,hB.alloc hB.size _⟩
end
end Go.Proofs.YtfcbajmjaifjlaaGreatDoor
