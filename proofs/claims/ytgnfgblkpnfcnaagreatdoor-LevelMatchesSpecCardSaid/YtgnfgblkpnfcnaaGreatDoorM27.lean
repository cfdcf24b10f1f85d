/- Lce, Lrc, Mpv, Lof, Opn, Ltb: joined by program, for one claim. -/
import Derived.Test.YtgnfgblkpnfcnaaGreatDoorM26
import Derived.WideKeyEntry
import Derived.ProofKit
import Derived.OpenShut
import Derived.ChangeArms
import Derived.ChangeSlices
import Derived.WideShapes
import Derived.Deep.Strs
import Derived.Deep.Slices
import Derived.Deep.Fields
set_option maxHeartbeats 1000000
set_option maxRecDepth 100000
set_option linter.unusedVariables false
set_option linter.unusedSimpArgs false
namespace Go.Proofs.YtgnfgblkpnfcnaaGreatDoor
section
open Go.RowKit Go.Sort Go.Maps
open Oct
attribute [local go_sem] Oper.semAt_some
theorem zGq (sb:Nat) (a:Option Addr) (cap nl:Nat) (k x y z:Int) (w:World) (hl:nl≤13) (hk:k<0) :
 Calls Tryz.prog 17 #[.pointer (some ⟨sb,0,none⟩),.slice a nl cap,k,.agg #[x,y,z]] w fun e w'=>e = .returned (.int .i64 0)∧Below w.heap.size w w':=by
 have t1:decide (k<0)=true:=by simpa using hk
 go_enter Tryz.func17,Tryz.ntmps17;go_upto_region 1 with fail;generalize hW:World.alloc w _=W;have HB:=Bx.mk (show Below w.heap.size w W by rw [←hW];exact (Below.refl _ _).alloc (Nat.le_refl _) _)
 have KP:=Bx.mk (show Bk W w.heap.size #[x,y,z] 23 by rw [←hW];exact zD _ _ _ rfl)
 clear hW;have hn1:IntKind.i64.wrap ((nl:Int)+1)=((nl+1:Nat):Int):=by rw [show (nl:Int)+1=((nl+1:Nat):Int) by omega];exact IntWalk.i64_in _ (by omega)
 go_upto_region 2 with fail;obtain ⟨p0,p1,p2⟩:=KP.out.r3;refine wp_region_quiet_below (by kernel_rfl) (by kernel_rfl) ?_
 repeat (first | go_big_quiet_step (fail) | quiet_step (fail))
 refine wpQuiet_nil ?_;rintro _ ⟨⟨dq,osq⟩,rfl⟩;have HB2:=Bx.mk (HB.out.trans ((below_regrown W dq osq).mono HB.out.size));clear p0 p1 p2 KP HB;generalize grow (redrawn W dq) osq=w2 at *;go_wp2_with fail;go_ret;exact ⟨rfl,HB2.out⟩
theorem zGo (sb:Nat) (a:Option Addr) (cap nl:Nat) (k x y z:Int) (w:World) (hl:nl≤13) (h0:0≤k) (hk:(nl:Int)≤k) :
 Calls Tryz.prog 17 #[.pointer (some ⟨sb,0,none⟩),.slice a nl cap,k,.agg #[x,y,z]] w fun e w'=>e = .returned (.int .i64 0)∧Below w.heap.size w w':=by
 have t1:decide (k<0)=false:=by simp;omega
 have t2:decide (k ≥ (nl:Int))=true:=by simpa using hk
 go_enter Tryz.func17,Tryz.ntmps17;go_upto_region 1 with fail;generalize hW:World.alloc w _=W;have HB:=Bx.mk (show Below w.heap.size w W by rw [←hW];exact (Below.refl _ _).alloc (Nat.le_refl _) _)
 have KP:=Bx.mk (show Bk W w.heap.size #[x,y,z] 23 by rw [←hW];exact zD _ _ _ rfl)
 clear hW;have hn1:IntKind.i64.wrap ((nl:Int)+1)=((nl+1:Nat):Int):=by rw [show (nl:Int)+1=((nl+1:Nat):Int) by omega];exact IntWalk.i64_in _ (by omega)
 go_upto_region 2 with fail;obtain ⟨p0,p1,p2⟩:=KP.out.r3;refine wp_region_quiet_below (by kernel_rfl) (by kernel_rfl) ?_
 repeat (first | go_big_quiet_step (fail) | quiet_step (fail))
 refine wpQuiet_nil ?_;rintro _ ⟨⟨dq,osq⟩,rfl⟩;have HB2:=Bx.mk (HB.out.trans ((below_regrown W dq osq).mono HB.out.size));clear p0 p1 p2 KP HB;generalize grow (redrawn W dq) osq=w2 at *;go_wp2_with fail;go_ret;exact ⟨rfl,HB2.out⟩
theorem zGr (sb:Nat) (a:Option Addr) (cap nl:Nat) (k x y z:Int) (w:World) (hl:nl≤13) (h0:0≤k) (hk:k<(nl:Int)) (hx:W64 x) (hy:W64 y) (hz:W64 z) (hin:inB ⟨x,y,z⟩ (zL (2 ^ (nl+1)))=false) :
 Calls Tryz.prog 17 #[.pointer (some ⟨sb,0,none⟩),.slice a nl cap,k,.agg #[x,y,z]] w fun e w'=>e = .returned (.int .i64 0)∧Below w.heap.size w w':=by
 have t1:decide (k<0)=false:=by simp;omega
 have t2:decide (k ≥ (nl:Int))=false:=by simp;omega
 have t3:(bits .or .i64 (bits .or .i64 (x / 2 ^ (nl+1)) (y / 2 ^ (nl+1))) (z / 2 ^ (nl+1)) != 0)=true:=by
  have h:=zI5 (p:=⟨x,y,z⟩) hx hy hz (nl+1);rw [hin] at h;simpa using h
 clear hin hx hy hz;go_enter Tryz.func17,Tryz.ntmps17;go_upto_region 1 with fail;generalize hW:World.alloc w _=W;have HB:=Bx.mk (show Below w.heap.size w W by rw [←hW];exact (Below.refl _ _).alloc (Nat.le_refl _) _)
 have KP:=Bx.mk (show Bk W w.heap.size #[x,y,z] 23 by rw [←hW];exact zD _ _ _ rfl)
 clear hW;have hn1:IntKind.i64.wrap ((nl:Int)+1)=((nl+1:Nat):Int):=by rw [show (nl:Int)+1=((nl+1:Nat):Int) by omega];exact IntWalk.i64_in _ (by omega)
 go_upto_region 2 with fail;obtain ⟨p0,p1,p2⟩:=KP.out.r3;refine wp_region_quiet_below (by kernel_rfl) (by kernel_rfl) ?_
 repeat (first | go_big_quiet_step (fail) | quiet_step (fail))
 refine wpQuiet_nil ?_;rintro _ ⟨⟨dq,osq⟩,rfl⟩;have HB2:=Bx.mk (HB.out.trans ((below_regrown W dq osq).mono HB.out.size));clear p0 p1 p2 KP HB;generalize grow (redrawn W dq) osq=w2 at *;go_wp2_with fail;go_ret;exact ⟨rfl,HB2.out⟩
theorem zGp (sb:Nat) (a:Option Addr) (cap nl j:Nat) (id v x y z:Int) (w:World) (hl:nl≤13) (hj:j<nl) (ids:List Int) (hid:ids[j]? = some id) (hS:Sl w .i64 a ids) (hx:W64 x) (hy:W64 y) (hz:W64 z) (hin:inB ⟨x,y,z⟩ (zL (2 ^ (nl+1)))=true)
 (HGet:Bx (∀ W,Below w.heap.size w W→Calls Tryz.prog 55 #[.pointer (some ⟨sb,0,none⟩),id,((nl+1 - j:Nat):Int),.agg #[.int .i64 (x / 2 ^ j),.int .i64 (y / 2 ^ j),.int .i64 (z / 2 ^ j)]] W fun e w'=>e = .returned (.int .i64 v)∧Below W.heap.size W w')) :
 Calls Tryz.prog 17 #[.pointer (some ⟨sb,0,none⟩),.slice a nl cap,(j:Int),.agg #[x,y,z]] w fun e w'=>e = .returned (.int .i64 v)∧Below w.heap.size w w':=by
 have t1:decide ((j:Int)<0)=false:=by simp
 have t2:decide ((j:Int) ≥ (nl:Int))=false:=by simp;omega
 have t2':decide (nl≤j)=false:=by simp;omega
 have t3:(bits .or .i64 (bits .or .i64 (x / 2 ^ (nl+1)) (y / 2 ^ (nl+1))) (z / 2 ^ (nl+1)) != 0)=false:=by
  have h:=zI5 (p:=⟨x,y,z⟩) hx hy hz (nl+1);rw [hin] at h;simpa using h
 obtain ⟨d,hd⟩ : ∃ d:Int,d=((nl+1 - j:Nat):Int):=⟨_,rfl⟩;rw [←hd] at HGet;have hs:IntKind.i64.wrap ((nl:Int)+1 - (j:Int))=d:=by rw [show (nl:Int)+1 - (j:Int)=d by omega];exact IntWalk.i64_in _ (by omega)
 clear hd;obtain ⟨b,off,rfl,hc⟩:=hS j id hid;have HC:=Bx.mk hc;have hj1:(0:Int)≤(j:Int)∧(j:Int)<(nl:Int):=by omega
 clear hin hx hy hz hid hc hS;go_enter Tryz.func17,Tryz.ntmps17;go_upto_region 1 with fail;generalize hW:World.alloc w _=W;have HB:=Bx.mk (show Below w.heap.size w W by rw [←hW];exact (Below.refl _ _).alloc (Nat.le_refl _) _)
 have KP:=Bx.mk (show Bk W w.heap.size #[x,y,z] 23 by rw [←hW];exact zD _ _ _ rfl)
 clear hW;have hn1:IntKind.i64.wrap ((nl:Int)+1)=((nl+1:Nat):Int):=by rw [show (nl:Int)+1=((nl+1:Nat):Int) by omega];exact IntWalk.i64_in _ (by omega)
 go_upto_region 2 with fail;obtain ⟨p0,p1,p2⟩:=KP.out.r3;refine wp_region_quiet_below (by kernel_rfl) (by kernel_rfl) ?_
 repeat (first | go_big_quiet_step (fail) | quiet_step (fail))
 refine wpQuiet_nil ?_;rintro _ ⟨⟨dq,osq⟩,rfl⟩;have HB2:=Bx.mk (HB.out.trans ((below_regrown W dq osq).mono HB.out.size));have KP2:=Bx.mk (KP.out.later (below_regrown W dq osq));clear p0 p1 p2 KP HB;generalize grow (redrawn W dq) osq=w2 at *;go_upto_region 4 with fail;obtain ⟨p0,p1,p2⟩:=KP2.out.r3;have p3 : ∀ dk osk,(grow (redrawn w2 dk) osk).cell? ⟨b,off+j,none⟩=some (.int .i64 id):=cell_regrown (cell_later HB2.out HC.out);have u0:=Bx.mk fun dk osk=>Calls.regrown_of (HGet.out (grow (redrawn w2 dk) osk) (HB2.out.trans ((below_regrown w2 dk osk).mono HB2.out.size)));refine wp_region_quiet_below (by kernel_rfl) (by kernel_rfl) ?_
 repeat (first | go_big_quiet_step (exact u0.out _ _) | quiet_step (exact u0.out _ _))
 refine wpQuiet_nil ?_;rintro _ ⟨⟨dq,osq⟩,rfl⟩;have HB3:=Bx.mk (HB2.out.trans ((below_regrown w2 dq osq).mono HB2.out.size));clear p0 p1 p2 p3 KP2 HB2 u0;generalize grow (redrawn w2 dq) osq=w3 at *;go_wp2_with fail;go_ret;exact ⟨rfl,HB3.out⟩
end
section
open Go.RowKit Go.Sort Go.Maps
open Oct
attribute [local go_sem] Oper.semAt_some
theorem zHD (a:Option Addr) (cap nl:Nat) (k x y z:Int) (w:World) (hl:nl≤13) (hk:k<0) (bi:Bool)
 (Hcu:Bx (∀ W,Calls Tryz.prog 27 #[.agg #[(0:Int),(0:Int),(0:Int)],.int .i64 ((nl:Int)+1)] W fun e w'=>e = .returned (.agg #[(0:Int),(0:Int),(0:Int),.int .i64 (2 ^ (nl+1)),.int .i64 (2 ^ (nl+1)),.int .i64 (2 ^ (nl+1))])∧Below W.heap.size W w'))
 (Hin:Bx (∀ W,Calls Tryz.prog 26 #[.agg #[x,y,z],.agg #[(0:Int),(0:Int),(0:Int),.int .i64 (2 ^ (nl+1)),.int .i64 (2 ^ (nl+1)),.int .i64 (2 ^ (nl+1))]] W fun e w'=>e = .returned (.bool bi)∧Below W.heap.size W w')) :
 Calls Tryz.prog 18 #[.slice a nl cap,k,.agg #[x,y,z]] w fun e w'=>e = .returned (.int .i64 0)∧Below w.heap.size w w':=by
 have t1:decide (k<0)=true:=by simpa using hk
 have hn1:IntKind.i64.wrap ((nl:Int)+1)=(nl:Int)+1:=IntWalk.i64_in _ (by omega)
 generalize (.agg #[(0:Int),(0:Int),(0:Int),.int .i64 (2 ^ (nl+1)),.int .i64 (2 ^ (nl+1)),.int .i64 (2 ^ (nl+1))]:Value)=bv at *;go_enter Tryz.func18,Tryz.ntmps18;go_upto_region 1 with fail;generalize hW:World.alloc w _=W;have HB:=Bx.mk (show Below w.heap.size w W by rw [←hW];exact (Below.refl _ _).alloc (Nat.le_refl _) _)
 have KP:=Bx.mk (show Bk W w.heap.size #[x,y,z] 23 by rw [←hW];exact zD _ _ _ rfl)
 clear hW;go_upto_region 2 with fail;obtain ⟨p0,p1,p2⟩:=KP.out.r3;have u0:=Bx.mk fun dk osk=>Calls.regrown_of (Hcu.out (grow (redrawn W dk) osk));have u1:=Bx.mk fun dk osk=>Calls.regrown_of (Hin.out (grow (redrawn W dk) osk));refine wp_region_quiet_below (by kernel_rfl) (by kernel_rfl) ?_
 repeat (first | go_big_quiet_step ((first | with_reducible exact u0.out _ _ | with_reducible exact u1.out _ _)) | quiet_step (first | with_reducible exact u0.out _ _ | with_reducible exact u1.out _ _))
 refine wpQuiet_nil ?_;rintro _ ⟨⟨dq,osq⟩,rfl⟩;have HB2:=Bx.mk (HB.out.trans ((below_regrown W dq osq).mono HB.out.size));clear p0 p1 p2 u0 u1 KP HB Hcu Hin;generalize grow (redrawn W dq) osq=w2 at *;go_wp2_with fail;go_ret;exact ⟨rfl,HB2.out⟩
theorem zHB (a:Option Addr) (cap nl:Nat) (k x y z:Int) (w:World) (hl:nl≤13) (h0:0≤k) (hk:(nl:Int)≤k) (bi:Bool)
 (Hcu:Bx (∀ W,Calls Tryz.prog 27 #[.agg #[(0:Int),(0:Int),(0:Int)],.int .i64 ((nl:Int)+1)] W fun e w'=>e = .returned (.agg #[(0:Int),(0:Int),(0:Int),.int .i64 (2 ^ (nl+1)),.int .i64 (2 ^ (nl+1)),.int .i64 (2 ^ (nl+1))])∧Below W.heap.size W w'))
 (Hin:Bx (∀ W,Calls Tryz.prog 26 #[.agg #[x,y,z],.agg #[(0:Int),(0:Int),(0:Int),.int .i64 (2 ^ (nl+1)),.int .i64 (2 ^ (nl+1)),.int .i64 (2 ^ (nl+1))]] W fun e w'=>e = .returned (.bool bi)∧Below W.heap.size W w')) :
 Calls Tryz.prog 18 #[.slice a nl cap,k,.agg #[x,y,z]] w fun e w'=>e = .returned (.int .i64 0)∧Below w.heap.size w w':=by
 have t1:decide (k<0)=false:=by simp;omega
 have t2:decide (k ≥ (nl:Int))=true:=by simpa using hk
 have hn1:IntKind.i64.wrap ((nl:Int)+1)=(nl:Int)+1:=IntWalk.i64_in _ (by omega)
 generalize (.agg #[(0:Int),(0:Int),(0:Int),.int .i64 (2 ^ (nl+1)),.int .i64 (2 ^ (nl+1)),.int .i64 (2 ^ (nl+1))]:Value)=bv at *;go_enter Tryz.func18,Tryz.ntmps18;go_upto_region 1 with fail;generalize hW:World.alloc w _=W;have HB:=Bx.mk (show Below w.heap.size w W by rw [←hW];exact (Below.refl _ _).alloc (Nat.le_refl _) _)
 have KP:=Bx.mk (show Bk W w.heap.size #[x,y,z] 23 by rw [←hW];exact zD _ _ _ rfl)
 clear hW;go_upto_region 2 with fail;obtain ⟨p0,p1,p2⟩:=KP.out.r3;have u0:=Bx.mk fun dk osk=>Calls.regrown_of (Hcu.out (grow (redrawn W dk) osk));have u1:=Bx.mk fun dk osk=>Calls.regrown_of (Hin.out (grow (redrawn W dk) osk));refine wp_region_quiet_below (by kernel_rfl) (by kernel_rfl) ?_
 repeat (first | go_big_quiet_step ((first | with_reducible exact u0.out _ _ | with_reducible exact u1.out _ _)) | quiet_step (first | with_reducible exact u0.out _ _ | with_reducible exact u1.out _ _))
 refine wpQuiet_nil ?_;rintro _ ⟨⟨dq,osq⟩,rfl⟩;have HB2:=Bx.mk (HB.out.trans ((below_regrown W dq osq).mono HB.out.size));clear p0 p1 p2 u0 u1 KP HB Hcu Hin;generalize grow (redrawn W dq) osq=w2 at *;go_wp2_with fail;go_ret;exact ⟨rfl,HB2.out⟩
theorem zHE (a:Option Addr) (cap nl:Nat) (k x y z:Int) (w:World) (hl:nl≤13) (h0:0≤k) (hk:k<(nl:Int))
 (Hcu:Bx (∀ W,Calls Tryz.prog 27 #[.agg #[(0:Int),(0:Int),(0:Int)],.int .i64 ((nl:Int)+1)] W fun e w'=>e = .returned (.agg #[(0:Int),(0:Int),(0:Int),.int .i64 (2 ^ (nl+1)),.int .i64 (2 ^ (nl+1)),.int .i64 (2 ^ (nl+1))])∧Below W.heap.size W w'))
 (Hin:Bx (∀ W,Calls Tryz.prog 26 #[.agg #[x,y,z],.agg #[(0:Int),(0:Int),(0:Int),.int .i64 (2 ^ (nl+1)),.int .i64 (2 ^ (nl+1)),.int .i64 (2 ^ (nl+1))]] W fun e w'=>e = .returned (.bool false)∧Below W.heap.size W w')) :
 Calls Tryz.prog 18 #[.slice a nl cap,k,.agg #[x,y,z]] w fun e w'=>e = .returned (.int .i64 0)∧Below w.heap.size w w':=by
 have t1:decide (k<0)=false:=by simp;omega
 have t2:decide (k ≥ (nl:Int))=false:=by simp;omega
 have hn1:IntKind.i64.wrap ((nl:Int)+1)=(nl:Int)+1:=IntWalk.i64_in _ (by omega)
 generalize (.agg #[(0:Int),(0:Int),(0:Int),.int .i64 (2 ^ (nl+1)),.int .i64 (2 ^ (nl+1)),.int .i64 (2 ^ (nl+1))]:Value)=bv at *;go_enter Tryz.func18,Tryz.ntmps18;go_upto_region 1 with fail;generalize hW:World.alloc w _=W;have HB:=Bx.mk (show Below w.heap.size w W by rw [←hW];exact (Below.refl _ _).alloc (Nat.le_refl _) _)
 have KP:=Bx.mk (show Bk W w.heap.size #[x,y,z] 23 by rw [←hW];exact zD _ _ _ rfl)
 clear hW;go_upto_region 2 with fail;obtain ⟨p0,p1,p2⟩:=KP.out.r3;have u0:=Bx.mk fun dk osk=>Calls.regrown_of (Hcu.out (grow (redrawn W dk) osk));have u1:=Bx.mk fun dk osk=>Calls.regrown_of (Hin.out (grow (redrawn W dk) osk));refine wp_region_quiet_below (by kernel_rfl) (by kernel_rfl) ?_
 repeat (first | go_big_quiet_step ((first | with_reducible exact u0.out _ _ | with_reducible exact u1.out _ _)) | quiet_step (first | with_reducible exact u0.out _ _ | with_reducible exact u1.out _ _))
 refine wpQuiet_nil ?_;rintro _ ⟨⟨dq,osq⟩,rfl⟩;have HB2:=Bx.mk (HB.out.trans ((below_regrown W dq osq).mono HB.out.size));clear p0 p1 p2 u0 u1 KP HB Hcu Hin;generalize grow (redrawn W dq) osq=w2 at *;go_wp2_with fail;go_ret;exact ⟨rfl,HB2.out⟩
theorem zHC (a:Option Addr) (cap nl:Nat) (x y z:Int) (w:World) (hl:nl≤13) (j:Nat) (S:ByteArray) (v m xj yj zj:Int) (hj:j<nl) (ts:List Value) (hid:ts[j]? = some (.string S)) (hS:Slv w a ts) (hm:0<m∧m≤4096) (hx:0≤x∧x≤100000) (hy:0≤y∧y≤100000) (hz:0≤z∧z≤100000) (hxj:x / m=xj) (hyj:y / m=yj) (hzj:z / m=zj)
 (Hsz:Bx (∀ W,Calls Tryz.prog 22 #[(j:Int)] W fun e w'=>e = .returned (.int .i64 m)∧Below W.heap.size W w'))
 (HGet:Bx (∀ W,Calls Tryz.prog 56 #[.string S,.int .i64 ((nl:Int)+1 - (j:Int)),.agg #[xj,yj,zj]] W fun e w'=>e = .returned (.int .i64 v)∧Below W.heap.size W w'))
 (Hcu:Bx (∀ W,Calls Tryz.prog 27 #[.agg #[(0:Int),(0:Int),(0:Int)],.int .i64 ((nl:Int)+1)] W fun e w'=>e = .returned (.agg #[(0:Int),(0:Int),(0:Int),.int .i64 (2 ^ (nl+1)),.int .i64 (2 ^ (nl+1)),.int .i64 (2 ^ (nl+1))])∧Below W.heap.size W w'))
 (Hin:Bx (∀ W,Calls Tryz.prog 26 #[.agg #[x,y,z],.agg #[(0:Int),(0:Int),(0:Int),.int .i64 (2 ^ (nl+1)),.int .i64 (2 ^ (nl+1)),.int .i64 (2 ^ (nl+1))]] W fun e w'=>e = .returned (.bool true)∧Below W.heap.size W w')) :
 Calls Tryz.prog 18 #[.slice a nl cap,(j:Int),.agg #[x,y,z]] w fun e w'=>e = .returned (.int .i64 v)∧Below w.heap.size w w':=by
 have t1:decide ((j:Int)<0)=false:=by simp
 have t2:decide ((j:Int) ≥ (nl:Int))=false:=by simp;omega
 have t2':decide (nl≤j)=false:=by simp;omega
 obtain ⟨d,hd⟩ : ∃ d:Int,d=(nl:Int)+1 - (j:Int):=⟨_,rfl⟩;have hs:IntKind.i64.wrap ((nl:Int)+1 - (j:Int))=d:=by rw [hd];exact IntWalk.i64_in _ (by omega)
 rw [←hd] at HGet;have q1:IntKind.i64.wrap (x.tdiv m)=xj:=by rw [Int.tdiv_eq_ediv_of_nonneg hx.1,hxj];have h1:0≤x / m:=Int.ediv_nonneg hx.1 (by omega);have h2:x / m≤x:=Int.ediv_le_self _ hx.1;exact IntWalk.i64_in _ (by omega)
 have q2:IntKind.i64.wrap (y.tdiv m)=yj:=by rw [Int.tdiv_eq_ediv_of_nonneg hy.1,hyj];have h1:0≤y / m:=Int.ediv_nonneg hy.1 (by omega);have h2:y / m≤y:=Int.ediv_le_self _ hy.1;exact IntWalk.i64_in _ (by omega)
 have q3:IntKind.i64.wrap (z.tdiv m)=zj:=by rw [Int.tdiv_eq_ediv_of_nonneg hz.1,hzj];have h1:0≤z / m:=Int.ediv_nonneg hz.1 (by omega);have h2:z / m≤z:=Int.ediv_le_self _ hz.1;exact IntWalk.i64_in _ (by omega)
 have mz : ¬m=0:=by omega
 have mz':(m == 0)=false:=by simp;omega
 obtain ⟨b,off,rfl,hc⟩:=hS j _ hid;have HC:=Bx.mk hc;have hj1:(0:Int)≤(j:Int)∧(j:Int)<(nl:Int):=by omega
 clear hid hc hS hd hxj hyj hzj hx hy hz hm;have hn1:IntKind.i64.wrap ((nl:Int)+1)=(nl:Int)+1:=IntWalk.i64_in _ (by omega)
 generalize (.agg #[(0:Int),(0:Int),(0:Int),.int .i64 (2 ^ (nl+1)),.int .i64 (2 ^ (nl+1)),.int .i64 (2 ^ (nl+1))]:Value)=bv at *;go_enter Tryz.func18,Tryz.ntmps18;go_upto_region 1 with fail;generalize hW:World.alloc w _=W;have HB:=Bx.mk (show Below w.heap.size w W by rw [←hW];exact (Below.refl _ _).alloc (Nat.le_refl _) _)
 have KP:=Bx.mk (show Bk W w.heap.size #[x,y,z] 23 by rw [←hW];exact zD _ _ _ rfl)
 clear hW;go_upto_region 2 with fail;obtain ⟨p0,p1,p2⟩:=KP.out.r3;have u0:=Bx.mk fun dk osk=>Calls.regrown_of (Hcu.out (grow (redrawn W dk) osk));have u1:=Bx.mk fun dk osk=>Calls.regrown_of (Hin.out (grow (redrawn W dk) osk));refine wp_region_quiet_below (by kernel_rfl) (by kernel_rfl) ?_
 repeat (first | go_big_quiet_step ((first | with_reducible exact u0.out _ _ | with_reducible exact u1.out _ _)) | quiet_step (first | with_reducible exact u0.out _ _ | with_reducible exact u1.out _ _))
 refine wpQuiet_nil ?_;rintro _ ⟨⟨dq,osq⟩,rfl⟩;have HB2:=Bx.mk (HB.out.trans ((below_regrown W dq osq).mono HB.out.size));have KP2:=Bx.mk (KP.out.later (below_regrown W dq osq));clear p0 p1 p2 u0 u1 KP HB Hcu Hin;generalize grow (redrawn W dq) osq=w2 at *;go_wp2_with fail;refine (Hsz.out _).mono ?_;rintro _ w3 ⟨rfl,hb3⟩;have HB3:=Bx.mk (HB2.out.trans (hb3.mono HB2.out.size));have KP3:=Bx.mk (KP2.out.later hb3);clear hb3 HB2 KP2;go_upto_region 6 with fail;obtain ⟨p0,p1,p2⟩:=KP3.out.r3;have p3 : ∀ dk osk,(grow (redrawn w3 dk) osk).cell? ⟨b,off+j,none⟩=some (.string S):=cell_regrown (cell_later HB3.out HC.out);have u0:=Bx.mk fun dk osk=>Calls.regrown_of (HGet.out (grow (redrawn w3 dk) osk));refine wp_region_quiet_below (by kernel_rfl) (by kernel_rfl) ?_
 repeat (first | go_big_quiet_step (exact u0.out _ _) | quiet_step (exact u0.out _ _))
 refine wpQuiet_nil ?_;rintro _ ⟨⟨dr,osr⟩,rfl⟩;have HB4:=Bx.mk (HB3.out.trans ((below_regrown w3 dr osr).mono HB3.out.size));clear p0 p1 p2 p3 KP3 HB3 u0;generalize grow (redrawn w3 dr) osr=w4 at *;go_wp2_with fail;go_ret;exact ⟨rfl,HB4.out⟩
end
section
open Go.RowKit Go.Maps Go.ChangeMaps Go.WideElems
open Go.WideMaps (KeyLaw)
abbrev zL0:Value→Option (DataW Value × List MemPlace):=fun v=>some (.held v,[])
def MapV (k:TypeId) (w:World) (b n:Nat) (f:Value→Option Value):Prop :=
 ∃ D : DataW Value, w.ownsMap Tryz.prog k zL0 b n D ∧
   ∀ key kl,keyOf Tryz.prog k key=some kl→(f key=none→has D kl=false) ∧ ∀ v,f key=some v→has D kl=true ∧ ∀ zd,D.atKey kl zd = .held v
theorem MapV.kept {k:TypeId} {w w':World} {b n:Nat} {f:Value→Option Value} {row:Option Nat} (h:MapV k w b n f) (hg:w.grownBy w' row) (hne:some b ≠ row):MapV k w' b n f:=by
 obtain ⟨D,h1,h2⟩:=h;exact ⟨D,h1.kept hg hne,h2⟩
theorem MapV.of_block {k:TypeId} {w w':World} {b n:Nat} {f:Value→Option Value} (h:MapV k w b n f) (hb:w'.heap[b]? = w.heap[b]?):MapV k w' b n f:=by
 obtain ⟨D,⟨es,clock,h0,F,hs,hD⟩,h2⟩:=h;exact ⟨D,⟨es,clock,hb.trans h0,F,hs,hD⟩,h2⟩
theorem MapV.lt {k:TypeId} {w:World} {b n:Nat} {f:Value→Option Value} (h:MapV k w b n f):b<w.heap.size:=by
 obtain ⟨D,h1,_⟩:=h;exact h1.lt
theorem MapV.mono {k:TypeId} {w:World} {b n m:Nat} {f:Value→Option Value} (h:MapV k w b n f) (hn:n≤m):MapV k w b m f:=by
 obtain ⟨D,h1,h2⟩:=h;exact ⟨D,h1.mono hn,h2⟩
theorem MapV.made (k:TypeId) (w:World):MapV k (w.alloc (.map #[] 0)) w.heap.size 0 (fun _=>none) :=
 ⟨_,World.ownsMap_made w _ _ _,fun key kl hk=>⟨fun _=>rfl,fun i h=>by cases h⟩⟩
theorem MapV.congr {k:TypeId} {w:World} {b n:Nat} {f f':Value→Option Value} (h:MapV k w b n f) (he : ∀ key kl,keyOf Tryz.prog k key=some kl→f key=f' key):MapV k w b n f':=by
 obtain ⟨D,h1,h2⟩:=h;refine ⟨D,h1,fun key kl hk=>?_⟩;rw [←he key kl hk];exact h2 key kl hk
theorem MapV.look {k t e:TypeId} (K:Keyed Tryz.prog k) (ht : Tryz.prog.underlying t=some (.map k e)) {z:Value} {w:World} (hz:(zeroValue e).run Tryz.prog w = .ok z w) {b n:Nat} {f:Value→Option Value} (h:MapV k w b n f) {key:Value} {kl:Lit} (hkey:keyOf Tryz.prog k key=some kl) :
 (Instr.lookup t (.map (some b)) key false).run Tryz.prog w = .ok ((f key).getD z) w∧(Instr.lookup t (.map (some b)) key true).run Tryz.prog w = .ok (.tuple #[(f key).getD z,.bool (f key).isSome]) w:=by
 obtain ⟨D,h1,h2⟩:=h;obtain ⟨v,ps,hrun,hv⟩:=h1.look_ok K ht hz (R:=zL0) (z:=z) (zd:=.held z) (zp:=[]) rfl hkey;obtain ⟨v',ps',hrun',hv'⟩:=h1.lookup K ht hz (R:=zL0) (z:=z) (zd:=.held z) (zp:=[]) rfl hkey;have e1:DataW.held v=D.atKey kl (.held z):=congrArg Prod.fst (Option.some.inj hv);have e2:DataW.held v'=D.atKey kl (.held z):=congrArg Prod.fst (Option.some.inj hv');obtain ⟨k1,k2⟩:=h2 key kl hkey;cases hf:f key with
 | none =>
   rw [k1 hf] at hrun;rw [atKey_of_not_has (k1 hf)] at e1 e2;injection e1 with e1;injection e2 with e2;subst e1;subst e2;exact ⟨hrun',hrun⟩
 | some u =>
   obtain ⟨g1,g2⟩:=k2 u hf;rw [g1] at hrun;rw [g2] at e1 e2;injection e1 with e1;injection e2 with e2;subst e1;subst e2;exact ⟨hrun',hrun⟩
open Classical in
noncomputable def zJx (f:Value→Option Value) (key v:Value):Value→Option Value:=fun x=>if x=key then some v else f x
theorem zJz (f:Value→Option Value) (key v:Value):zJx f key v key=some v:=by unfold zJx;rw [if_pos rfl]
theorem zJy (f:Value→Option Value) {key x:Value} (v:Value) (h:x ≠ key):zJx f key v x=f x:=by unfold zJx;rw [if_neg h]
theorem MapV.after {k:TypeId} (K:Keyed Tryz.prog k) {w w':World} {b n m:Nat} {f:Value→Option Value} {D:DataW Value} (hD:w.ownsMap Tryz.prog k zL0 b n D) {key v:Value} {kl:Lit} (hkey:keyOf Tryz.prog k key=some kl)
 (h2 : ∀ key kl,keyOf Tryz.prog k key=some kl→(f key=none→has D kl=false) ∧ ∀ v,f key=some v→has D kl=true ∧ ∀ zd,D.atKey kl zd = .held v)
 (h3:w'.ownsMap Tryz.prog k zL0 b m (D.put kl (.held v))):MapV k w' b m (zJx f key v):=by
 have hm:=hD.isMap;refine ⟨_,h3,fun key' kl' hk'=>?_⟩;by_cases e:key'=key
 · subst e;obtain rfl:kl'=kl:=Option.some.inj (hk'.symm.trans hkey);rw [zJz];refine ⟨(fun h=>by cases h),fun j hj=>?_⟩
   obtain rfl:=Option.some.inj hj;exact ⟨has_put_same hm (K.key hkey) _,fun zd=>atKey_put_same hm (K.key hkey) _ _⟩
 · have hne:kl' ≠ kl:=fun e'=>e (K.inj hk' (e' ▸ hkey));rw [zJy f v e];obtain ⟨k1,k2⟩:=h2 key' kl' hk';exact ⟨fun h=>by rw [has_put_other hne];exact k1 h,fun j hj=>⟨by rw [has_put_other hne];exact (k2 j hj).1,fun zd=>by rw [atKey_put_other hne];exact (k2 j hj).2 zd⟩⟩
theorem MapV.put {k t e:TypeId} (K:Keyed Tryz.prog k) (ht : Tryz.prog.underlying t=some (.map k e)) {w:World} {b n:Nat} {f:Value→Option Value} (h:MapV k w b n f) (hn:n<maxLen) {key:Value} {kl:Lit} (hkey:keyOf Tryz.prog k key=some kl) (v:Value) :
 ∃ w',(Instr.mapUpdate t (.map (some b)) key v).run Tryz.prog w = .ok () w'∧MapV k w' b (n+1) (zJx f key v)∧w.grownBy w' (some b)∧w'.heap.size=w.heap.size:=by
 obtain ⟨D,h1,h2⟩:=h;obtain ⟨w',hrun,h3,h4⟩:=h1.store K ht hn hkey (R:=zL0) (val:=v) rfl;refine ⟨w',hrun,MapV.after K h1 hkey h2 h3,h4.grown,?_⟩;obtain ⟨es,clock,es',clock',hb,rfl⟩:=h4
 show (w.heap.setIfInBounds b _).size=_
 simp
end
section
open Go.RowKit Go.Sort Go.Maps
open Oct
theorem lv_of (sb:Nat) (ta:Option Addr) (nl tc:Nat) (w:World) :
 Calls Tryz.prog 45 #[.pointer (some ⟨sb,0,none⟩),.slice ta nl tc] w fun e w'=>e = .returned (.pointer (some ⟨w.heap.size+1,0,none⟩))∧Below w.heap.size w w'∧Bk w' (w.heap.size+1) #[.pointer (some ⟨sb,0,none⟩),.slice ta nl tc,.map (some w.heap.size)] 138∧MapV 140 w' w.heap.size 0 (fun _=>none):=by
 have hmm:=@run_makeMap Tryz.prog;go_enter Tryz.func45,Tryz.ntmps45;go_wp2_with fail;go_ret;refine ⟨by simp,((Below.refl _ _).alloc (Nat.le_refl _) _).alloc (by simp) _,zD _ _ _ (by simp),?_⟩
 exact (MapV.made 140 w).of_block (Below.heap_alloc _ _ _ (by simp))
end
section
open Go.RowKit Go.ChangeShapes Go.WideShapes
open Oct
theorem zCX : Tryz.prog.cellsOf 23=3:=by kernel_rfl
theorem zCK : Tryz.prog.cellsOf 25=6:=by kernel_rfl
theorem zCP : Tryz.prog.cellsOf 28=7:=by kernel_rfl
theorem zCR : Tryz.prog.cellsOf 3=1:=by kernel_rfl
theorem zCS : Tryz.prog.cellsOf 26=1:=by kernel_rfl
theorem row_sl {k:IntKind} {w:World} {a:Option Addr} {len cap:Nat} {zs:List Int}
 (h:(a=none∧len=0∧cap=0∧zs=[]) ∨ ∃ x,a=some x∧len≤cap∧cap≤maxLen∧zs.length=cap∧(∀ i,i<zs.length→w.cell? (x.add i)=some (.int k (zs.getD i 0))) ∧ ∀ n∈zs,(Lit.int k n).wf=true) :
 ∃ xs:List Int,len=xs.length∧Sl w k a xs:=by
 rcases h with ⟨rfl,rfl,rfl,rfl⟩ | ⟨x,rfl,hl,hm,hz,hc,hw⟩
 · exact ⟨[],rfl,Sl.nil _ _ _⟩
 · refine ⟨zs.take len,by simp;omega,fun i y hy=>?_⟩
   rw [List.getElem?_take] at hy;split at hy
   · rename_i hi;have h1:=hc i (by omega)
     have h2:w.cell? (x.add i)=some (.int k y):=by rw [h1];simp [List.getD,hy]
     obtain ⟨b,off,spot⟩:=x
     have hspot:spot=none:=by
      have h0:=hc 0 (by omega)
      simpa [Addr.add] using World.cell?_spot h0
     subst hspot;refine ⟨b,off,rfl,?_⟩;have:(⟨b,off,none⟩:Addr).add i=⟨b,off+i,none⟩:=by unfold Addr.add;split <;> simp_all
     rwa [this] at h2
   · cases hy
section
variable {H:Type} {enc:TypeId × Value→H} {w:World} {base:Nat} {spare:Nat→Bool} {held:Bool} {fuel:Nat} {x:DataW H × List MemPlace}
theorem zNS {v:Value} (h:DataW.trod enc Tryz.prog w base spare held fuel 3 [v]=some x) : ∃ n:Int,v = .int .i64 n∧(Lit.int .i64 n).wf=true:=by
 obtain ⟨n,h1,_,h2⟩:=DataW.trod_int Tryz.underlying3 h;simp only [List.cons.injEq,and_true] at h1;exact ⟨n,h1,h2⟩
theorem zNW {c0 c1 c2:Value} (h:DataW.trod enc Tryz.prog w base spare held fuel 23 [c0,c1,c2]=some x) :
 ∃ a b c:Int,c0 = .int .i64 a∧c1 = .int .i64 b∧c2 = .int .i64 c:=by
 obtain ⟨y0,y1,y2,n,_,_,h0,h1,h2⟩:=Go.Deep.trod_struct3 Tryz.underlying23 h;have h0:DataW.trod enc Tryz.prog w base spare held n 3 [c0]=some y0:=by simpa [zCR] using h0
 have h1:DataW.trod enc Tryz.prog w base spare held n 3 [c1]=some y1:=by simpa [zCR] using h1
 have h2:DataW.trod enc Tryz.prog w base spare held n 3 [c2]=some y2:=by simpa [zCR] using h2
 obtain ⟨a,e0,_⟩:=zNS h0;obtain ⟨b,e1,_⟩:=zNS h1;obtain ⟨c,e2,_⟩:=zNS h2;exact ⟨a,b,c,e0,e1,e2⟩
theorem zNR {c0 c1 c2 c3 c4 c5:Value} (h:DataW.trod enc Tryz.prog w base spare held fuel 25 [c0,c1,c2,c3,c4,c5]=some x) :
 ∃ a b c d e f:Int,c0 = .int .i64 a∧c1 = .int .i64 b∧c2 = .int .i64 c∧c3 = .int .i64 d∧c4 = .int .i64 e∧c5 = .int .i64 f:=by
 obtain ⟨y0,y1,n,_,_,h0,h1⟩:=trod_struct2 Tryz.underlying25 h;have h0:DataW.trod enc Tryz.prog w base spare held n 23 [c0,c1,c2]=some y0:=by simpa [zCX] using h0
 have h1:DataW.trod enc Tryz.prog w base spare held n 23 [c3,c4,c5]=some y1:=by simpa [zCX] using h1
 obtain ⟨a,b,c,e0,e1,e2⟩:=zNW h0;obtain ⟨d,e,f,e3,e4,e5⟩:=zNW h1;exact ⟨a,b,c,d,e,f,e0,e1,e2,e3,e4,e5⟩
theorem zNU {v:Value} (h:DataW.trod enc Tryz.prog w base (fun _=>true) held fuel 26 [v]=some x) :
 ∃ ha hcp,∃ xs:List Int,v = .slice ha xs.length hcp∧Sl w .i64 ha xs∧xs.length≤hcp:=by
 rcases open_ints Tryz.underlying26 Tryz.underlying3 zCR h with ⟨h1,_⟩ | ⟨a,len,cap,zs,h1,_,hl,hm,hz,_,hc,hw⟩
 · simp only [List.cons.injEq,and_true] at h1;exact ⟨none,0,[],h1,Sl.nil _ _ _,by simp⟩
 · simp only [List.cons.injEq,and_true] at h1;simp only [if_true] at hz;obtain ⟨xs,e,hs⟩:=row_sl (k:=.i64) (w:=w) (a:=some a) (len:=len) (cap:=cap) (zs:=zs) (Or.inr ⟨a,rfl,hl,hm,hz,hc,hw⟩);exact ⟨some a,cap,xs,by rw [h1,e],hs,by omega⟩
theorem list7 {α:Type} {l:List α} (h:l.length=7) : ∃ a b c d e f g,l=[a,b,c,d,e,f,g]:=by
 match l,h with
 | [a,b,c,d,e,f,g],_=>exact ⟨a,b,c,d,e,f,g,rfl⟩
theorem zIq {r:Reach} {b0:Nat} {v:Value} {d:DataW H} {p:List MemPlace} (hv:Value.okWide Tryz.prog w r b0 28 v) (h:DataW.Trod enc Tryz.prog w base (fun _=>true) held 28 v d p) :
 ∃ (a b c d e f:Int) (ha:Option Addr) (hcp:Nat) (xs:List Int),v = .agg #[a,b,c,d,e,f,.slice ha xs.length hcp]∧Sl w .i64 ha xs∧xs.length≤hcp:=by
 obtain ⟨cs,rfl,hsz⟩:=okWide_struct Tryz.underlying28 hv;obtain ⟨l⟩:=cs;have hl:l.length=7:=by rw [zCP] at hsz;exact hsz
 obtain ⟨c0,c1,c2,c3,c4,c5,c6,rfl⟩:=list7 hl;obtain ⟨fuel,hf⟩:=h;obtain ⟨y0,y1,n,_,_,h0,h1⟩:=trod_struct2 Tryz.underlying28 hf;have h0:DataW.trod enc Tryz.prog w base (fun _=>true) held n 25 [c0,c1,c2,c3,c4,c5]=some y0:=by simpa [Value.cells,zCK] using h0
 have h1:DataW.trod enc Tryz.prog w base (fun _=>true) held n 26 [c6]=some y1:=by simpa [Value.cells,zCS] using h1
 obtain ⟨a,b,c,d,e,f,rfl,rfl,rfl,rfl,rfl,rfl⟩:=zNR h0;obtain ⟨ha,hcp,xs,rfl,hs,hc⟩:=zNU h1;exact ⟨a,b,c,d,e,f,ha,hcp,xs,rfl,hs,hc⟩
end
structure Mat where
 name:ByteArray
 so:Bool
 li:Bool
 fa:Bool
 fade:Int
 e0:Int
 e1:Int
 e2:Int
def Mat.cells (m:Mat):List Value:=[.string m.name,.bool m.so,.bool m.li,.bool m.fa,.int .i64 m.fade,.int .i64 m.e0,.int .i64 m.e1,.int .i64 m.e2]
def SlM (w:World) (a:Option Addr) (L:List Mat):Prop := ∀ (i:Nat) (m:Mat),L[i]? = some m → ∃ b off,a=some ⟨b,off,none⟩ ∧ ∀ j u,m.cells[j]? = some u→w.cell? ⟨b,off+i * 8+j,none⟩=some u
theorem SlM.below {w w':World} {a:Option Addr} {L:List Mat} (h:SlM w a L) (hb:Below w.heap.size w w'):SlM w' a L:=by
 intro i m hm;obtain ⟨b,off,rfl,hc⟩:=h i m hm;exact ⟨b,off,rfl,fun j u hu=>cell_later hb (hc j u hu)⟩
def zx (L:List Mat) (c:Int):Bool:=decide (0≤c) && (L[c.toNat]?.map Mat.so).getD false
theorem zCT : Tryz.prog.cellsOf 95=8:=by kernel_rfl
theorem zCL : Tryz.prog.cellsOf 93=3:=by kernel_rfl
theorem zCJ : Tryz.prog.cellsOf 4=1:=by kernel_rfl
theorem zCY : Tryz.prog.cellsOf 9=1:=by kernel_rfl
end
end Go.Proofs.YtgnfgblkpnfcnaaGreatDoor
