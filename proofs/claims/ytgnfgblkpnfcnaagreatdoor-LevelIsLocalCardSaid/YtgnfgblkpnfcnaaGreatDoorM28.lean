/- Lce, Mpv, Lof, Opn, Ltb, Lsl, Lsz: joined by program, for one claim. -/
import Derived.Test.YtgnfgblkpnfcnaaGreatDoorMr
import Derived.Test.YtgnfgblkpnfcnaaGreatDoorM27
import Derived.Lib.QuietBelow
import Derived.Deep.QuietTactic
import Derived.BigQuiet
import Derived.Test.YtgnfgblkpnfcnaaGreatDoorM1
import Derived.WideKeyEntry
import Derived.Test.YtgnfgblkpnfcnaaGreatDoorM22
import Derived.ProofKit
import Derived.OpenShut
import Derived.ChangeArms
import Derived.ChangeSlices
import Derived.WideShapes
import Derived.Deep.Strs
import Derived.Deep.Slices
import Derived.Deep.Fields
set_option linter.unusedVariables false
set_option linter.unusedSimpArgs false
namespace Go.Proofs.YtgnfgblkpnfcnaaGreatDoor
section
open Go.RowKit Go.Sort Go.Maps
open Oct
attribute [local go_sem] Oper.semAt_some
set_option maxRecDepth 100000 in
set_option maxHeartbeats 1000000 in
theorem lv_cell_neg (sb:Nat) (a:Option Addr) (cap nl:Nat) (k x y z:Int) (w:World) (hl:nl≤13) (hk:k<0) :
 Calls Tryz.prog 17 #[.pointer (some ⟨sb,0,none⟩),.slice a nl cap,k,.agg #[x,y,z]] w fun e w'=>e = .returned (.int .i64 0)∧Below w.heap.size w w':=by
 have t1:decide (k<0)=true:=by simpa using hk
 go_enter Tryz.func17,Tryz.ntmps17
 go_upto_region 1 with fail
 generalize hW:World.alloc w _=W
 have HB:=Bx.mk (show Below w.heap.size w W by rw [←hW];exact (Below.refl _ _).alloc (Nat.le_refl _) _)
 have KP:=Bx.mk (show Bk W w.heap.size #[x,y,z] 23 by rw [←hW];exact blk_new _ _ _ rfl)
 clear hW
 have hn1:IntKind.i64.wrap ((nl:Int)+1)=((nl+1:Nat):Int):=by rw [show (nl:Int)+1=((nl+1:Nat):Int) by omega];exact IntWalk.i64_in _ (by omega)
 go_upto_region 2 with fail
 obtain ⟨p0,p1,p2⟩:=KP.out.r3
 refine wp_region_quiet_below (by kernel_rfl) (by kernel_rfl) ?_
 repeat (first | go_big_quiet_step (fail) | quiet_step (fail))
 refine wpQuiet_nil ?_
 rintro _ ⟨⟨dq,osq⟩,rfl⟩
 have HB2:=Bx.mk (HB.out.trans ((below_regrown W dq osq).mono HB.out.size))
 clear p0 p1 p2 KP HB
 generalize grow (redrawn W dq) osq=w2 at *
 go_wp2_with fail
 go_ret
 exact ⟨rfl,HB2.out⟩
set_option maxRecDepth 100000 in
set_option maxHeartbeats 1000000 in
theorem lv_cell_big (sb:Nat) (a:Option Addr) (cap nl:Nat) (k x y z:Int) (w:World) (hl:nl≤13) (h0:0≤k) (hk:(nl:Int)≤k) :
 Calls Tryz.prog 17 #[.pointer (some ⟨sb,0,none⟩),.slice a nl cap,k,.agg #[x,y,z]] w fun e w'=>e = .returned (.int .i64 0)∧Below w.heap.size w w':=by
 have t1:decide (k<0)=false:=by simp;omega
 have t2:decide (k ≥ (nl:Int))=true:=by simpa using hk
 go_enter Tryz.func17,Tryz.ntmps17
 go_upto_region 1 with fail
 generalize hW:World.alloc w _=W
 have HB:=Bx.mk (show Below w.heap.size w W by rw [←hW];exact (Below.refl _ _).alloc (Nat.le_refl _) _)
 have KP:=Bx.mk (show Bk W w.heap.size #[x,y,z] 23 by rw [←hW];exact blk_new _ _ _ rfl)
 clear hW
 have hn1:IntKind.i64.wrap ((nl:Int)+1)=((nl+1:Nat):Int):=by rw [show (nl:Int)+1=((nl+1:Nat):Int) by omega];exact IntWalk.i64_in _ (by omega)
 go_upto_region 2 with fail
 obtain ⟨p0,p1,p2⟩:=KP.out.r3
 refine wp_region_quiet_below (by kernel_rfl) (by kernel_rfl) ?_
 repeat (first | go_big_quiet_step (fail) | quiet_step (fail))
 refine wpQuiet_nil ?_
 rintro _ ⟨⟨dq,osq⟩,rfl⟩
 have HB2:=Bx.mk (HB.out.trans ((below_regrown W dq osq).mono HB.out.size))
 clear p0 p1 p2 KP HB
 generalize grow (redrawn W dq) osq=w2 at *
 go_wp2_with fail
 go_ret
 exact ⟨rfl,HB2.out⟩
set_option maxRecDepth 100000 in
set_option maxHeartbeats 1000000 in
theorem lv_cell_out (sb:Nat) (a:Option Addr) (cap nl:Nat) (k x y z:Int) (w:World) (hl:nl≤13) (h0:0≤k) (hk:k<(nl:Int)) (hx:W64 x) (hy:W64 y) (hz:W64 z) (hin:inB ⟨x,y,z⟩ (cubeB (2 ^ (nl+1)))=false) :
 Calls Tryz.prog 17 #[.pointer (some ⟨sb,0,none⟩),.slice a nl cap,k,.agg #[x,y,z]] w fun e w'=>e = .returned (.int .i64 0)∧Below w.heap.size w w':=by
 have t1:decide (k<0)=false:=by simp;omega
 have t2:decide (k ≥ (nl:Int))=false:=by simp;omega
 have t3:(bits .or .i64 (bits .or .i64 (x / 2 ^ (nl+1)) (y / 2 ^ (nl+1))) (z / 2 ^ (nl+1)) != 0)=true:=by
  have h:=out_any (p:=⟨x,y,z⟩) hx hy hz (nl+1)
  rw [hin] at h
  simpa using h
 clear hin hx hy hz
 go_enter Tryz.func17,Tryz.ntmps17
 go_upto_region 1 with fail
 generalize hW:World.alloc w _=W
 have HB:=Bx.mk (show Below w.heap.size w W by rw [←hW];exact (Below.refl _ _).alloc (Nat.le_refl _) _)
 have KP:=Bx.mk (show Bk W w.heap.size #[x,y,z] 23 by rw [←hW];exact blk_new _ _ _ rfl)
 clear hW
 have hn1:IntKind.i64.wrap ((nl:Int)+1)=((nl+1:Nat):Int):=by rw [show (nl:Int)+1=((nl+1:Nat):Int) by omega];exact IntWalk.i64_in _ (by omega)
 go_upto_region 2 with fail
 obtain ⟨p0,p1,p2⟩:=KP.out.r3
 refine wp_region_quiet_below (by kernel_rfl) (by kernel_rfl) ?_
 repeat (first | go_big_quiet_step (fail) | quiet_step (fail))
 refine wpQuiet_nil ?_
 rintro _ ⟨⟨dq,osq⟩,rfl⟩
 have HB2:=Bx.mk (HB.out.trans ((below_regrown W dq osq).mono HB.out.size))
 clear p0 p1 p2 KP HB
 generalize grow (redrawn W dq) osq=w2 at *
 go_wp2_with fail
 go_ret
 exact ⟨rfl,HB2.out⟩
set_option maxRecDepth 100000 in
set_option maxHeartbeats 1000000 in
theorem lv_cell_in (sb:Nat) (a:Option Addr) (cap nl j:Nat) (id v x y z:Int) (w:World) (hl:nl≤13) (hj:j<nl) (ids:List Int) (hid:ids[j]? = some id) (hS:Sl w .i64 a ids) (hx:W64 x) (hy:W64 y) (hz:W64 z) (hin:inB ⟨x,y,z⟩ (cubeB (2 ^ (nl+1)))=true)
 (HGet:Bx (∀ W,Below w.heap.size w W→Calls Tryz.prog 55 #[.pointer (some ⟨sb,0,none⟩),id,((nl+1 - j:Nat):Int),.agg #[.int .i64 (x / 2 ^ j),.int .i64 (y / 2 ^ j),.int .i64 (z / 2 ^ j)]] W fun e w'=>e = .returned (.int .i64 v)∧Below W.heap.size W w')) :
 Calls Tryz.prog 17 #[.pointer (some ⟨sb,0,none⟩),.slice a nl cap,(j:Int),.agg #[x,y,z]] w fun e w'=>e = .returned (.int .i64 v)∧Below w.heap.size w w':=by
 have t1:decide ((j:Int)<0)=false:=by simp
 have t2:decide ((j:Int) ≥ (nl:Int))=false:=by simp;omega
 have t2':decide (nl≤j)=false:=by simp;omega
 have t3:(bits .or .i64 (bits .or .i64 (x / 2 ^ (nl+1)) (y / 2 ^ (nl+1))) (z / 2 ^ (nl+1)) != 0)=false:=by
  have h:=out_any (p:=⟨x,y,z⟩) hx hy hz (nl+1)
  rw [hin] at h
  simpa using h
 obtain ⟨d,hd⟩ : ∃ d:Int,d=((nl+1 - j:Nat):Int):=⟨_,rfl⟩
 rw [←hd] at HGet
 have hs:IntKind.i64.wrap ((nl:Int)+1 - (j:Int))=d:=by rw [show (nl:Int)+1 - (j:Int)=d by omega];exact IntWalk.i64_in _ (by omega)
 clear hd
 obtain ⟨b,off,rfl,hc⟩:=hS j id hid
 have HC:=Bx.mk hc
 have hj1:(0:Int)≤(j:Int)∧(j:Int)<(nl:Int):=by omega
 clear hin hx hy hz hid hc hS
 go_enter Tryz.func17,Tryz.ntmps17
 go_upto_region 1 with fail
 generalize hW:World.alloc w _=W
 have HB:=Bx.mk (show Below w.heap.size w W by rw [←hW];exact (Below.refl _ _).alloc (Nat.le_refl _) _)
 have KP:=Bx.mk (show Bk W w.heap.size #[x,y,z] 23 by rw [←hW];exact blk_new _ _ _ rfl)
 clear hW
 have hn1:IntKind.i64.wrap ((nl:Int)+1)=((nl+1:Nat):Int):=by rw [show (nl:Int)+1=((nl+1:Nat):Int) by omega];exact IntWalk.i64_in _ (by omega)
 go_upto_region 2 with fail
 obtain ⟨p0,p1,p2⟩:=KP.out.r3
 refine wp_region_quiet_below (by kernel_rfl) (by kernel_rfl) ?_
 repeat (first | go_big_quiet_step (fail) | quiet_step (fail))
 refine wpQuiet_nil ?_
 rintro _ ⟨⟨dq,osq⟩,rfl⟩
 have HB2:=Bx.mk (HB.out.trans ((below_regrown W dq osq).mono HB.out.size))
 have KP2:=Bx.mk (KP.out.later (below_regrown W dq osq))
 clear p0 p1 p2 KP HB
 generalize grow (redrawn W dq) osq=w2 at *
 go_upto_region 4 with fail
 obtain ⟨p0,p1,p2⟩:=KP2.out.r3
 have p3 : ∀ dk osk,(grow (redrawn w2 dk) osk).cell? ⟨b,off+j,none⟩=some (.int .i64 id):=cell_regrown (cell_later HB2.out HC.out)
 have u0:=Bx.mk fun dk osk=>Calls.regrown_of (HGet.out (grow (redrawn w2 dk) osk) (HB2.out.trans ((below_regrown w2 dk osk).mono HB2.out.size)))
 refine wp_region_quiet_below (by kernel_rfl) (by kernel_rfl) ?_
 repeat (first | go_big_quiet_step (exact u0.out _ _) | quiet_step (exact u0.out _ _))
 refine wpQuiet_nil ?_
 rintro _ ⟨⟨dq,osq⟩,rfl⟩
 have HB3:=Bx.mk (HB2.out.trans ((below_regrown w2 dq osq).mono HB2.out.size))
 clear p0 p1 p2 p3 KP2 HB2 u0
 generalize grow (redrawn w2 dq) osq=w3 at *
 go_wp2_with fail
 go_ret
 exact ⟨rfl,HB3.out⟩
end
section
open Go.RowKit Go.Maps Go.ChangeMaps Go.WideElems
open Go.WideMaps (KeyLaw)
abbrev selfR:Value→Option (DataW Value × List MemPlace):=fun v=>some (.held v,[])
def MapV (k:TypeId) (w:World) (b n:Nat) (f:Value→Option Value):Prop :=
 ∃ D : DataW Value, w.ownsMap Tryz.prog k selfR b n D ∧
   ∀ key kl,keyOf Tryz.prog k key=some kl→(f key=none→has D kl=false) ∧ ∀ v,f key=some v→has D kl=true ∧ ∀ zd,D.atKey kl zd = .held v
theorem MapV.kept {k:TypeId} {w w':World} {b n:Nat} {f:Value→Option Value} {row:Option Nat} (h:MapV k w b n f) (hg:w.grownBy w' row) (hne:some b ≠ row):MapV k w' b n f:=by
 obtain ⟨D,h1,h2⟩:=h
 exact ⟨D,h1.kept hg hne,h2⟩
theorem MapV.of_block {k:TypeId} {w w':World} {b n:Nat} {f:Value→Option Value} (h:MapV k w b n f) (hb:w'.heap[b]? = w.heap[b]?):MapV k w' b n f:=by
 obtain ⟨D,⟨es,clock,h0,F,hs,hD⟩,h2⟩:=h
 exact ⟨D,⟨es,clock,hb.trans h0,F,hs,hD⟩,h2⟩
theorem MapV.lt {k:TypeId} {w:World} {b n:Nat} {f:Value→Option Value} (h:MapV k w b n f):b<w.heap.size:=by
 obtain ⟨D,h1,_⟩:=h
 exact h1.lt
theorem MapV.mono {k:TypeId} {w:World} {b n m:Nat} {f:Value→Option Value} (h:MapV k w b n f) (hn:n≤m):MapV k w b m f:=by
 obtain ⟨D,h1,h2⟩:=h
 exact ⟨D,h1.mono hn,h2⟩
theorem MapV.made (k:TypeId) (w:World):MapV k (w.alloc (.map #[] 0)) w.heap.size 0 (fun _=>none) :=
 ⟨_,World.ownsMap_made w _ _ _,fun key kl hk=>⟨fun _=>rfl,fun i h=>by cases h⟩⟩
theorem MapV.congr {k:TypeId} {w:World} {b n:Nat} {f f':Value→Option Value} (h:MapV k w b n f) (he : ∀ key kl,keyOf Tryz.prog k key=some kl→f key=f' key):MapV k w b n f':=by
 obtain ⟨D,h1,h2⟩:=h
 refine ⟨D,h1,fun key kl hk=>?_⟩
 rw [←he key kl hk];exact h2 key kl hk
theorem MapV.look {k t e:TypeId} (K:Keyed Tryz.prog k) (ht : Tryz.prog.underlying t=some (.map k e)) {z:Value} {w:World} (hz:(zeroValue e).run Tryz.prog w = .ok z w) {b n:Nat} {f:Value→Option Value} (h:MapV k w b n f) {key:Value} {kl:Lit} (hkey:keyOf Tryz.prog k key=some kl) :
 (Instr.lookup t (.map (some b)) key false).run Tryz.prog w = .ok ((f key).getD z) w∧(Instr.lookup t (.map (some b)) key true).run Tryz.prog w = .ok (.tuple #[(f key).getD z,.bool (f key).isSome]) w:=by
 obtain ⟨D,h1,h2⟩:=h
 obtain ⟨v,ps,hrun,hv⟩:=h1.look_ok K ht hz (R:=selfR) (z:=z) (zd:=.held z) (zp:=[]) rfl hkey
 obtain ⟨v',ps',hrun',hv'⟩:=h1.lookup K ht hz (R:=selfR) (z:=z) (zd:=.held z) (zp:=[]) rfl hkey
 have e1:DataW.held v=D.atKey kl (.held z):=congrArg Prod.fst (Option.some.inj hv)
 have e2:DataW.held v'=D.atKey kl (.held z):=congrArg Prod.fst (Option.some.inj hv')
 obtain ⟨k1,k2⟩:=h2 key kl hkey
 cases hf:f key with
 | none =>
   rw [k1 hf] at hrun
   rw [atKey_of_not_has (k1 hf)] at e1 e2
   injection e1 with e1;injection e2 with e2
   subst e1;subst e2
   exact ⟨hrun',hrun⟩
 | some u =>
   obtain ⟨g1,g2⟩:=k2 u hf
   rw [g1] at hrun
   rw [g2] at e1 e2
   injection e1 with e1;injection e2 with e2
   subst e1;subst e2
   exact ⟨hrun',hrun⟩
open Classical in
noncomputable def putV (f:Value→Option Value) (key v:Value):Value→Option Value:=fun x=>if x=key then some v else f x
theorem putV_same (f:Value→Option Value) (key v:Value):putV f key v key=some v:=by unfold putV;rw [if_pos rfl]
theorem putV_other (f:Value→Option Value) {key x:Value} (v:Value) (h:x ≠ key):putV f key v x=f x:=by unfold putV;rw [if_neg h]
theorem MapV.after {k:TypeId} (K:Keyed Tryz.prog k) {w w':World} {b n m:Nat} {f:Value→Option Value} {D:DataW Value} (hD:w.ownsMap Tryz.prog k selfR b n D) {key v:Value} {kl:Lit} (hkey:keyOf Tryz.prog k key=some kl)
 (h2 : ∀ key kl,keyOf Tryz.prog k key=some kl→(f key=none→has D kl=false) ∧ ∀ v,f key=some v→has D kl=true ∧ ∀ zd,D.atKey kl zd = .held v)
 (h3:w'.ownsMap Tryz.prog k selfR b m (D.put kl (.held v))):MapV k w' b m (putV f key v):=by
 have hm:=hD.isMap
 refine ⟨_,h3,fun key' kl' hk'=>?_⟩
 by_cases e:key'=key
 · subst e
   obtain rfl:kl'=kl:=Option.some.inj (hk'.symm.trans hkey)
   rw [putV_same]
   refine ⟨(fun h=>by cases h),fun j hj=>?_⟩
   obtain rfl:=Option.some.inj hj
   exact ⟨has_put_same hm (K.key hkey) _,fun zd=>atKey_put_same hm (K.key hkey) _ _⟩
 · have hne:kl' ≠ kl:=fun e'=>e (K.inj hk' (e' ▸ hkey))
   rw [putV_other f v e]
   obtain ⟨k1,k2⟩:=h2 key' kl' hk'
   exact ⟨fun h=>by rw [has_put_other hne];exact k1 h,fun j hj=>⟨by rw [has_put_other hne];exact (k2 j hj).1,fun zd=>by rw [atKey_put_other hne];exact (k2 j hj).2 zd⟩⟩
theorem MapV.put {k t e:TypeId} (K:Keyed Tryz.prog k) (ht : Tryz.prog.underlying t=some (.map k e)) {w:World} {b n:Nat} {f:Value→Option Value} (h:MapV k w b n f) (hn:n<maxLen) {key:Value} {kl:Lit} (hkey:keyOf Tryz.prog k key=some kl) (v:Value) :
 ∃ w',(Instr.mapUpdate t (.map (some b)) key v).run Tryz.prog w = .ok () w'∧MapV k w' b (n+1) (putV f key v)∧w.grownBy w' (some b)∧w'.heap.size=w.heap.size:=by
 obtain ⟨D,h1,h2⟩:=h
 obtain ⟨w',hrun,h3,h4⟩:=h1.store K ht hn hkey (R:=selfR) (val:=v) rfl
 refine ⟨w',hrun,MapV.after K h1 hkey h2 h3,h4.grown,?_⟩
 obtain ⟨es,clock,es',clock',hb,rfl⟩:=h4
 show (w.heap.setIfInBounds b _).size=_
 simp
end
section
open Go.RowKit Go.Sort Go.Maps
open Oct
theorem lv_of (sb:Nat) (ta:Option Addr) (nl tc:Nat) (w:World) :
 Calls Tryz.prog 45 #[.pointer (some ⟨sb,0,none⟩),.slice ta nl tc] w fun e w'=>e = .returned (.pointer (some ⟨w.heap.size+1,0,none⟩))∧Below w.heap.size w w'∧Bk w' (w.heap.size+1) #[.pointer (some ⟨sb,0,none⟩),.slice ta nl tc,.map (some w.heap.size)] 138∧MapV 140 w' w.heap.size 0 (fun _=>none):=by
 have hmm:=@run_makeMap Tryz.prog
 go_enter Tryz.func45,Tryz.ntmps45
 go_wp2_with fail
 go_ret
 refine ⟨by simp,((Below.refl _ _).alloc (Nat.le_refl _) _).alloc (by simp) _,blk_new _ _ _ (by simp),?_⟩
 exact (MapV.made 140 w).of_block (Below.heap_alloc _ _ _ (by simp))
end
section
open Go.RowKit Go.ChangeShapes Go.WideShapes
open Oct
theorem wf_u8 {n:Int} (h:(Lit.int .u8 n).wf=true):0≤n∧n<256:=by
 simp [Lit.wf,IntKind.min,IntKind.max,IntKind.bits,IntKind.signed] at h
 omega
theorem cellsPt : Tryz.prog.cellsOf 23=3:=by kernel_rfl
theorem cellsBox : Tryz.prog.cellsOf 25=6:=by kernel_rfl
theorem cellsGrid : Tryz.prog.cellsOf 28=7:=by kernel_rfl
theorem cellsIntT : Tryz.prog.cellsOf 3=1:=by kernel_rfl
theorem cellsInts : Tryz.prog.cellsOf 26=1:=by kernel_rfl
theorem row_sl {k:IntKind} {w:World} {a:Option Addr} {len cap:Nat} {zs:List Int}
 (h:(a=none∧len=0∧cap=0∧zs=[]) ∨ ∃ x,a=some x∧len≤cap∧cap≤maxLen∧zs.length=cap∧(∀ i,i<zs.length→w.cell? (x.add i)=some (.int k (zs.getD i 0))) ∧ ∀ n∈zs,(Lit.int k n).wf=true) :
 ∃ xs:List Int,len=xs.length∧Sl w k a xs:=by
 rcases h with ⟨rfl,rfl,rfl,rfl⟩ | ⟨x,rfl,hl,hm,hz,hc,hw⟩
 · exact ⟨[],rfl,Sl.nil _ _ _⟩
 · refine ⟨zs.take len,by simp;omega,fun i y hy=>?_⟩
   rw [List.getElem?_take] at hy
   split at hy
   · rename_i hi
     have h1:=hc i (by omega)
     have h2:w.cell? (x.add i)=some (.int k y):=by rw [h1];simp [List.getD,hy]
     obtain ⟨b,off,spot⟩:=x
     have hspot:spot=none:=by
      have h0:=hc 0 (by omega)
      simpa [Addr.add] using World.cell?_spot h0
     subst hspot
     refine ⟨b,off,rfl,?_⟩
     have:(⟨b,off,none⟩:Addr).add i=⟨b,off+i,none⟩:=by unfold Addr.add;split <;> simp_all
     rwa [this] at h2
   · cases hy
section
variable {H:Type} {enc:TypeId × Value→H} {w:World} {base:Nat} {spare:Nat→Bool} {held:Bool} {fuel:Nat} {x:DataW H × List MemPlace}
theorem trod_int1 {v:Value} (h:DataW.trod enc Tryz.prog w base spare held fuel 3 [v]=some x) : ∃ n:Int,v = .int .i64 n∧(Lit.int .i64 n).wf=true:=by
 obtain ⟨n,h1,_,h2⟩:=DataW.trod_int Tryz.underlying3 h
 simp only [List.cons.injEq,and_true] at h1
 exact ⟨n,h1,h2⟩
theorem trod_pt {c0 c1 c2:Value} (h:DataW.trod enc Tryz.prog w base spare held fuel 23 [c0,c1,c2]=some x) :
 ∃ a b c:Int,c0 = .int .i64 a∧c1 = .int .i64 b∧c2 = .int .i64 c:=by
 obtain ⟨y0,y1,y2,n,_,_,h0,h1,h2⟩:=Go.Deep.trod_struct3 Tryz.underlying23 h
 have h0:DataW.trod enc Tryz.prog w base spare held n 3 [c0]=some y0:=by simpa [cellsIntT] using h0
 have h1:DataW.trod enc Tryz.prog w base spare held n 3 [c1]=some y1:=by simpa [cellsIntT] using h1
 have h2:DataW.trod enc Tryz.prog w base spare held n 3 [c2]=some y2:=by simpa [cellsIntT] using h2
 obtain ⟨a,e0,_⟩:=trod_int1 h0
 obtain ⟨b,e1,_⟩:=trod_int1 h1
 obtain ⟨c,e2,_⟩:=trod_int1 h2
 exact ⟨a,b,c,e0,e1,e2⟩
theorem trod_box {c0 c1 c2 c3 c4 c5:Value} (h:DataW.trod enc Tryz.prog w base spare held fuel 25 [c0,c1,c2,c3,c4,c5]=some x) :
 ∃ a b c d e f:Int,c0 = .int .i64 a∧c1 = .int .i64 b∧c2 = .int .i64 c∧c3 = .int .i64 d∧c4 = .int .i64 e∧c5 = .int .i64 f:=by
 obtain ⟨y0,y1,n,_,_,h0,h1⟩:=trod_struct2 Tryz.underlying25 h
 have h0:DataW.trod enc Tryz.prog w base spare held n 23 [c0,c1,c2]=some y0:=by simpa [cellsPt] using h0
 have h1:DataW.trod enc Tryz.prog w base spare held n 23 [c3,c4,c5]=some y1:=by simpa [cellsPt] using h1
 obtain ⟨a,b,c,e0,e1,e2⟩:=trod_pt h0
 obtain ⟨d,e,f,e3,e4,e5⟩:=trod_pt h1
 exact ⟨a,b,c,d,e,f,e0,e1,e2,e3,e4,e5⟩
theorem trod_ints {v:Value} (h:DataW.trod enc Tryz.prog w base (fun _=>true) held fuel 26 [v]=some x) :
 ∃ ha hcp,∃ xs:List Int,v = .slice ha xs.length hcp∧Sl w .i64 ha xs∧xs.length≤hcp:=by
 rcases open_ints Tryz.underlying26 Tryz.underlying3 cellsIntT h with ⟨h1,_⟩ | ⟨a,len,cap,zs,h1,_,hl,hm,hz,_,hc,hw⟩
 · simp only [List.cons.injEq,and_true] at h1
   exact ⟨none,0,[],h1,Sl.nil _ _ _,by simp⟩
 · simp only [List.cons.injEq,and_true] at h1
   simp only [if_true] at hz
   obtain ⟨xs,e,hs⟩:=row_sl (k:=.i64) (w:=w) (a:=some a) (len:=len) (cap:=cap) (zs:=zs) (Or.inr ⟨a,rfl,hl,hm,hz,hc,hw⟩)
   exact ⟨some a,cap,xs,by rw [h1,e],hs,by omega⟩
theorem list7 {α:Type} {l:List α} (h:l.length=7) : ∃ a b c d e f g,l=[a,b,c,d,e,f,g]:=by
 match l,h with
 | [a,b,c,d,e,f,g],_=>exact ⟨a,b,c,d,e,f,g,rfl⟩
set_option maxRecDepth 100000 in
theorem open_grid {r:Reach} {b0:Nat} {v:Value} {d:DataW H} {p:List MemPlace} (hv:Value.okWide Tryz.prog w r b0 28 v) (h:DataW.Trod enc Tryz.prog w base (fun _=>true) held 28 v d p) :
 ∃ (a b c d e f:Int) (ha:Option Addr) (hcp:Nat) (xs:List Int),v = .agg #[a,b,c,d,e,f,.slice ha xs.length hcp]∧Sl w .i64 ha xs∧xs.length≤hcp:=by
 obtain ⟨cs,rfl,hsz⟩:=okWide_struct Tryz.underlying28 hv
 obtain ⟨l⟩:=cs
 have hl:l.length=7:=by rw [cellsGrid] at hsz;exact hsz
 obtain ⟨c0,c1,c2,c3,c4,c5,c6,rfl⟩:=list7 hl
 obtain ⟨fuel,hf⟩:=h
 obtain ⟨y0,y1,n,_,_,h0,h1⟩:=trod_struct2 Tryz.underlying28 hf
 have h0:DataW.trod enc Tryz.prog w base (fun _=>true) held n 25 [c0,c1,c2,c3,c4,c5]=some y0:=by simpa [Value.cells,cellsBox] using h0
 have h1:DataW.trod enc Tryz.prog w base (fun _=>true) held n 26 [c6]=some y1:=by simpa [Value.cells,cellsInts] using h1
 obtain ⟨a,b,c,d,e,f,rfl,rfl,rfl,rfl,rfl,rfl⟩:=trod_box h0
 obtain ⟨ha,hcp,xs,rfl,hs,hc⟩:=trod_ints h1
 exact ⟨a,b,c,d,e,f,ha,hcp,xs,rfl,hs,hc⟩
end
end
section
open Go.RowKit Go.ChangeShapes Go.WideShapes
open Oct
structure Mat where
 name:ByteArray
 so:Bool
 li:Bool
 fa:Bool
 fade:Int
 e0:Int
 e1:Int
 e2:Int
def Mat.cells (m:Mat):List Value:=[.string m.name,.bool m.so,.bool m.li,.bool m.fa,.int .i64 m.fade,.int .i64 m.e0,.int .i64 m.e1,.int .i64 m.e2]
def SlM (w:World) (a:Option Addr) (L:List Mat):Prop := ∀ (i:Nat) (m:Mat),L[i]? = some m → ∃ b off,a=some ⟨b,off,none⟩ ∧ ∀ j u,m.cells[j]? = some u→w.cell? ⟨b,off+i * 8+j,none⟩=some u
theorem SlM.below {w w':World} {a:Option Addr} {L:List Mat} (h:SlM w a L) (hb:Below w.heap.size w w'):SlM w' a L:=by
 intro i m hm
 obtain ⟨b,off,rfl,hc⟩:=h i m hm
 exact ⟨b,off,rfl,fun j u hu=>cell_later hb (hc j u hu)⟩
def solT (L:List Mat) (c:Int):Bool:=decide (0≤c) && (L[c.toNat]?.map Mat.so).getD false
theorem cellsMat : Tryz.prog.cellsOf 95=8:=by kernel_rfl
theorem cellsEmit : Tryz.prog.cellsOf 93=3:=by kernel_rfl
theorem cellsBool : Tryz.prog.cellsOf 4=1:=by kernel_rfl
theorem cellsStr : Tryz.prog.cellsOf 9=1:=by kernel_rfl
end
section
open Go.RowKit Go.Sort Go.Maps
open Oct
theorem solT_neg {L:List Mat} {c:Int} (h:c<0):solT L c=false:=by unfold solT;rw [show decide (0≤c)=false by simpa using h];rfl
theorem solT_big {L:List Mat} {c:Int} (h:(L.length:Int)≤c):solT L c=false:=by unfold solT;rw [List.getElem?_eq_none (by omega)];simp
theorem solT_at {L:List Mat} {i:Nat} {m:Mat} (h:L[i]? = some m):solT L (i:Int)=m.so:=by unfold solT;rw [Int.toNat_natCast,h];simp
set_option maxRecDepth 100000 in
set_option maxHeartbeats 1000000 in
theorem mat_at (ta:Option Addr) (tc:Nat) (L:List Mat) (c:Int) (hl:L.length≤1000000000) (w:World) (hT:SlM w ta L) :
 Calls Tryz.prog 112 #[.slice ta L.length tc,c] w fun e w' => ∃ m:Mat,e = .returned (.agg #[.string m.name,.bool m.so,.bool m.li,.bool m.fa,m.fade,m.e0,m.e1,m.e2])∧m.so=solT L c∧Below w.heap.size w w':=by
 by_cases h0:c<0
 · have t0:decide (c<0)=true:=by simpa using h0
   have hs:=Bx.mk (solT_neg (L:=L) h0)
   clear h0 hT hl
   generalize L.length=n at *
   go_enter Tryz.func112,Tryz.ntmps112
   go_wp2_with fail
   exact bodyPost_ret (v:=.agg #[.string ByteArray.empty,.bool false,.bool false,.bool false,(16:Int),(0:Int),(0:Int),(0:Int)]) (results_cell_row rfl _ _ w.heap.size 95 #[.string ByteArray.empty,.bool false,.bool false,.bool false,(16:Int),(0:Int),(0:Int),(0:Int)] (0,0) _ rfl (Bk.new _ _ _) Tryz.underlying95 rfl (by kernel_rfl)) rfl ⟨⟨ByteArray.empty,false,false,false,16,0,0,0⟩,rfl,hs.out.symm,(Below.refl _ _).alloc (Nat.le_refl _) _⟩
 have t0:decide (c<0)=false:=by simpa using h0
 by_cases h1:(L.length:Int)≤c
 · have t1:decide (c ≥ (L.length:Int))=true:=by simpa using h1
   have hs:=Bx.mk (solT_big h1)
   clear h0 h1 hT hl
   generalize L.length=n at *
   go_enter Tryz.func112,Tryz.ntmps112
   go_wp2_with fail
   exact bodyPost_ret (v:=.agg #[.string ByteArray.empty,.bool false,.bool false,.bool false,(16:Int),(0:Int),(0:Int),(0:Int)]) (results_cell_row rfl _ _ w.heap.size 95 #[.string ByteArray.empty,.bool false,.bool false,.bool false,(16:Int),(0:Int),(0:Int),(0:Int)] (0,0) _ rfl (Bk.new _ _ _) Tryz.underlying95 rfl (by kernel_rfl)) rfl ⟨⟨ByteArray.empty,false,false,false,16,0,0,0⟩,rfl,hs.out.symm,(Below.refl _ _).alloc (Nat.le_refl _) _⟩
 have t1:decide (c ≥ (L.length:Int))=false:=by simpa using h1
 obtain ⟨i,rfl⟩ : ∃ i:Nat,c=(i:Int):=⟨c.toNat,by omega⟩
 have hi:i<L.length:=by omega
 obtain ⟨b,off,rfl,hc⟩:=hT i L[i] (List.getElem?_eq_getElem hi)
 have hs:=Bx.mk (solT_at (List.getElem?_eq_getElem hi))
 have b1:(0:Int)≤(i:Int):=by omega
 have b2:(i:Int)<(L.length:Int):=by omega
 generalize L[i]=m at *
 have d0 : ∀ o,(w.alloc o).cell? ⟨b,off+i * 8,none⟩=some (.string m.name):=fun o=>cell_later ((Below.refl _ _).alloc (Nat.le_refl _) _) (hc 0 _ rfl)
 have d1 : ∀ o,(w.alloc o).cell? ⟨b,off+i * 8+1,none⟩=some (.bool m.so):=fun o=>cell_later ((Below.refl _ _).alloc (Nat.le_refl _) _) (hc 1 _ rfl)
 have d2 : ∀ o,(w.alloc o).cell? ⟨b,off+i * 8+2,none⟩=some (.bool m.li):=fun o=>cell_later ((Below.refl _ _).alloc (Nat.le_refl _) _) (hc 2 _ rfl)
 have d3 : ∀ o,(w.alloc o).cell? ⟨b,off+i * 8+3,none⟩=some (.bool m.fa):=fun o=>cell_later ((Below.refl _ _).alloc (Nat.le_refl _) _) (hc 3 _ rfl)
 have d4 : ∀ o,(w.alloc o).cell? ⟨b,off+i * 8+4,none⟩=some (.int .i64 m.fade):=fun o=>cell_later ((Below.refl _ _).alloc (Nat.le_refl _) _) (hc 4 _ rfl)
 have d5 : ∀ o,(w.alloc o).cell? ⟨b,off+i * 8+5,none⟩=some (.int .i64 m.e0):=fun o=>cell_later ((Below.refl _ _).alloc (Nat.le_refl _) _) (hc 5 _ rfl)
 have d6 : ∀ o,(w.alloc o).cell? ⟨b,off+i * 8+6,none⟩=some (.int .i64 m.e1):=fun o=>cell_later ((Below.refl _ _).alloc (Nat.le_refl _) _) (hc 6 _ rfl)
 have d7 : ∀ o,(w.alloc o).cell? ⟨b,off+i * 8+7,none⟩=some (.int .i64 m.e2):=fun o=>cell_later ((Below.refl _ _).alloc (Nat.le_refl _) _) (hc 7 _ rfl)
 clear hi hT hc h0 h1
 generalize L.length=n at *
 go_enter Tryz.func112,Tryz.ntmps112
 go_wp2_with fail
 exact bodyPost_ret (v:=.agg #[.string m.name,.bool m.so,.bool m.li,.bool m.fa,m.fade,m.e0,m.e1,m.e2]) (results_cell_row rfl _ _ w.heap.size 95 #[.string m.name,.bool m.so,.bool m.li,.bool m.fa,m.fade,m.e0,m.e1,m.e2] (0,0) _ rfl (Bk.new _ _ _) Tryz.underlying95 rfl (by kernel_rfl)) rfl ⟨m,rfl,hs.out.symm,(Below.refl _ _).alloc (Nat.le_refl _) _⟩
set_option maxRecDepth 100000 in
theorem mat_solid (ta:Option Addr) (tc:Nat) (L:List Mat) (c:Int) (hl:L.length≤1000000000) (w:World) (hT:SlM w ta L) :
 Calls Tryz.prog 57 #[.slice ta L.length tc,c] w fun e w'=>e = .returned (.bool (solT L c))∧Below w.heap.size w w':=by
 have H:=Bx.mk (mat_at ta tc L c hl w hT)
 generalize solT L c=s at *
 generalize L.length=n at *
 clear hl hT
 go_enter Tryz.func57,Tryz.ntmps57
 go_wp2_with fail
 refine H.out.mono ?_
 rintro _ w1 ⟨m,rfl,hs,hb⟩
 have HB:=Bx.mk hb
 have hfd : ∀ W:World,(Instr.field 95 (.agg #[.string m.name,.bool m.so,.bool m.li,.bool m.fa,m.fade,m.e0,m.e1,m.e2]) 1).run Tryz.prog W = .ok (.bool s) W:=fun _=>by rw [←hs];kernel_rfl
 clear hb hs
 go_wp2_with fail
 go_ret
 exact ⟨rfl,HB.out⟩
set_option maxRecDepth 100000 in
set_option maxHeartbeats 1000000 in
theorem ref_at (ta:Option Addr) (tc:Nat) (L:List Mat) (c:Int) (hl:L.length≤1000000000) (w:World) (hT:SlM w ta L) :
 Calls Tryz.prog 58 #[.slice ta L.length tc,c] w fun e w' => ∃ m:Mat,e = .returned (.agg #[.string m.name,.bool m.so,.bool m.li,.bool m.fa,m.fade,m.e0,m.e1,m.e2])∧m.so=solT L c∧Below w.heap.size w w':=by
 by_cases h0:c<0
 · have t0:decide (c<0)=true:=by simpa using h0
   have hs:=Bx.mk (solT_neg (L:=L) h0)
   clear h0 hT hl
   generalize L.length=n at *
   go_enter Tryz.func58,Tryz.ntmps58
   go_wp2_with fail
   exact bodyPost_ret (v:=.agg #[.string ByteArray.empty,.bool false,.bool false,.bool false,(16:Int),(0:Int),(0:Int),(0:Int)]) (results_cell_row rfl _ _ w.heap.size 95 #[.string ByteArray.empty,.bool false,.bool false,.bool false,(16:Int),(0:Int),(0:Int),(0:Int)] (0,0) _ rfl (Bk.new _ _ _) Tryz.underlying95 rfl (by kernel_rfl)) rfl ⟨⟨ByteArray.empty,false,false,false,16,0,0,0⟩,rfl,hs.out.symm,(Below.refl _ _).alloc (Nat.le_refl _) _⟩
 have t0:decide (c<0)=false:=by simpa using h0
 by_cases h1:(L.length:Int)≤c
 · have t1:decide (c ≥ (L.length:Int))=true:=by simpa using h1
   have hs:=Bx.mk (solT_big h1)
   clear h0 h1 hT hl
   generalize L.length=n at *
   go_enter Tryz.func58,Tryz.ntmps58
   go_wp2_with fail
   exact bodyPost_ret (v:=.agg #[.string ByteArray.empty,.bool false,.bool false,.bool false,(16:Int),(0:Int),(0:Int),(0:Int)]) (results_cell_row rfl _ _ w.heap.size 95 #[.string ByteArray.empty,.bool false,.bool false,.bool false,(16:Int),(0:Int),(0:Int),(0:Int)] (0,0) _ rfl (Bk.new _ _ _) Tryz.underlying95 rfl (by kernel_rfl)) rfl ⟨⟨ByteArray.empty,false,false,false,16,0,0,0⟩,rfl,hs.out.symm,(Below.refl _ _).alloc (Nat.le_refl _) _⟩
 have t1:decide (c ≥ (L.length:Int))=false:=by simpa using h1
 obtain ⟨i,rfl⟩ : ∃ i:Nat,c=(i:Int):=⟨c.toNat,by omega⟩
 have hi:i<L.length:=by omega
 obtain ⟨b,off,rfl,hc⟩:=hT i L[i] (List.getElem?_eq_getElem hi)
 have hs:=Bx.mk (solT_at (List.getElem?_eq_getElem hi))
 have b1:(0:Int)≤(i:Int):=by omega
 have b2:(i:Int)<(L.length:Int):=by omega
 generalize L[i]=m at *
 have d0 : ∀ o,(w.alloc o).cell? ⟨b,off+i * 8,none⟩=some (.string m.name):=fun o=>cell_later ((Below.refl _ _).alloc (Nat.le_refl _) _) (hc 0 _ rfl)
 have d1 : ∀ o,(w.alloc o).cell? ⟨b,off+i * 8+1,none⟩=some (.bool m.so):=fun o=>cell_later ((Below.refl _ _).alloc (Nat.le_refl _) _) (hc 1 _ rfl)
 have d2 : ∀ o,(w.alloc o).cell? ⟨b,off+i * 8+2,none⟩=some (.bool m.li):=fun o=>cell_later ((Below.refl _ _).alloc (Nat.le_refl _) _) (hc 2 _ rfl)
 have d3 : ∀ o,(w.alloc o).cell? ⟨b,off+i * 8+3,none⟩=some (.bool m.fa):=fun o=>cell_later ((Below.refl _ _).alloc (Nat.le_refl _) _) (hc 3 _ rfl)
 have d4 : ∀ o,(w.alloc o).cell? ⟨b,off+i * 8+4,none⟩=some (.int .i64 m.fade):=fun o=>cell_later ((Below.refl _ _).alloc (Nat.le_refl _) _) (hc 4 _ rfl)
 have d5 : ∀ o,(w.alloc o).cell? ⟨b,off+i * 8+5,none⟩=some (.int .i64 m.e0):=fun o=>cell_later ((Below.refl _ _).alloc (Nat.le_refl _) _) (hc 5 _ rfl)
 have d6 : ∀ o,(w.alloc o).cell? ⟨b,off+i * 8+6,none⟩=some (.int .i64 m.e1):=fun o=>cell_later ((Below.refl _ _).alloc (Nat.le_refl _) _) (hc 6 _ rfl)
 have d7 : ∀ o,(w.alloc o).cell? ⟨b,off+i * 8+7,none⟩=some (.int .i64 m.e2):=fun o=>cell_later ((Below.refl _ _).alloc (Nat.le_refl _) _) (hc 7 _ rfl)
 clear hi hT hc h0 h1
 generalize L.length=n at *
 go_enter Tryz.func58,Tryz.ntmps58
 go_wp2_with fail
 exact bodyPost_ret (v:=.agg #[.string m.name,.bool m.so,.bool m.li,.bool m.fa,m.fade,m.e0,m.e1,m.e2]) (results_cell_row rfl _ _ w.heap.size 95 #[.string m.name,.bool m.so,.bool m.li,.bool m.fa,m.fade,m.e0,m.e1,m.e2] (0,0) _ rfl (Bk.new _ _ _) Tryz.underlying95 rfl (by kernel_rfl)) rfl ⟨m,rfl,hs.out.symm,(Below.refl _ _).alloc (Nat.le_refl _) _⟩
set_option maxRecDepth 100000 in
theorem ref_solid (ta:Option Addr) (tc:Nat) (L:List Mat) (c:Int) (hl:L.length≤1000000000) (w:World) (hT:SlM w ta L) :
 Calls Tryz.prog 24 #[.slice ta L.length tc,c] w fun e w'=>e = .returned (.bool (solT L c))∧Below w.heap.size w w':=by
 have H:=Bx.mk (ref_at ta tc L c hl w hT)
 generalize solT L c=s at *
 generalize L.length=n at *
 clear hl hT
 go_enter Tryz.func24,Tryz.ntmps24
 go_wp2_with fail
 refine H.out.mono ?_
 rintro _ w1 ⟨m,rfl,hs,hb⟩
 have HB:=Bx.mk hb
 have hfd : ∀ W:World,(Instr.field 95 (.agg #[.string m.name,.bool m.so,.bool m.li,.bool m.fa,m.fade,m.e0,m.e1,m.e2]) 1).run Tryz.prog W = .ok (.bool s) W:=fun _=>by rw [←hs];kernel_rfl
 clear hb hs
 go_wp2_with fail
 go_ret
 exact ⟨rfl,HB.out⟩
end
section
open Go.RowKit Go.Sort Go.Maps
open Oct
def lvV (d:Int):Int:=if 2≤d∧d≤14 then d - 1 else 0
def sizeV (k:Int):Int:=if 0≤k∧k≤12 then 2 ^ k.toNat else 0
theorem lv_levels (d:Int) (w:World):Calls Tryz.prog 19 #[d] w fun e w'=>e = .returned (.int .i64 (lvV d))∧w=w':=by
 unfold lvV
 by_cases h0:d<2
 · have t0:decide (d<2)=true:=by simpa using h0
   rw [if_neg (by omega)]
   go_enter Tryz.func19,Tryz.ntmps19
   go_wp2_with fail
   go_ret
   exact ⟨rfl,rfl⟩
 have t0:decide (d<2)=false:=by simpa using h0
 by_cases h1:14<d
 · have t1:decide (d > 14)=true:=by simpa using h1
   rw [if_neg (by omega)]
   go_enter Tryz.func19,Tryz.ntmps19
   go_wp2_with fail
   go_ret
   exact ⟨rfl,rfl⟩
 have t1:decide (d > 14)=false:=by simpa using h1
 have hw:IntKind.i64.wrap (d - 1)=d - 1:=IntWalk.i64_in _ (by omega)
 rw [if_pos (by omega)]
 go_enter Tryz.func19,Tryz.ntmps19
 go_wp2_with fail
 go_ret
 exact ⟨rfl,rfl⟩
theorem lv_size (k:Int) (w:World):Calls Tryz.prog 21 #[k] w fun e w'=>e = .returned (.int .i64 (sizeV k))∧w=w':=by
 unfold sizeV
 by_cases h0:k<0
 · have t0:decide (k<0)=true:=by simpa using h0
   rw [if_neg (by omega)]
   go_enter Tryz.func21,Tryz.ntmps21
   go_wp2_with fail
   go_ret
   exact ⟨rfl,rfl⟩
 have t0:decide (k<0)=false:=by simpa using h0
 by_cases h1:12<k
 · have t1:decide (k > 12)=true:=by simpa using h1
   rw [if_neg (by omega)]
   go_enter Tryz.func21,Tryz.ntmps21
   go_wp2_with fail
   go_ret
   exact ⟨rfl,rfl⟩
 have t1:decide (k > 12)=false:=by simpa using h1
 rw [if_pos (by omega)]
 obtain ⟨n,rfl⟩ : ∃ n:Nat,k=(n:Int):=⟨k.toNat,by omega⟩
 have hp:IntKind.i64.wrap ((2:Int) ^ n)=2 ^ n:=pow_wrap (by omega)
 have hp1:(0:Int)≤(n:Int):=by omega
 have hw2:wrap64 (2 ^ n)=2 ^ n:=by rw [←IntWalk.i64_left];exact hp
 rw [Int.toNat_natCast]
 obtain ⟨m,hm⟩ : ∃ m,m=(2:Int) ^ n:=⟨_,rfl⟩
 go_enter Tryz.func21,Tryz.ntmps21
 go_wp2_with fail
 go_ret
 exact ⟨by first | rfl | rw [hp] | rw [hw2],rfl⟩
theorem lv_rsize (k:Int) (w:World):Calls Tryz.prog 22 #[k] w fun e w'=>e = .returned (.int .i64 (sizeV k))∧w=w':=by
 unfold sizeV
 by_cases h0:k<0
 · have t0:decide (k<0)=true:=by simpa using h0
   rw [if_neg (by omega)]
   go_enter Tryz.func22,Tryz.ntmps22
   go_wp2_with fail
   go_ret
   exact ⟨rfl,rfl⟩
 have t0:decide (k<0)=false:=by simpa using h0
 by_cases h1:12<k
 · have t1:decide (k > 12)=true:=by simpa using h1
   rw [if_neg (by omega)]
   go_enter Tryz.func22,Tryz.ntmps22
   go_wp2_with fail
   go_ret
   exact ⟨rfl,rfl⟩
 have t1:decide (k > 12)=false:=by simpa using h1
 rw [if_pos (by omega)]
 obtain ⟨n,rfl⟩ : ∃ n:Nat,k=(n:Int):=⟨k.toNat,by omega⟩
 have hn:n≤12:=by omega
 rw [Int.toNat_natCast]
 clear h0 h1
 go_enter Tryz.func22,Tryz.ntmps22
 go_wp2
 go_loop [3,4] (fun a i => ∃ j:Nat,j≤n∧i = .int .i64 j∧a = .int .i64 (2 ^ j)) (fun _ i=>n - (intOf i).toNat)
 case atStart=>exact ⟨0,Nat.zero_le _,rfl,rfl⟩
 case round =>
  obtain ⟨j,hj,rfl,rfl⟩:=hrel
  by_cases hlt:j<n
  · have t2:decide ((j:Int)<(n:Int))=true:=by simpa using hlt
    have hm:IntKind.i64.wrap (2 * 2 ^ j)=2 ^ (j+1):=by rw [show (2:Int) * 2 ^ j=2 ^ (j+1) by rw [Int.pow_succ,Int.mul_comm]];exact pow_wrap (by omega)
    go_wp2
    go_round
    case rel=>exact ⟨j+1,by omega,by go_num,rfl⟩
    case measure=>simp [intOf];omega
  · obtain rfl:j=n:=by omega
    have t2:decide ((j:Int)<(j:Int))=false:=by simp
    go_wp2
    go_ret
    exact ⟨rfl,rfl⟩
end
end Go.Proofs.YtgnfgblkpnfcnaaGreatDoor
