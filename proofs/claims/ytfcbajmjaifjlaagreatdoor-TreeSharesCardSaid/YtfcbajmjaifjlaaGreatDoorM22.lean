/- Nd2, Nd3, Lv1, RlN, Hs1, Hs0, Lv2, Lv3: joined by program, for one claim. -/
import Derived.Test.YtfcbajmjaifjlaaGreatDoorM21
import Derived.RangeFuncNested
import Derived.RangeFuncBound
import Derived.RangeFuncCalls
import Derived.RangeFuncLeaves
import Derived.Shelf.RegionOpen
import Derived.OwnWalkIn
import Derived.TacticsInMore
import Derived.LoopNIn
import Derived.LoopIn
import Derived.OrdersIn
set_option maxHeartbeats 4000000
set_option maxRecDepth 100000
set_option linter.unusedVariables false
set_option linter.unusedSimpArgs false
namespace Go.Proofs.YtfcbajmjaifjlaaGreatDoor
section
open Go.RowKit Go.Sort Go.Maps
open Oct
abbrev zKi (w0:World) (ps po pv pm mb sb:Nat) (ts us An:List Tr) (e:Ending) (W':World):Prop:=e = .returned (.tuple #[])∧NSt w0 ps po pv pm mb sb ts us An W'
theorem zGR (w0 w:World) (ps po pv pm mb sb:Nat) (ts us An:List Tr) (T:Tr) (hT:T∈ts) (hlen:ts.length≤4194304) (hm:T∈us) (H:NSt w0 ps po pv pm mb sb ts us An w) :
 Calls Tryz.prog 84 #[(idT ts T:Int),.pointer (some ⟨pm,0,none⟩),.pointer (some ⟨ps,0,none⟩),.pointer (some ⟨pv,0,none⟩),.pointer (some ⟨po,0,none⟩)] w (zKi w0 ps po pv pm mb sb ts us An):=by
 have hl:=(H.look hlen hT).1 (.inl hm);have c0:=H.km.cell 0 rfl;have HH:=Bx.mk H;clear H hT hlen hm;go_enter Tryz.func84,Tryz.ntmps84;go_wp2_with fail
 go_end0
 exact ⟨rfl,HH.out⟩
theorem zJg (most:Int) (w0 w:World) (ps po pv pm mb sb:Nat) (ts us An:List Tr) (T:Tr) (hT:T∈ts) (hlen:ts.length≤4194304) (hu:us.length≤4194304) (hA:An.length≤100) (hm:T ∉ us) (hm2:T ∉ An) (hk3:zAE T ≠ 3) (H:NSt w0 ps po pv pm mb sb ts us An w) (hS:StoreIs w0 (fun k=>w0.heap.size≤k) sb most ts) :
 Calls Tryz.prog 84 #[(idT ts T:Int),.pointer (some ⟨pm,0,none⟩),.pointer (some ⟨ps,0,none⟩),.pointer (some ⟨pv,0,none⟩),.pointer (some ⟨po,0,none⟩)] w (zKi w0 ps po pv pm mb sb ts (us++[T]) An):=by
 have hl:=(H.look hlen hT).2 (fun h=>h.elim hm hm2);have c0:=H.km.cell 0 rfl;obtain ⟨W,hput,H1⟩:=H.mark hlen (by simp only [maxLen];omega) hT
 have Hk:=zo _ sb most ts T hT hlen W (hS.later H1.bel);have t0:(zAE T == 3)=false:=by simpa using hk3
 obtain ⟨v,k1,k2,k3⟩:=H1.ko;have s0:=H1.ks.cell 0 rfl;have o0:=k1.cell 0 rfl;have hun:(zJj ts us).length≤1000000000:=by simp;omega
 have HU:=Bx.mk hun;have HK:=Bx.mk Hk;have HH:=Bx.mk H1;have K1:=Bx.mk k1;have K2:=Bx.mk k2;have hbase:=Bx.mk H1.bel.size;have hpoW:=k1.lt;have Hnav:=Bx.mk k3;obtain ⟨va,vc,rfl⟩:=zk k2;generalize hiT:(idT ts T:Int)=iT at *;have HIT:=Bx.mk hiT;generalize hL:zJj ts us=L at *;have HL:=Bx.mk hL;generalize zAE T=kT at *;clear H H1 hT hlen hm hm2 hk3 hS Hk k2 k1 k3 hun hu hA hiT hL;go_enter Tryz.func84,Tryz.ntmps84;go_wp2_with (first | ((with_reducible refine HK.out.mono ?_);rintro _ _ ⟨rfl,rfl⟩) | (at_builtin;refine zO rfl _ _ 26 rfl 3 .i64 (.int .i64 0) 8 (by omega) Tryz.underlying26 (by kernel_rfl) rfl w0.heap.size _ L rfl (K2.out.alloc _) iT ⟨W.heap.size,0,none⟩ 1 rfl (zn _ _ _) HU.out (zb hbase.out _) ?_;intro v6 W6 hown6 hgr6 hat6;obtain ⟨va6,vc6,rfl⟩:=zk hown6;have hpu:=Bx.mk (HH.out.push (T:=T) K1.out ((World.grownBy_alloc W _ _).trans hgr6) (by rw [HIT.out,HL.out];exact hown6) (hat6.imp (fun h=>h) (fun h=>⟨_,h,by simp⟩)));have k6:Bk W6 po #[.slice va L.length vc] 26:=(hgr6.block po (by simp;omega) (fun e=>(Hnav.out po e.symm).2.2.2.2 rfl)).trans (zB K1.out);have o6:=k6.cell 0 rfl;have f6:=k6.frozen 0;clear hown6 hgr6 hat6 k6))
 go_end0
 exact ⟨rfl,by have h:=hpu.out;rw [List.length_append,List.length_singleton] at h;exact h⟩
theorem zNb (most:Int) (w0 w:World) (ps po pv pm mb sb:Nat) (ts us An:List Tr) (d:Nat) (ch:Fin 8→Tr) (hT:Tr.node d ch∈ts) (hlen:ts.length≤4194304) (hu:us.length≤4194304) (hu8:(Tr.addK ch 8 us).length≤4194304) (hA:An.length≤100) (hm:Tr.node d ch ∉ us) (hm2:Tr.node d ch ∉ An) (H:NSt w0 ps po pv pm mb sb ts us An w) (hS:StoreIs w0 (fun k=>w0.heap.size≤k) sb most ts)
 (IH:Bx (∀ (k:Nat) (hk:k<8) (W:World),NSt w0 ps po pv pm mb sb ts (Tr.addK ch k us) (.node d ch::An) W→Calls Tryz.prog 84 #[(idT ts (ch ⟨k,hk⟩):Int),.pointer (some ⟨pm,0,none⟩),.pointer (some ⟨ps,0,none⟩),.pointer (some ⟨pv,0,none⟩),.pointer (some ⟨po,0,none⟩)] W (zKi w0 ps po pv pm mb sb ts (Tr.addK ch (k+1) us) (.node d ch::An)))) :
 Calls Tryz.prog 84 #[(idT ts (.node d ch):Int),.pointer (some ⟨pm,0,none⟩),.pointer (some ⟨ps,0,none⟩),.pointer (some ⟨pv,0,none⟩),.pointer (some ⟨po,0,none⟩)] w (zKi w0 ps po pv pm mb sb ts (Tr.addK ch 8 us++[.node d ch]) An):=by
 have hl:=(H.look hlen hT).2 (fun h=>h.elim hm hm2);have c0:=H.km.cell 0 rfl;obtain ⟨W,hput,H1⟩:=H.mark hlen (by simp only [maxLen];omega) hT
 have Hk:=zo _ sb most ts _ hT hlen W (hS.later H1.bel);have Hc:=zBE _ sb most ts d ch hT W (hS.later H1.bel);have t0:(zAE (.node d ch) == 3)=true:=rfl;have s0:=H1.ks.cell 0 rfl;have HK:=Bx.mk Hk;have HC:=Bx.mk Hc;have HH:=Bx.mk H1
 have hidx:Bx (∀ (k:Nat),k<8 → ∀ W,(Instr.index 98 (zDd ts (.node d ch)) (.int .i64 (k:Int))).run Tryz.prog W = .ok (.int .i64 (idT ts (zDx (.node d ch) k):Int)) W):=⟨fun k hk W=>by
  rw [zBI _ hk];unfold zDd;rcases k with _ | _ | _ | _ | _ | _ | _ | _ | k
  all_goals first | rfl | omega⟩
 have hun:Bx ((zJj ts (Tr.addK ch 8 us)).length≤1000000000):=⟨by simp;omega⟩
 generalize hiT:(idT ts (Tr.node d ch):Int)=iT at *;have HIT:=Bx.mk hiT;generalize zDd ts (Tr.node d ch)=kV at *;generalize zAE (Tr.node d ch)=kT at *;clear H H1 hT hlen hm hm2 hS Hk Hc hu hu8 hA hiT;go_enter Tryz.func84,Tryz.ntmps84;go_wp2_with (first | ((with_reducible refine HK.out.mono ?_);rintro _ _ ⟨rfl,rfl⟩) | ((with_reducible refine HC.out.mono ?_);rintro _ W2 ⟨rfl,hb2⟩));have HI:Bx (NSt w0 ps po pv pm mb sb ts (Tr.addK ch 0 us) (.node d ch::An) W2):=⟨HH.out.later hb2⟩;clear hb2 HH s0 hput c0 hl HK HC
 go_loopw [20] (fun v20 wr => ∃ k:Nat,k≤8∧v20 = .int .i64 k∧Bx (NSt w0 ps po pv pm mb sb ts (Tr.addK ch k us) (.node d ch::An) wr)) (fun i _=>8 - (intOf i).toNat)
 case atStart=>exact ⟨0,Nat.zero_le _,rfl,HI⟩
 case round =>
  clear HI;obtain ⟨k,hk,rfl,HI⟩:=hrel;by_cases hlt:k<8
  · have t1:decide ((k:Int)<8)=true:=by simp;omega
    have hix:=hidx.out k hlt;have hkn:zDx (.node d ch) k=ch ⟨k,hlt⟩:=zBI _ hlt;rw [hkn] at hix;have hv:=Bx.mk (IH.out k hlt wr HI.out);have v0:=HI.out.kv.cell 0 rfl;clear hkn;generalize (idT ts (ch ⟨k,hlt⟩):Int)=iK at *;go_wp2_with fail;refine hv.out.mono ?_;rintro _ w5 ⟨rfl,hst⟩;have HJ:=Bx.mk hst;clear hst hv HI hix v0;go_wp2_with fail
    go_roundw
    case rel=>exact ⟨k+1,by omega,by go_num,HJ⟩
    case measure=>simp [intOf];omega
  · obtain rfl:k=8:=by omega
    have t1:decide (((8:Nat):Int)<8)=false:=by decide
    have H1:=HI.out;obtain ⟨v,k1,k2,k3⟩:=H1.ko;have o0:=k1.cell 0 rfl;have HH:=HI;have K1:=Bx.mk k1;have K2:=Bx.mk k2;have hbase:=Bx.mk H1.bel.size;have hpoW:=k1.lt;have Hnav:=Bx.mk k3;obtain ⟨va,vc,rfl⟩:=zk k2;have HU:=hun;generalize hL:zJj ts (Tr.addK ch 8 us)=L at *;have HL:=Bx.mk hL;clear H1 k2 k1 k3 hL HI hun;go_wp2_with (at_builtin;refine zO rfl _ _ 26 rfl 3 .i64 (.int .i64 0) 8 (by omega) Tryz.underlying26 (by kernel_rfl) rfl w0.heap.size _ L rfl (K2.out.alloc _) iT ⟨wr.heap.size,0,none⟩ 1 rfl (zn _ _ _) HU.out (zb hbase.out _) ?_;intro v6 W6 hown6 hgr6 hat6;obtain ⟨va6,vc6,rfl⟩:=zk hown6;have hpu:=Bx.mk (HH.out.push (T:=Tr.node d ch) K1.out ((World.grownBy_alloc wr _ _).trans hgr6) (by rw [HIT.out,HL.out];exact hown6) (hat6.imp (fun h=>h) (fun h=>⟨_,h,by simp⟩)));have k6:Bk W6 po #[.slice va L.length vc] 26:=(hgr6.block po (by simp;omega) (fun e=>(Hnav.out po e.symm).2.2.2.2 rfl)).trans (zB K1.out);have o6:=k6.cell 0 rfl;have f6:=k6.frozen 0;clear hown6 hgr6 hat6 k6)
    go_end0
    exact ⟨rfl,by have h:=hpu.out;rw [List.length_append,List.length_singleton] at h;exact h⟩
theorem zEI (most:Int) (ts:List Tr) (hG:Good ts) (hlen:ts.length≤4194304) (ps po pv pm mb sb:Nat) (w0:World) (hS:StoreIs w0 (fun k=>w0.heap.size≤k) sb most ts) :
 ∀ (T : Tr) (n : Nat) (_hT : T ∈ ts) (_hD : Dep n T) (us An : List Tr) (W : World), (∀ x ∈ us, x ∈ ts) → Tr.Closed us → An.length + n ≤ 50 → (∀ A ∈ An, T.sz < A.sz) → NSt w0 ps po pv pm mb sb ts us An W →
   Calls Tryz.prog 84 #[(idT ts T:Int),.pointer (some ⟨pm,0,none⟩),.pointer (some ⟨ps,0,none⟩),.pointer (some ⟨pv,0,none⟩),.pointer (some ⟨po,0,none⟩)] W (zKi w0 ps po pv pm mb sb ts (Tr.add T us) An)
 | .uni c, n, hT, hD, us, An, W, hs, hC, hA, hz, H => by
   by_cases hm:Tr.uni c∈us
   · rw [Tr.add_same _ _ hm];exact zGR w0 W ps po pv pm mb sb ts us An _ hT hlen hm H
   · rw [Tr.add_uni,Tr.ins_of_not hm];have:=hC.1.length_le_of_subset (l₂:=ts) (fun x hx=>hs x hx);exact zJg most w0 W ps po pv pm mb sb ts us An _ hT hlen (by omega) (by omega) hm (fun h=>Nat.lt_irrefl _ (hz _ h)) (by simp [zAE]) H hS
 | .brick l, n, hT, hD, us, An, W, hs, hC, hA, hz, H => by
   by_cases hm:Tr.brick l∈us
   · rw [Tr.add_same _ _ hm];exact zGR w0 W ps po pv pm mb sb ts us An _ hT hlen hm H
   · rw [Tr.add_brick,Tr.ins_of_not hm];have:=hC.1.length_le_of_subset (l₂:=ts) (fun x hx=>hs x hx);exact zJg most w0 W ps po pv pm mb sb ts us An _ hT hlen (by omega) (by omega) hm (fun h=>Nat.lt_irrefl _ (hz _ h)) (by simp [zAE]) H hS
 | .node d ch, n, hT, hD, us, An, W, hs, hC, hA, hz, H => by
   by_cases hm:Tr.node d ch∈us
   · rw [Tr.add_same _ _ hm];exact zGR w0 W ps po pv pm mb sb ts us An _ hT hlen hm H
   · rw [Tr.add_node,if_neg hm]
     obtain ⟨m,rfl,hDk⟩ : ∃ m,n=m+1 ∧ ∀ i,Dep m (ch i):=by
      cases hD with
      | node m _ h=>exact ⟨m,rfl,h⟩
     have hkin : ∀ i,ch i∈ts:=hG.closed.2 d ch hT;have hsub : ∀ k,k≤8 → ∀ x∈Tr.addK ch k us,x∈ts:=fun k hk=>Tr.addK_ind (P:=fun a => ∀ x∈a,x∈ts) (fun i a ha=>zGt hG (ch i) (hkin i) a ha) k hk us hs;have h1:=hC.1.length_le_of_subset (l₂:=ts) (fun x hx=>hs x hx);have h2:=(Tr.Closed.addK (ch:=ch) hC 8 (Nat.le_refl _)).1.length_le_of_subset (l₂:=ts) (fun x hx=>hsub 8 (Nat.le_refl _) x hx);refine zNb most w0 W ps po pv pm mb sb ts us An d ch hT hlen (by omega) (by omega) (by omega) hm (fun h=>Nat.lt_irrefl _ (hz _ h)) H hS ⟨fun k hk W' hst=>?_⟩
     rw [Tr.addK_succ ch hk];refine zEI most ts hG hlen ps po pv pm mb sb w0 hS (ch ⟨k,hk⟩) m (hkin _) (hDk _) (Tr.addK ch k us) (.node d ch::An) W' (hsub k (by omega)) (hC.addK k (by omega)) (by rw [List.length_cons];omega) (fun A hA'=>?_) hst
     rcases List.mem_cons.1 hA' with rfl | hA'
     · exact Tr.sz_kid d ch _
     · exact Nat.lt_trans (Tr.sz_kid d ch _) (hz A hA')
theorem zHg (most:Int) (ts:List Tr) (hG:Good ts) (hlen:ts.length≤4194304) (sb n:Nat) (hn:n≤50) (T:Tr) (hT:T∈ts) (hD:Dep n T) (w:World) (Far:Nat→Prop) (hS:StoreIs w Far sb most ts) :
 Calls Tryz.prog 32 #[.pointer (some ⟨sb,0,none⟩),(idT ts T:Int)] w fun e w' => ∃ v,e = .returned v∧Own w' w.heap.size 3 .i64 v (zJj ts (Tr.add T []))∧Below w.heap.size w w':=by
 have hvis:=Bx.mk fun W H=>zEI most ts hG hlen w.heap.size (w.heap.size+1) (w.heap.size+1+1+1+1) (w.heap.size+1+1+1) (w.heap.size+1+1) sb w ((hS.less (Far:=fun _=>False) (fun k h=>h.elim)).widen (fun k hk=>.inr hk)) T n hT hD [] [] W (fun x hx=>by cases hx) Tr.Closed.nil (by simpa using hn) (fun A hA=>by cases hA) H
 have hmm:=@run_makeMap Tryz.prog;clear hG hlen hn hT hD hS;go_enter Tryz.func32,Tryz.ntmps32;go_upto_region 5 with fail;generalize hW:World.alloc (World.alloc _ _) _=W
 have hM:MapV 3 W (w.heap.size+1+1) 0 (fun _=>none):=by
  rw [←hW];have h:=MapV.made 3 ((w.alloc (Obj.cells #[Value.pointer (some ⟨sb,0,none⟩)] 33)).alloc (Obj.cells #[Value.slice none 0 0] 26));have hsz:((w.alloc (Obj.cells #[Value.pointer (some ⟨sb,0,none⟩)] 33)).alloc (Obj.cells #[Value.slice none 0 0] 26)).heap.size=w.heap.size+1+1:=by simp
  rw [hsz] at h;exact (h.kept (World.grownBy_alloc _ _ none) (by simp)).kept (World.grownBy_alloc _ _ none) (by simp)
 have hB:Below w.heap.size w W:=by rw [←hW];exact (((((Below.refl _ _).alloc (Nat.le_refl _) _).alloc (by simp) _).alloc (by simp;omega) _).alloc (by simp;omega) _).alloc (by simp;omega) _
 have ks:Bk W (w.heap.size) #[.pointer (some ⟨sb,0,none⟩)] 33:=by rw [←hW];exact zB (zB (zB (zB (zI _ _ _ (by simp)))))
 have ko:Bk W (w.heap.size+1) #[.slice none 0 0] 26:=by rw [←hW];exact zB (zB (zB (zI _ _ _ (by simp))))
 have km:Bk W (w.heap.size+1+1+1) #[.map (some (w.heap.size+1+1))] 132:=bk1 hW;have kv:Bk W (w.heap.size+1+1+1+1) #[zMi (w.heap.size+1+1+1) w.heap.size (w.heap.size+1+1+1+1) (w.heap.size+1)] 133:=bk0 hW;have HD:=Bx.mk (hvis.out W ⟨hB,ks,kv,km,⟨_,ko,Own.nil _ _ _ _,fun g hg=>by cases hg⟩,⟨_,hM,fun t _=>⟨fun h=>by simp at h,fun _=>rfl⟩⟩,⟨by omega,by omega,by omega,by omega,by omega⟩,⟨by omega,by omega,by omega,by omega,by omega,by omega,by omega⟩⟩)
 have v0:=kv.cell 0 rfl;clear hW hM hB ks ko km kv hvis hmm;go_wp2_with fail;refine HD.out.mono ?_;rintro _ w5 ⟨rfl,hst⟩;obtain ⟨v,k1,k2,k3⟩:=hst.ko;have HB5:=Bx.mk hst.bel;have HR:=Bx.mk k2;have o0:=k1.cell 0 rfl;clear hst k1 k2 k3 v0 HD;go_wp2_with fail;go_ret;exact ⟨v,rfl,HR.out,HB5.out⟩
end
section
open Go.RowKit Go.Sort Go.Maps
open Oct
attribute [local go_sem] Oper.semAt_some
theorem room_w (k:Nat):Fence.wide.room k:=fun d h=>by cases h
theorem RoundIn.anyDepth' {m m':Nat} {P:Program} {l:Nat} {f:FuncId} {tmps:Array Value} {assign body:Code} {w:World} {R:Ending→World→Prop}
 (h:RoundIn Fence.wide m P l f tmps assign body w R):RoundIn Fence.wide m' P l f tmps assign body w R:=⟨h.1,fun c cs _=>h.2 c cs (room_w _)⟩
theorem YieldAt.anyDepth' {m:Nat} (m':Nat) {P:Program} {l:Nat} {args:Array Value} {W:World} {R:Ending→World→Prop} (h:YieldAt Fence.wide m P l args W R):YieldAt Fence.wide m' P l args W R:=by
 obtain ⟨fn,tmps,assign,body,hy,hR⟩:=h;exact ⟨fn,tmps,assign,body,hy,RoundIn.anyDepth' hR⟩
theorem zNk (l m ps py pv sb:Nat) (x y z lv id kT:Int) (W:World) (R:Ending→World→Prop) (hR : ∀ e W',R e W' → ∃ b:Bool,e = .returned (.bool b))
 (ks:Bk W ps #[.pointer (some ⟨sb,0,none⟩)] 33) (ky:Bk W py #[.func (.yield l) #[] #[]] 161) (hk:kT ≠ 3)
 (Hk : ∀ W',Below W.heap.size W W'→Calls Tryz.prog 24 #[.pointer (some ⟨sb,0,none⟩),id] W' fun e w'=>e = .returned (.int .i64 kT)∧W'=w')
 (hY : ∀ W',Below W.heap.size W W'→YieldAt Fence.wide m Tryz.prog l #[zH x y z lv,id] W' R) :
 Calls Tryz.prog 119 #[zH x y z lv,id,.pointer (some ⟨ps,0,none⟩),.pointer (some ⟨py,0,none⟩),.pointer (some ⟨pv,0,none⟩)] W R:=by
 have hb:Below W.heap.size W (World.alloc W (.cells #[x,y,z,lv] 52)):=(Below.refl _ _).alloc (Nat.le_refl _) _;have HK:=Bx.mk (Hk _ hb);have s0:=(ks.later hb).cell 0 rfl;have y0:=(ky.later hb).cell 0 rfl;have t0:(kT == 3)=false:=by simpa using hk
 obtain ⟨fn,tmps,assign,body,hy,hYr⟩:=hY _ hb;have HY:=Bx.mk hYr;have HR:=Bx.mk hR;clear ks ky Hk hY hYr hb hk hR;refine (callsIn_wide (n:=3)).1 ?_;refine callsIn_of_wp Tryz.func119 rfl trivial ?_ rfl;simp only [Tryz.ntmps119,List.size_toArray,List.length_cons,List.length_nil,Nat.reduceAdd,Nat.reduceSub,Array.replicate_succ,Array.replicate_zero,List.push_toArray,List.append_toArray,List.nil_append,List.cons_append]
 gi_wp2_with (first
  | ((try refine ⟨trivial,?_⟩);gi_at_call 24;refine (callsIn_wide.2 HK.out).mono ?_;rintro _ _ ⟨rfl,rfl⟩)
  | (refine (RoundIn.anyDepth' HY.out).mono ?_;intro e W' hr;obtain ⟨b,rfl⟩:=HR.out e W' hr;have HR':=Bx.mk hr;clear hr))
 exact HR'.out
end
section
open Go.Sort Go.RowKit
theorem zMw {P:Program} {o:Oper} {a:Act} {next:Act→World→Prop} {Q:Exit→Act→World→Prop} (l n:Nat) {r:Result Next} (h:o.upon P a next Q r):o.uponIn (Fence.wide.inRound l) n P a next Q r:=by
 cases r with
 | ok x w' =>
   cases x with
   | value v=>exact h
   | skip=>exact h
   | defer d=>exact h
   | enter f args=>exact ⟨fun e=>(by cases e),(callsIn_wide.2 h).inRound l⟩
   | row row args=>exact ⟨fun e=>(by cases e),fun c cs _=>by
    obtain ⟨v,w2,r,s⟩:=h c cs;exact ⟨v,w2,r,stepsIn_wide.2 s⟩⟩
   | round l f tmps assign body=>exact h.elim
   | _=>exact h.elim
 | halt x w' =>
   cases x with
   | panic v=>exact h
   | _=>exact h.elim
section
variable {P:Program} {Q:Exit→Act→World→Prop}
theorem zMv (l n:Nat) {ops:Array Oper} (hnd : ∀ (i:Nat) (o:Oper) (c:Call),ops[i]? = some o→o.op ≠ .defer c) (hLo : ¬LetsOut Q) {i:Nat} {K:Act→World→Prop} {a:Act} {w:World} (h:wpOp P ops Q i K a w):wpOpIn (Fence.wide.inRound l) n P ops Q i K a w:=by
 unfold wpOp at h;unfold wpOpIn;split
 · rename_i ho;simpa only [ho] using h
 · rename_i o ho;simp only [ho] at h;split
   · rename_i hw;rw [if_pos hw] at h;rcases h with h | h
     · refine ⟨fun f _=>trivial,?_⟩;rw [Fence.inRound_round,Oper.semAt_some l _ _ (fun c=>hnd i o c ho)];exact zMw l n h
     · exact absurd h.2 hLo
   · rename_i hw;rw [if_neg hw] at h;exact ⟨fun f _=>trivial,h⟩
theorem zGv (l n:Nat) {ops:Array Oper} {md:Region.Mode} (hnd : ∀ (i:Nat) (o:Oper) (c:Call),ops[i]? = some o→o.op ≠ .defer c) (hLo : ¬LetsOut Q) : ∀ (fuel:Nat) (listed:Array Bool) (a:Act) (w:World),wpAny P md ops Q fuel listed a w→wpAnyIn (Fence.wide.inRound l) n P md ops Q fuel listed a w
 | 0,_,_,_,h=>h
 | fuel+1,listed,a,w,h=>⟨h.1,fun i hi=>wpOpIn_mono (fun a' w' h'=>zGv l n hnd hLo fuel _ a' w' h') (zMv l n hnd hLo (h.2 i hi))⟩
def zJi (l:List Oper):Bool:=l.all fun o=>match o.op with | .defer _=>false | _=>true
theorem zFd {l:List Oper} (h:zJi l=true) (i:Nat) (o:Oper) (c:Call) (ho:l.toArray[i]? = some o):o.op ≠ .defer c:=by
 intro e;have hm:o∈l:=List.mem_of_getElem? (by simpa using ho)
 have:=List.all_eq_true.1 h o hm;rw [e] at this;cases this
theorem zBO {l:List Oper} {W:World} {a:Act} {id:Nat} (lo k:Nat) (n:Nat) (R:Nat→Value→World→Prop) (hm:P.follows .mixedOrders=true) (hB:zHJ l n=true) (hnd:zJi l=true) (hLo : ¬LetsOut Q) (m:Nat) (hdm:zMm l m=true) (ham:a.tmps.size=m)
 (hf : ∀ i,i<n→zKn (R i))
 (hop : ∀ i o,i<n→l[i]? = some o → ∀ (ρ:Operand→Value) w,Below W.heap.size W w→(∀ v,ρ (.const v)=v)→(∀ g,ρ (.global g) = .pointer (some ⟨g,0,none⟩))→(∀ f,ρ (.func f) = .func (.func f) #[] #[]) →
  (∀ d,.tmp d∈o.op.operands→zC7 l n R a d (ρ (.tmp d)) w)→zAe P w (R i) ((execOp ρ o).run P w))
 (h : ∀ (vs:List Value) w',vs.length=n→Below W.heap.size W w'→(∀ i v,vs[i]? = some v→R i v w')→wpList P l.toArray Q (l.drop n) (zAk (((l.take n).map (·.dst)).zip vs) a) w'):(Code.region id l.toArray true).wpIn (Fence.wide.inRound lo) k P Q a W :=
 wpIn_region_any hm (zGv lo k (zFd hnd) hLo _ _ _ _ (zHU n R hB m hdm ham hf hop h))
end
end
section
open Go.RowKit Go.Sort Go.Maps
open Oct
theorem zHS {p:Int→Bool} {xs:List Int} {k:Nat} {x:Int} (hx:xs[k]? = some x) (h:p x=true):xs.any p=true:=List.any_eq_true.2 ⟨x,List.mem_of_getElem? hx,h⟩
theorem zHT {p:Int→Bool} {xs:List Int} {k:Nat} {x:Int} (hx:xs[k]? = some x) (hall:(xs.take k).any p=false) (h:p x=false):(xs.take (k+1)).any p=false:=by
 have hj:=List.getElem?_eq_some_iff.1 hx;rw [List.take_succ_eq_append_getElem hj.1,hj.2,List.any_append,hall];simp [h]
theorem zKd {p:Int→Bool} {xs:List Int} {n:Nat} (hn:Bx (xs.length=n)) (h:(xs.take n).any p=false):xs.any p=false:=by
 rwa [List.take_of_length_le (by have:=hn.out;omega)] at h
theorem zNv (q:Int) (a:Option Addr) (cap:Nat) (xs:List Int) (w:World) (hl:xs.length≤1000000000) (h:Sl w .i64 a xs) :
 Calls Tryz.prog 125 #[.slice a xs.length cap,q] w fun e w'=>(∃ r:Int,e = .returned (.int .i64 r)∧(decide (0≤r)=xs.any (q == ·)))∧w=w':=by
 generalize hn:xs.length=n at hl;have Hn:=Bx.mk hn;clear hn;go_enter Tryz.func125,Tryz.ntmps125;go_wp2
 go_loop [8] (fun i => ∃ k:Nat,k≤n∧i = .int .i64 k∧(xs.take k).any (q == ·)=false) (fun i=>n - (intOf i).toNat)
 case atStart=>exact ⟨0,Nat.zero_le _,rfl,by simp⟩
 case round =>
  obtain ⟨k,hk,rfl,hall⟩:=hrel;have Hall:=Bx.mk hall;clear hall;by_cases hlt:k<n
  · obtain ⟨x,hx⟩:=zA6 Hn hlt;obtain ⟨b,off,rfl,hc⟩:=h k x hx;have Hx:=Bx.mk hx;clear h hx;cases hcx:(q == ·) x with
    | true =>
      have hf:=Bx.mk (zHS (p:=(q == ·)) Hx.out hcx);have t1:(q == x)=true:=hcx;go_wp2_with fail;go_ret;exact ⟨⟨_,rfl,by rw [hf.out];simp⟩,rfl⟩
    | false =>
      have hf:=Bx.mk (zHT (p:=(q == ·)) Hx.out Hall.out hcx);have t1:(q == x)=false:=hcx;go_wp2_with fail;go_round
      case rel=>exact ⟨k+1,by omega,by go_num,hf.out⟩
      case measure=>simp [intOf];omega
  · have hkn:k=n:=by omega
    have hf:=Bx.mk (zKd (p:=(q == ·)) Hn (hkn ▸ Hall.out));clear hkn;go_wp2;go_ret;exact ⟨⟨_,rfl,by rw [hf.out];simp⟩,rfl⟩
theorem zFw (q:Int) (a:Option Addr) (cap:Nat) (xs:List Int) (w:World) (hl:xs.length≤1000000000) (h:Sl w .i64 a xs) :
 Calls Tryz.prog 81 #[.slice a xs.length cap,q] w fun e w'=>e = .returned (.bool (xs.any (q == ·)))∧w=w':=by
 go_enter Tryz.func81,Tryz.ntmps81;go_wp2_with (go_at_call 125;refine (zNv q a cap xs _ hl h).mono ?_;rintro e w' ⟨⟨r,rfl,hr⟩,rfl⟩;have Hr:=Bx.mk hr;clear hr);go_ret;exact ⟨zK Hr.out,rfl⟩
theorem zHK (pc:Nat) (a:Option Addr) (cap:Nat) (cs:List Int) (x:Int) (w:World) (hl:cs.length≤1000000000) (h:Sl w .i64 a cs) (kc:Bk w pc #[.slice a cs.length cap] 26) :
 Calls Tryz.prog 80 #[x,.pointer (some ⟨pc,0,none⟩)] w fun e w'=>e = .returned (.bool (cs.any (x == ·)))∧w=w':=by
 have c0:=kc.cell 0 rfl;have H:=Bx.mk (zFw x a cap cs w hl h);clear kc hl h;generalize cs.length=n at *;go_enter Tryz.func80,Tryz.ntmps80;go_wp2_with ((with_reducible refine H.out.mono ?_);rintro _ _ ⟨rfl,rfl⟩);go_ret;exact ⟨rfl,rfl⟩
theorem zLp (pc:Nat) (p:Int→Bool) (a:Option Addr) (cap:Nat) (xs:List Int) (w:World) (hl:xs.length≤1000000000) (h:Sl w .i64 a xs) (hcl : ∀ x:Int,Calls Tryz.prog 80 #[x,.pointer (some ⟨pc,0,none⟩)] w fun e w'=>e = .returned (.bool (p x))∧w=w') :
 Calls Tryz.prog 124 #[.slice a xs.length cap,.func (.func 80) #[] #[.pointer (some ⟨pc,0,none⟩)]] w fun e w'=>(∃ r:Int,e = .returned (.int .i64 r)∧(decide (0≤r)=xs.any p))∧w=w':=by
 generalize hn:xs.length=n at hl;have Hn:=Bx.mk hn;clear hn;have Hcl:=Bx.mk hcl;clear hcl;go_enter Tryz.func124,Tryz.ntmps124;go_wp2
 go_loop [8] (fun i => ∃ k:Nat,k≤n∧i = .int .i64 k∧(xs.take k).any p=false) (fun i=>n - (intOf i).toNat)
 case atStart=>exact ⟨0,Nat.zero_le _,rfl,by simp⟩
 case round =>
  obtain ⟨k,hk,rfl,hall⟩:=hrel;have Hall:=Bx.mk hall;clear hall;by_cases hlt:k<n
  · obtain ⟨x,hx⟩:=zA6 Hn hlt;obtain ⟨b,off,rfl,hc⟩:=h k x hx;have Hx:=Bx.mk hx;clear h hx;cases hcx:p x with
    | true =>
      have hf:=Bx.mk (zHS (p:=p) Hx.out hcx);have Hcl2:=Bx.mk (Hcl.out x);rw [hcx] at Hcl2;go_wp2_with ((with_reducible refine Hcl2.out.mono ?_);rintro _ _ ⟨rfl,rfl⟩);go_ret;exact ⟨⟨_,rfl,by rw [hf.out];simp⟩,rfl⟩
    | false =>
      have hf:=Bx.mk (zHT (p:=p) Hx.out Hall.out hcx);have Hcl2:=Bx.mk (Hcl.out x);rw [hcx] at Hcl2;go_wp2_with ((with_reducible refine Hcl2.out.mono ?_);rintro _ _ ⟨rfl,rfl⟩);go_round
      case rel=>exact ⟨k+1,by omega,by go_num,hf.out⟩
      case measure=>simp [intOf];omega
  · have hkn:k=n:=by omega
    have hf:=Bx.mk (zKd (p:=p) Hn (hkn ▸ Hall.out));clear hkn;go_wp2;go_ret;exact ⟨⟨_,rfl,by rw [hf.out];simp⟩,rfl⟩
theorem zCL (pc:Nat) (p:Int→Bool) (a:Option Addr) (cap:Nat) (xs:List Int) (w:World) (hl:xs.length≤1000000000) (h:Sl w .i64 a xs) (hcl : ∀ x:Int,Calls Tryz.prog 80 #[x,.pointer (some ⟨pc,0,none⟩)] w fun e w'=>e = .returned (.bool (p x))∧w=w') :
 Calls Tryz.prog 79 #[.slice a xs.length cap,.func (.func 80) #[] #[.pointer (some ⟨pc,0,none⟩)]] w fun e w'=>e = .returned (.bool (xs.any p))∧w=w':=by
 have H:=Bx.mk (zLp pc p a cap xs w hl h hcl);clear hl h hcl;go_enter Tryz.func79,Tryz.ntmps79;go_wp2_with (go_at_call 124;refine H.out.mono ?_;rintro e w' ⟨⟨r,rfl,hr⟩,rfl⟩;have Hr:=Bx.mk hr;clear hr);go_ret;exact ⟨zK Hr.out,rfl⟩
theorem zNS {w:World} {B:Nat} {e:TypeId} {k:IntKind} {a:Option Addr} {n c:Nat} {xs:List Int} (h:Own w B e k (.slice a n c) xs):xs.length≤c:=by
 rcases h.2 with ⟨e1,hn⟩ | ⟨g,cap,cur,e1,hb,hg,hnc,hcm,hcs,ht⟩
 · omega
 · injection e1 with h1 h2 h3;omega
theorem zFV {w:World} {B:Nat} {e t:TypeId} {k:IntKind} {v:Value} {xs:List Int} {g:Nat} {cs:Array Value} (h:Own w B e k v xs) (hb:Bk w g cs t) (hne:e ≠ t):v.ownBlock ≠ some g:=by
 rcases h.2 with ⟨rfl,hn⟩ | ⟨g2,cap,cur,rfl,hb2,hg,hnc,hcm,hcs,ht⟩
 · simp [Value.ownBlock]
 · intro h1;have h2:g2=g:=by simpa [Value.ownBlock] using h1
   subst h2;have h3:=hg.symm.trans hb;injection h3 with h3;injection h3 with _ h4;exact hne h4
theorem zNf {x y z:Int} (hx:0≤x∧x≤4) (hy:0≤y∧y≤4) (hz:0≤z∧z≤4):x * y * z≤64:=by
 have h1:x * y≤4 * 4:=Int.mul_le_mul hx.2 hy.2 hy.1 (by decide)
 have h2:x * y * z≤4 * 4 * 4:=Int.mul_le_mul h1 hz.2 hz.1 (by decide)
 omega
theorem zIc {a:Pt} {b:Box} (h1:0≤a.x∧a.x≤16384) (h2:0≤a.y∧a.y≤16384) (h3:0≤a.z∧a.z≤16384) (hE:zG (zD (cb a 2) b)=false):zJk (zD (cb a 2) b) 0=0∧1≤zU (zD (cb a 2) b)∧zU (zD (cb a 2) b)≤64:=by
 have hv:=zB4 hE;have hj:=zFh hE;have hm:=za.1 hE;have hs:=zc hE
 have hvol:zU (zD (cb a 2) b)≤64:=by
  unfold zU;rw [hs];rw [hj] at hm ⊢;simp only [zBQ,cb,Pt.sub] at hm ⊢;refine zNf ?_ ?_ ?_ <;> omega
 refine ⟨?_,hv,hvol⟩;unfold zJk;rw [if_neg,if_neg (by omega)]
 rw [hj] at hm ⊢;simp only [zBQ,cb] at hm ⊢;simp only [okB,okP,okC,Pal.cell,Bool.and_eq_false_iff,decide_eq_false_iff_not,Bool.and_eq_true,decide_eq_true_eq];omega
abbrev zCi (ps py pv:Nat):Value:=.func (.func 119) #[] #[.pointer (some ⟨ps,0,none⟩),.pointer (some ⟨py,0,none⟩),.pointer (some ⟨pv,0,none⟩)]
structure KpE (E:Nat→Prop) (n₀:Nat) (W W':World):Prop where
 os:W'.os=W.os
 tape:W'.tape=W.tape
 output:W'.output=W.output
 size:W.heap.size≤W'.heap.size
 blk : ∀ k o,W.heap[k]? = some o → ¬E k→(k<n₀∨o.isCells=true)→W'.heap[k]? = some o
theorem KpE.refl (E:Nat→Prop) (n₀:Nat) (W:World):KpE E n₀ W W:=⟨rfl,rfl,rfl,Nat.le_refl _,fun _ _ h _ _=>h⟩
theorem KpE.trans {E:Nat→Prop} {n₀:Nat} {A B C:World} (h:KpE E n₀ A B) (h':KpE E n₀ B C):KpE E n₀ A C :=
 ⟨h'.os.trans h.os,h'.tape.trans h.tape,h'.output.trans h.output,Nat.le_trans h.size h'.size,fun k o hk hE hc=>h'.blk k o (h.blk k o hk hE hc) hE hc⟩
theorem KpE.below {E:Nat→Prop} {n₀:Nat} {W W':World} (h:Below W.heap.size W W'):KpE E n₀ W W' :=
 ⟨h.os,h.tape,h.output,h.size,fun k o hk _ _=>(h.block k (Array.getElem?_eq_some_iff.1 hk).1).trans hk⟩
theorem KpE.bk {E:Nat→Prop} {n₀:Nat} {W W':World} (h:KpE E n₀ W W') {g:Nat} {cs:Array Value} {t:TypeId} (hb:Bk W g cs t) (hE : ¬E g):Bk W' g cs t:=h.blk g _ hb hE (.inr rfl)
theorem KpE.store {E:Nat→Prop} {n₀:Nat} {W W':World} (h:KpE E n₀ W W') {sb:Nat} {most:Int} {ts:List Tr} (hS:StoreIs W (fun k=>E k∨n₀≤k) sb most ts):StoreIs W' (fun k=>E k∨n₀≤k) sb most ts :=
 hS.other (Far:=fun k=>¬E k∧k<n₀) ⟨h.os,h.tape,h.output,h.size,fun k hk hl=>(by
  have e:W.heap[k]? = some W.heap[k]:=Array.getElem?_eq_getElem hl;rw [e];exact h.blk k _ e hk.1 (.inl hk.2))⟩ fun k hk _=>⟨fun h=>hk (.inl h),Nat.lt_of_not_le fun h=>hk (.inr h)⟩
structure LSt (E:Nat→Prop) (n₀ ps py pv sb l:Nat) (most:Int) (ts:List Tr) (W:World):Prop where
 ks:Bk W ps #[.pointer (some ⟨sb,0,none⟩)] 33
 ky:Bk W py #[.func (.yield l) #[] #[]] 161
 kv:Bk W pv #[zCi ps py pv] 161
 st:StoreIs W (fun k=>E k∨n₀≤k) sb most ts
 ne : ¬E ps ∧ ¬E py ∧ ¬E pv
 eb : ∀ k,E k→k<n₀
 nb:n₀≤W.heap.size
theorem LSt.kept {E:Nat→Prop} {n₀ ps py pv sb l:Nat} {most:Int} {ts:List Tr} {W W':World} (h:LSt E n₀ ps py pv sb l most ts W) (hk:KpE E n₀ W W'):LSt E n₀ ps py pv sb l most ts W' :=
 ⟨hk.bk h.ks h.ne.1,hk.bk h.ky h.ne.2.1,hk.bk h.kv h.ne.2.2,hk.store h.st,h.ne,h.eb,Nat.le_trans h.nb hk.size⟩
def zHZ (J:List (Pt × Nat × Tr)→World→Prop):Prop := ∀ s W W',J s W→Below W.heap.size W W'→J s W'
def LPost (E:Nat→Prop) (n₀:Nat) (J Jx:List (Pt × Nat × Tr)→World→Prop) (pre L:List (Pt × Nat × Tr)) (W:World) (e:Ending) (W':World):Prop :=
 ∃ b:Bool,e = .returned (.bool b)∧(b=true→J (pre++L) W'∧KpE E n₀ W W')∧(b=false → ∃ q,q <+: L∧Jx (pre++q) W')
structure LL (E:Nat→Prop) (n₀ ps py pv sb l:Nat) (most:Int) (ts:List Tr) (a:Pt) (lv:Int) (w:World) (JK:World→Prop) (wr:World):Prop where
 st:LSt E n₀ ps py pv sb l most ts wr
 kc:Bk wr w.heap.size #[a.x,a.y,a.z,lv] 52
 kp:KpE E n₀ w wr
 j:JK wr
theorem zNj (m:Nat) (hm:m≤11) (a:Pt) (hx:0≤a.x∧a.x≤16384) (hy:0≤a.y∧a.y≤16384) (hz:0≤a.z∧a.z≤16384) (E:Nat→Prop) (n₀ ps py pv sb l:Nat) (most:Int) (ts:List Tr) (hlen:ts.length≤4194304) (d:Nat) (ch:Fin 8→Tr) (hT:Tr.node d ch∈ts)
 (J Jx:List (Pt × Nat × Tr)→World→Prop) (hJ:zHZ J) (pre:List (Pt × Nat × Tr)) (D:Nat→List (Pt × Nat × Tr)) (hD : ∀ k,k≤8→D k <+: D 8) (D0:D 0=[]) (Dk:Nat→List (Pt × Nat × Tr)) (DS : ∀ k,k<8→D (k+1)=D k++Dk k) (w:World) (H:LSt E n₀ ps py pv sb l most ts w) (h0:J pre w)
 (IH:Bx (∀ (k:Nat) (hk:k<8) (W:World),LSt E n₀ ps py pv sb l most ts W→J (pre++D k) W→Calls Tryz.prog 119 #[zH (a.x+chX k (2 ^ (m+2))) (a.y+chY k (2 ^ (m+2))) (a.z+chZ k (2 ^ (m+2))) ((m:Int)+2),(idT ts (ch ⟨k,hk⟩):Int),.pointer (some ⟨ps,0,none⟩),.pointer (some ⟨py,0,none⟩),.pointer (some ⟨pv,0,none⟩)] W (LPost E n₀ J Jx (pre++D k) (Dk k) W))) :
 Calls Tryz.prog 119 #[zH a.x a.y a.z ((m:Int)+3),(idT ts (.node d ch):Int),.pointer (some ⟨ps,0,none⟩),.pointer (some ⟨py,0,none⟩),.pointer (some ⟨pv,0,none⟩)] w (LPost E n₀ J Jx pre (D 8) w):=by
 have Hk:=Bx.mk fun W (h:StoreIs W (fun k=>E k∨n₀≤k) sb most ts)=>zo _ sb most ts _ hT hlen W h;have Hc:=Bx.mk fun W (h:StoreIs W (fun k=>E k∨n₀≤k) sb most ts)=>zBE _ sb most ts d ch hT W h;have hcor:=Bx.mk (fun W i hi=>zDl (m+2) (by omega) a.x a.y a.z i hi (by omega) (by omega) (by omega) W)
 rw [show ((m+2+1:Nat):Int)=(m:Int)+3 by omega,show ((m+2:Nat):Int)=(m:Int)+2 by omega] at hcor
 have t0:(zAE (.node d ch) == 3)=true:=rfl
 have hidx:Bx (∀ (k:Nat),k<8 → ∀ W,(Instr.index 98 (zDd ts (.node d ch)) (.int .i64 (k:Int))).run Tryz.prog W = .ok (.int .i64 (idT ts (zDx (.node d ch) k):Int)) W):=⟨fun k hk W=>by
  rw [zBI _ hk];unfold zDd;rcases k with _ | _ | _ | _ | _ | _ | _ | _ | k
  all_goals first | rfl | omega⟩
 generalize hiT:(idT ts (Tr.node d ch):Int)=iT at *;generalize zDd ts (Tr.node d ch)=kV at *;generalize zAE (Tr.node d ch)=kT at *;have HH:=Bx.mk H;have H0:=Bx.mk h0;have HJ:=Bx.mk hJ;have HD:=Bx.mk hD;have HDS:=Bx.mk DS;have HD0:=Bx.mk D0;clear H h0 hJ hD D0 DS hT hlen hx hy hz hm hiT;go_enter Tryz.func119,Tryz.ntmps119;go_upto_region 1 with fail;generalize hW:World.alloc w _=W;have hb:=bl1 hW;have kc:Bk W w.heap.size #[a.x,a.y,a.z,.int .i64 ((m:Int)+3)] 52:=bk0 hW;clear hW;have HW:=Bx.mk (HH.out.kept (KpE.below hb));have s0:=HW.out.ks.cell 0 rfl;have HK:=Bx.mk (Hk.out W HW.out.st);have HC:=Bx.mk (Hc.out W HW.out.st);have KC:=Bx.mk kc;have HB:=Bx.mk hb;clear kc hb Hk Hc;go_wp2_with (first | ((with_reducible refine HK.out.mono ?_);rintro _ _ ⟨rfl,rfl⟩) | ((with_reducible refine HC.out.mono ?_);rintro _ W2 ⟨rfl,hb2⟩))
 have HI:Bx (LL E n₀ ps py pv sb l most ts a ((m:Int)+3) w (J (pre++D 0)) W2):=⟨⟨HW.out.kept (KpE.below hb2),KC.out.later hb2,(KpE.below HB.out).trans (KpE.below hb2),by
  rw [HD0.out,List.append_nil];exact HJ.out _ _ _ (HJ.out _ _ _ H0.out HB.out) hb2⟩⟩
 clear hb2 HW s0 HK HC KC HB H0
 go_loopw [21] (fun v21 wr => ∃ k:Nat,k≤8∧v21 = .int .i64 k∧Bx (LL E n₀ ps py pv sb l most ts a ((m:Int)+3) w (J (pre++D k)) wr)) (fun i _=>8 - (intOf i).toNat)
 case atStart=>exact ⟨0,Nat.zero_le _,rfl,HI⟩
 case round =>
  clear HI;obtain ⟨k,hk,rfl,HI⟩:=hrel;by_cases hlt:k<8
  · have t1:decide ((k:Int)<8)=true:=by simp;omega
    have hix:=hidx.out k hlt;have hkn:zDx (.node d ch) k=ch ⟨k,hlt⟩:=zBI _ hlt;rw [hkn] at hix;have hv:=Bx.mk fun W=>IH.out k hlt W;have hcork:=Bx.mk fun W=>hcor.out W k hlt;have KV:=Bx.mk HI.out.st.kv;have KC:=Bx.mk HI.out.kc;clear hkn;generalize (idT ts (ch ⟨k,hlt⟩):Int)=iK at *;go_upto_region 6 with fail
    refine zw 5 (fun i v w'=>match i with
     | 0=>v=zCi ps py pv
     | 1=>v=zH a.x a.y a.z ((m:Int)+3)
     | 2=>v = .int .i64 (k:Int)
     | 3=>v=zH (a.x+chX k (2 ^ (m+2))) (a.y+chY k (2 ^ (m+2))) (a.z+chZ k (2 ^ (m+2))) ((m:Int)+2)
     | _=>v = .int .i64 (iK:Int)) (by kernel_rfl) (by kernel_rfl) 33 (by kernel_rfl) (by rfl) ?_ ?_ ?_
    · intro i hi v u1 u2 hb h
      match i,hi with
      | 0,_=>exact h
      | 1,_=>exact h
      | 2,_=>exact h
      | 3,_=>exact h
      | 4,_=>exact h
    · intro i o hi ho ρ w1 hb hc1 hc2 hc3 hk
      match i,hi with
      | 0, _ =>
        obtain rfl:=Option.some.inj ho;have g0:ρ (.tmp 4) = .pointer (some ⟨pv,0,none⟩):=hk 4 (by simp [Op.operands,Call.operands])
        have k1:=KV.out.later hb;have z0:=k1.cell 0 rfl;clear hk hb IH hcor HI HH HJ hix hv;go_simp;exact Below.refl _ _
      | 1, _ =>
        obtain rfl:=Option.some.inj ho;have g0:ρ (.tmp 5) = .pointer (some ⟨w.heap.size,0,none⟩):=hk 5 (by simp [Op.operands,Call.operands])
        have k1:=KC.out.later hb;obtain ⟨z0,z1,z2,z3⟩:=k1.c4;clear hk hb IH hcor HI HH HJ hix hv;go_simp;exact Below.refl _ _
      | 2, _ =>
        obtain rfl:=Option.some.inj ho;have g0:ρ (.tmp 8) = .int .i64 (k:Int):=hk 8 (by simp [Op.operands,Call.operands])
        clear hk hb IH hcor HI HH HJ hix hv;go_simp;exact Below.refl _ _
      | 3, _ =>
        obtain rfl:=Option.some.inj ho;have g0:ρ (.tmp 26)=zH a.x a.y a.z ((m:Int)+3):=hk 26 (by simp [Op.operands,Call.operands])
        have g1:ρ (.tmp 27) = .int .i64 (k:Int):=hk 27 (by simp [Op.operands,Call.operands])
        have h4:=hcork.out w1;have H4:=Bx.mk h4;clear h4;clear hk hb IH hcor HI HH HJ hix hv;go_simp
        all_goals exact H4.out
      | 4, _ =>
        obtain rfl:=Option.some.inj ho;have g0:ρ (.tmp 9) = .int .i64 (iK:Int):=hk 9 (by simp [Op.operands,Call.operands])
        clear hk hb IH hcor HI HH HJ hix hv;go_simp;exact Below.refl _ _
    · intro vs W1 hlen hb hR
      match vs,hlen with
      | [v0, v1, v2, v3, v4], _ =>
        have r0:v0=zCi ps py pv:=hR 0 v0 rfl;have r1:v1=zH a.x a.y a.z ((m:Int)+3):=hR 1 v1 rfl;have r2:v2 = .int .i64 (k:Int):=hR 2 v2 rfl;have r3:v3=zH (a.x+chX k (2 ^ (m+2))) (a.y+chY k (2 ^ (m+2))) (a.z+chZ k (2 ^ (m+2))) ((m:Int)+2):=hR 3 v3 rfl;have r4:v4 = .int .i64 (iK:Int):=hR 4 v4 rfl;clear hR;subst r0 r1 r2 r3 r4;have hst:=HI.out.st.kept (KpE.below hb);have hq:=Bx.mk (hv.out W1 hst (HJ.out _ _ _ HI.out.j hb));have HB:=Bx.mk hb;have kc1:=Bx.mk (HI.out.kc.later hb);clear hst hb KV KC hcork hv hix;simp only [zAk,List.take_succ_cons,List.take_zero,List.drop_succ_cons,List.drop_zero,List.map_cons,List.map_nil,List.zip_cons_cons,List.zip_nil_right,List.foldl_cons,List.foldl_nil];go_wp2_with fail;refine hq.out.mono ?_;rintro _ w5 ⟨b,rfl,hp1,hp2⟩;cases b with
        | true =>
          obtain ⟨hj5,hk5⟩:=hp1 rfl;have hlw:w.heap.size<W1.heap.size:=kc1.out.lt;have HJ5:Bx (LL E n₀ ps py pv sb l most ts a ((m:Int)+3) w (J (pre++D (k+1))) w5):=⟨⟨(HI.out.st.kept (KpE.below HB.out)).kept hk5,hk5.bk kc1.out (fun h=>by have h1:=HH.out.eb _ h;have h2:=HH.out.nb;omega),(HI.out.kp.trans (KpE.below HB.out)).trans hk5,by rw [HDS.out k hlt,←List.append_assoc];exact hj5⟩⟩
          clear hp1 hp2 hj5 hk5 hlw HI HB hq kc1;go_wp2_with fail
          go_roundw
          case rel=>exact ⟨k+1,by omega,by go_num,HJ5⟩
          case measure=>simp [intOf];omega
        | false =>
          have hx5:=Bx.mk (hp2 rfl);clear hp1 hp2 HI HB hq kc1;go_wp2_with fail;go_ret;obtain ⟨q,hq1,hq2⟩:=hx5.out;refine ⟨false,rfl,(fun h=>by cases h),fun _=>⟨D k++q,?_,by rw [←List.append_assoc];exact hq2⟩⟩
          refine List.IsPrefix.trans ?_ (HD.out (k+1) (by omega))
          rw [HDS.out k hlt];obtain ⟨r,hr⟩:=hq1;exact ⟨r,by rw [List.append_assoc,hr]⟩
  · obtain rfl:k=8:=by omega
    have t1:decide (((8:Nat):Int)<8)=false:=by decide
    go_wp2_with fail;go_ret;exact ⟨true,rfl,fun _=>⟨HI.out.j,HI.out.kp⟩,fun h=>by cases h⟩
noncomputable abbrev zEk (ts:List Tr) (x:Pt × Nat × Tr):Array Value:=#[zH x.1.x x.1.y x.1.z ((x.2.1:Int)+2),(idT ts x.2.2:Int)]
theorem zBt (n:Nat) (a:Pt) (ch:Fin 8→Tr) : ∀ k,k≤8→zAf n a ch k <+: zAf n a ch 8:=by
 have key : ∀ j k,k+j≤8→zAf n a ch k <+: zAf n a ch (k+j):=by
  intro j
  induction j with
  | zero=>intro k _;exact List.prefix_refl _
  | succ j ih =>
    intro k h;refine (ih k (by omega)).trans ?_
    rw [show k+(j+1)=(k+j)+1 by omega,zBW n a ch (by omega:k+j<8)]
    exact List.prefix_append _ _
 intro k hk;have:=key (8 - k) k (by omega)
 rwa [show k+(8 - k)=8 by omega] at this
theorem LPost.of_yield {E:Nat→Prop} {n₀:Nat} {J Jx:List (Pt × Nat × Tr)→World→Prop} {pre:List (Pt × Nat × Tr)} {x:Pt × Nat × Tr} {W W1:World} (hk:KpE E n₀ W W1) {e:Ending} {W':World} (h:(e = .returned (.bool true)∧J (pre++[x]) W'∧KpE E n₀ W1 W')∨(e = .returned (.bool false)∧Jx (pre++[x]) W')):LPost E n₀ J Jx pre [x] W e W':=by
 rcases h with ⟨rfl,h1,h2⟩ | ⟨rfl,h1⟩
 · exact ⟨true,rfl,fun _=>⟨h1,hk.trans h2⟩,fun h=>by cases h⟩
 · exact ⟨false,rfl,(fun h=>by cases h),fun _=>⟨[x],List.prefix_refl _,h1⟩⟩
theorem zID (E:Nat→Prop) (n₀ ps py pv sb l N:Nat) (hN:N≤12) (most:Int) (ts:List Tr) (hG:Good ts) (hlen:ts.length≤4194304) (J Jx:List (Pt × Nat × Tr)→World→Prop) (hJ:zHZ J) (NN:Nat) (Lt:List (Pt × Nat × Tr))
 (hY : ∀ m pre x W,x∈Lt→J pre W→pre.length<NN→YieldAt Fence.wide m Tryz.prog l (zEk ts x) W fun e W'=>(e = .returned (.bool true)∧J (pre++[x]) W'∧KpE E n₀ W W')∨(e = .returned (.bool false)∧Jx (pre++[x]) W')) :
 ∀ (n : Nat) (a : Pt) (_hin : InT N n a) (T : Tr) (_hT : T ∈ ts) (_hD : Dep n T) (_hL : ∀ x ∈ zL n a T, x ∈ Lt) (pre : List (Pt × Nat × Tr)) (W : World), pre.length + (zL n a T).length ≤ NN → LSt E n₀ ps py pv sb l most ts W → J pre W →
   Calls Tryz.prog 119 #[zH a.x a.y a.z ((n:Int)+2),(idT ts T:Int),.pointer (some ⟨ps,0,none⟩),.pointer (some ⟨py,0,none⟩),.pointer (some ⟨pv,0,none⟩)] W (LPost E n₀ J Jx pre (zL n a T) W):=by
 intro n
 have leaf : ∀ (n:Nat) (a:Pt) (T:Tr),zAE T ≠ 3→zL n a T=[(a,n,T)]→T∈ts→(∀ x∈zL n a T,x∈Lt) → ∀ (pre:List (Pt × Nat × Tr)) (W:World),pre.length+(zL n a T).length≤NN→LSt E n₀ ps py pv sb l most ts W→J pre W →
  Calls Tryz.prog 119 #[zH a.x a.y a.z ((n:Int)+2),(idT ts T:Int),.pointer (some ⟨ps,0,none⟩),.pointer (some ⟨py,0,none⟩),.pointer (some ⟨pv,0,none⟩)] W (LPost E n₀ J Jx pre (zL n a T) W):=by
  intro n a T hk hl hT hL pre W hlen2 H hj;rw [hl] at hL hlen2 ⊢;refine zNk l 3 ps py pv sb a.x a.y a.z _ _ (zAE T) W _ (fun e W' h=>by obtain ⟨b,hb,_⟩:=h;exact ⟨b,hb⟩) H.ks H.ky hk (fun W' hb=>zo _ sb most ts T hT hlen W' (H.st.later hb)) (fun W' hb=>?_)
  exact YieldAt.mono (hY 3 pre (a,n,T) W' (hL _ (by simp)) (hJ _ _ _ hj hb) (by simp at hlen2;omega)) fun e W2 h=>LPost.of_yield (KpE.below hb) h
 induction n with
 | zero =>
   intro a hin T hT hD hL pre W hn H hj;cases hD with
   | uni _ c=>exact leaf 0 a _ (by simp [zAE]) (zBH _ _ _) hT hL pre W hn H hj
   | brick l=>exact leaf 0 a _ (by simp [zAE]) (zCE _ _ _) hT hL pre W hn H hj
 | succ n ih =>
   intro a hin T hT hD hL pre W hn H hj;cases hD with
   | uni _ c=>exact leaf (n+1) a _ (by simp [zAE]) (zBH _ _ _) hT hL pre W hn H hj
   | node _ ch hDk =>
     obtain ⟨b1,b2,b3⟩:=hin.bd hN;have hle:=hin.le;rw [←zGW n (n+3) a ch] at hL hn ⊢;rw [show (((n+1:Nat):Int)+2)=(n:Int)+3 by omega]
     refine zNj n (by omega) a b1 b2 b3 E n₀ ps py pv sb l most ts hlen (n+3) ch hT J Jx hJ pre (zAf n a ch) (zBt n a ch) (zFi n a ch) (fun k=>if h:k<8 then zL n (Tr.cor a n k) (ch ⟨k,h⟩) else []) (fun k hk=>by rw [zBW n a ch hk,dif_pos hk]) W H hj ⟨fun k hk W' hst hj'=>?_⟩
     have hsub:=zBt n a ch (k+1) (by omega)
     rw [zBW n a ch hk] at hsub;have hlen3:=hsub.length_le;rw [List.length_append] at hlen3;have h:=ih (Tr.cor a n k) (hin.kid hk) (ch ⟨k,hk⟩) (hG.closed.2 _ ch hT _) (hDk _) (fun x hx=>hL x (hsub.subset (List.mem_append_right _ hx))) (pre++zAf n a ch k) W' (by rw [List.length_append];omega) hst hj'
     rw [dif_pos hk];exact h
theorem zGX (E:Nat→Prop) (n₀ ps pd pi sb l n:Nat) (hn:n≤12) (most:Int) (ts:List Tr) (hG:Good ts) (hlen:ts.length≤4194304) (T:Tr) (hT:T∈ts) (hDp:Dep n T) (J Jx:List (Pt × Nat × Tr)→World→Prop) (hJ:zHZ J) (hJx:zHZ Jx)
 (hY : ∀ m pre x W,x∈zL n ⟨0,0,0⟩ T→J pre W→pre.length<(zL n ⟨0,0,0⟩ T).length→YieldAt Fence.wide m Tryz.prog l (zEk ts x) W fun e W'=>(e = .returned (.bool true)∧J (pre++[x]) W'∧KpE E n₀ W W')∨(e = .returned (.bool false)∧Jx (pre++[x]) W'))
 (W:World) (ks:Bk W ps #[.pointer (some ⟨sb,0,none⟩)] 33) (kd:Bk W pd #[.int .i64 ((n:Int)+2)] 3) (ki:Bk W pi #[(idT ts T:Int)] 3) (hS:StoreIs W (fun k=>E k∨n₀≤k) sb most ts) (hE : ¬E ps) (hEb : ∀ k,E k→k<n₀) (hn₀:n₀≤W.heap.size) (h0:J [] W) :
 Calls Tryz.prog 118 #[.func (.yield l) #[] #[],.pointer (some ⟨ps,0,none⟩),.pointer (some ⟨pd,0,none⟩),.pointer (some ⟨pi,0,none⟩)] W fun e W'=>(∃ v,e = .returned v)∧(J (zL n ⟨0,0,0⟩ T) W' ∨ ∃ q,q <+: zL n ⟨0,0,0⟩ T∧Jx q W'):=by
 have hwh:=Bx.mk fun W=>zAY ((n:Int)+2) W;have hvis:=Bx.mk fun W' H hj=>zID E n₀ ps W.heap.size (W.heap.size+1) sb l n hn most ts hG hlen J Jx hJ _ (zL n ⟨0,0,0⟩ T) hY n ⟨0,0,0⟩ (InT.top n) T hT hDp (fun x h=>h) [] W' (by simp) H hj
 simp only [List.nil_append] at hvis;have Hks:=Bx.mk ks;have Hkd:=Bx.mk kd;have Hki:=Bx.mk ki;have HS:=Bx.mk hS;have H0:=Bx.mk h0;have HJ:=Bx.mk hJ;have HE:=Bx.mk hE;have HEb:=Bx.mk hEb;have Hn:=Bx.mk hn₀;generalize (idT ts T:Int)=iT at *;clear hG hlen hn hT hDp hS ks kd ki h0 hJ hJx hE hEb hn₀ hY;go_enter Tryz.func118,Tryz.ntmps118;go_upto_region 3 with fail;generalize hW2:World.alloc (World.alloc W _) _=W2;have hB:=bl2 hW2;have ky:Bk W2 W.heap.size #[.func (.yield l) #[] #[]] 161:=bk1 hW2;have kv:Bk W2 (W.heap.size+1) #[zCi ps W.heap.size (W.heap.size+1)] 161:=bk0 hW2;clear hW2
 have HL:=Bx.mk (show LSt E n₀ ps W.heap.size (W.heap.size+1) sb l most ts W2 from
  ⟨Hks.out.later hB,ky,kv,HS.out.later hB,⟨HE.out,fun h=>by have:=HEb.out _ h;have:=Hn.out;omega,fun h=>by have:=HEb.out _ h;have:=Hn.out;omega⟩,HEb.out,Nat.le_trans Hn.out hB.size⟩)
 have HJ2:=Bx.mk (HJ.out _ _ _ H0.out hB);have KV:=Bx.mk kv;have KD:=Bx.mk (Hkd.out.later hB);have KI:=Bx.mk (Hki.out.later hB);clear ky kv hB Hks Hkd Hki HS H0 HE HEb Hn
 refine zw 4 (fun i v w'=>match i with
  | 0=>v=zCi ps W.heap.size (W.heap.size+1)
  | 1=>v = .int .i64 ((n:Int)+2)
  | 2=>v=zH 0 0 0 ((n:Int)+2)
  | _=>v = .int .i64 (iT:Int)) (by kernel_rfl) (by kernel_rfl) 12 (by kernel_rfl) (by rfl) ?_ ?_ ?_
 · intro i hi v u1 u2 hb h
   match i,hi with
   | 0,_=>exact h
   | 1,_=>exact h
   | 2,_=>exact h
   | 3,_=>exact h
 · intro i o hi ho ρ w1 hb hc1 hc2 hc3 hk
   match i,hi with
   | 0, _ =>
     obtain rfl:=Option.some.inj ho;have g0:ρ (.tmp 5) = .pointer (some ⟨W.heap.size+1,0,none⟩):=hk 5 (by simp [Op.operands,Call.operands])
     have k1:=KV.out.later hb;have z0:=k1.cell 0 rfl;clear hk hb HL HJ2 HJ hvis hwh;go_simp;exact Below.refl _ _
   | 1, _ =>
     obtain rfl:=Option.some.inj ho;have g0:ρ (.tmp 2) = .pointer (some ⟨pd,0,none⟩):=hk 2 (by simp [Op.operands,Call.operands])
     have k1:=KD.out.later hb;have z0:=k1.cell 0 rfl;clear hk hb HL HJ2 HJ hvis hwh;go_simp;exact Below.refl _ _
   | 2, _ =>
     obtain rfl:=Option.some.inj ho;have g0:ρ (.tmp 8) = .int .i64 ((n:Int)+2):=hk 8 (by simp [Op.operands,Call.operands])
     have h4:=hwh.out w1;have H4:=Bx.mk h4;clear h4;clear hk hb HL HJ2 HJ hvis hwh;go_simp
     all_goals exact H4.out
   | 3, _ =>
     obtain rfl:=Option.some.inj ho;have g0:ρ (.tmp 3) = .pointer (some ⟨pi,0,none⟩):=hk 3 (by simp [Op.operands,Call.operands])
     have k1:=KI.out.later hb;have z0:=k1.cell 0 rfl;clear hk hb HL HJ2 HJ hvis hwh;go_simp;exact Below.refl _ _
 · intro vs W1 hlen hb hR
   match vs,hlen with
   | [v0, v1, v2, v3], _ =>
     have r0:v0=zCi ps W.heap.size (W.heap.size+1):=hR 0 v0 rfl;have r1:v1 = .int .i64 ((n:Int)+2):=hR 1 v1 rfl;have r2:v2=zH 0 0 0 ((n:Int)+2):=hR 2 v2 rfl;have r3:v3 = .int .i64 (iT:Int):=hR 3 v3 rfl;clear hR;subst r0 r1 r2 r3;have hq:=Bx.mk (hvis.out W1 (HL.out.kept (KpE.below hb)) (HJ.out _ _ _ HJ2.out hb));clear hb hvis HL HJ2 KV KD KI hwh HJ;simp only [zAk,List.take_succ_cons,List.take_zero,List.drop_succ_cons,List.drop_zero,List.map_cons,List.map_nil,List.zip_cons_cons,List.zip_nil_right,List.foldl_cons,List.foldl_nil];go_wp2_with fail;refine hq.out.mono ?_;rintro _ w5 ⟨b,rfl,hp1,hp2⟩
     have HP:Bx (J (zL n ⟨0,0,0⟩ T) w5 ∨ ∃ q,q <+: zL n ⟨0,0,0⟩ T∧Jx q w5):=⟨by
      cases b with
      | true=>exact .inl (hp1 rfl).1
      | false=>exact .inr (hp2 rfl)⟩
     clear hp1 hp2 hq;go_wp2_with fail
     go_end0
     exact ⟨⟨_,rfl⟩,HP.out⟩
theorem zC0 (E:Nat→Prop) (n₀ ps pd pi sb n:Nat) (hn:n≤12) (most:Int) (ts:List Tr) (hG:Good ts) (hlen:ts.length≤4194304) (T:Tr) (hT:T∈ts) (hDp:Dep n T) (m:Nat) (w:World) (ks:Bk w ps #[.pointer (some ⟨sb,0,none⟩)] 33) (kd:Bk w pd #[.int .i64 ((n:Int)+2)] 3) (ki:Bk w pi #[(idT ts T:Int)] 3) (hS:StoreIs w (fun k=>E k∨n₀≤k) sb most ts) (hE : ¬E ps) (hEb : ∀ k,E k→k<n₀) (hn₀:n₀≤w.heap.size) :
 SeqStopsK Fence.wide m Tryz.prog 118 #[.pointer (some ⟨ps,0,none⟩),.pointer (some ⟨pd,0,none⟩),.pointer (some ⟨pi,0,none⟩)] (fun x:{ x // x∈zL n ⟨0,0,0⟩ T }=>zEk ts x.1) (KpE E n₀) (fun xs=>xs.map (·.1)=zL n ⟨0,0,0⟩ T) (fun xs=>xs.map (·.1) <+: zL n ⟨0,0,0⟩ T) (zL n ⟨0,0,0⟩ T).length w:=by
 intro l J Jx W hW hJ hJx hY h0;refine callsIn_wide.2 ?_;refine (zGX E n₀ ps pd pi sb l n hn most ts hG hlen T hT hDp (fun s W' => ∃ ys:List { x // x∈zL n ⟨0,0,0⟩ T },ys.map (·.1)=s∧J ys W') (fun s W' => ∃ ys:List { x // x∈zL n ⟨0,0,0⟩ T },ys.map (·.1)=s∧Jx ys W') ?_ ?_ ?_ W (ks.later hW) (kd.later hW) (ki.later hW) (hS.later hW) hE hEb (Nat.le_trans hn₀ hW.size) ⟨[],rfl,h0⟩).mono ?_
 · rintro s A B ⟨ys,hy,hj⟩ hb;exact ⟨ys,hy,hJ _ _ _ none hj (zJ hb) (fun r e=>by cases e)⟩
 · rintro s A B ⟨ys,hy,hj⟩ hb;exact ⟨ys,hy,hJx _ _ _ none hj (zJ hb) (fun r e=>by cases e)⟩
 · rintro m' pre x W1 hx ⟨ys,rfl,hj⟩ hl;rw [List.length_map] at hl;refine YieldAt.mono (YieldAt.anyDepth' m' (hY ys ⟨x,hx⟩ W1 hj hl)) ?_;rintro e W' (⟨rfl,h1,h2⟩ | ⟨rfl,h1⟩)
   · exact .inl ⟨rfl,⟨_,by simp,h1⟩,h2⟩
   · exact .inr ⟨rfl,⟨_,by simp,h1⟩⟩
 · rintro e W' ⟨hv,⟨ys,hy,hj⟩ | ⟨q,hq,ys,rfl,hj⟩⟩
   · exact ⟨hv,.inl ⟨ys,hy,hj⟩⟩
   · exact ⟨hv,.inr ⟨ys,hq,hj⟩⟩
theorem zDO (sb:Nat) (i d:Int) (w:World) :
 Calls Tryz.prog 75 #[.pointer (some ⟨sb,0,none⟩),i,d] w fun e w'=>e = .returned (.func (.func 118) #[] #[.pointer (some ⟨w.heap.size,0,none⟩),.pointer (some ⟨w.heap.size+1+1,0,none⟩),.pointer (some ⟨w.heap.size+1,0,none⟩)])∧w'=((w.alloc (.cells #[.pointer (some ⟨sb,0,none⟩)] 33)).alloc (.cells #[i] 3)).alloc (.cells #[d] 3):=by
 go_enter Tryz.func75,Tryz.ntmps75;go_wp2_with fail;go_ret;exact ⟨rfl,rfl⟩
end
end Go.Proofs.YtfcbajmjaifjlaaGreatDoor
