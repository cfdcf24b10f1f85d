/- Set2: joined by program, for one claim. -/
import Derived.Test.YtgnfgblkpnfcnaaGreatDoorM16
set_option linter.unusedVariables false
set_option linter.unusedSimpArgs false
section
namespace Go.Proofs.YtgnfgblkpnfcnaaGreatDoor
open Go.RowKit Go.Sort Go.Maps
open Oct
attribute [local go_sem ↓] Go.wp_at_zero Go.wp_at_succ
noncomputable def chS (n:Nat) (t:Tr) (p:Pt) (c:Int) (i:Fin 8):Tr:=if i=Tr.oct n p then Tr.setT n (t.kid i) p c else t.kid i
theorem set_succ (n:Nat) (t:Tr) (p:Pt) (c:Int):Tr.setT (n+1) t p c=Tr.mkInner (n+3) (chS n t p c):=rfl
theorem chS_at (n:Nat) (t:Tr) (p:Pt) (c:Int):chS n t p c (Tr.oct n p)=Tr.setT n (t.kid (Tr.oct n p)) p c:=if_pos rfl
theorem chS_off {n:Nat} {t:Tr} {p:Pt} {c:Int} {i:Fin 8} (h:i ≠ Tr.oct n p):chS n t p c i=t.kid i:=if_neg h
theorem kids_in {t:Tr} {ts:List Tr} (hG:Good ts) (ht:t∈ts) (i:Fin 8):t.kid i∈ts:=by
 cases t with
 | uni c=>exact ht
 | brick l=>exact ht
 | node d ch=>exact hG.closed.2 d ch ht i
theorem addK_chS {n:Nat} {t:Tr} {p:Pt} {c:Int} {ts:List Tr} (hG:Good ts) (ht:t∈ts):Tr.addK (chS n t p c) 8 ts=Tr.add (Tr.setT n (t.kid (Tr.oct n p)) p c) ts:=by
 rw [Tr.addK_one (Tr.oct n p) (fun i hi=>by rw [chS_off hi];exact kids_in hG ht i),chS_at]
theorem wf_of_good {ts:List Tr} (hG:Good ts) : ∀ (t:Tr),t∈ts→Tr.WF t:=by
 intro t
 induction t with
 | uni c=>intro h;exact (hG.bytes _ h).unis c rfl
 | brick l=>intro h;exact (hG.bytes _ h).bricks l rfl
 | node d ch ih=>intro h;exact ⟨(hG.bytes _ h).nodes d ch rfl,fun i=>ih i (hG.closed.2 d ch h i)⟩
theorem set_len {c:Int} (hc:0≤c∧c≤255) (p:Pt) : ∀ (n:Nat) (t:Tr) (ts:List Tr),n≤200→Good ts→t∈ts→Dep n t→(Tr.add (Tr.setT n t p c) ts).length≤ts.length+(n+1)
 | 0, t, ts, _, hG, ht, hD => by
   have:=add_len (Tr.setT 0 t p c) ts
   have h1:Tr.sz (Tr.setT 0 t p c)=1:=by unfold Tr.setT;exact sz_mkBrick _
   omega
 | n + 1, t, ts, hn, hG, ht, hD => by
   have ih:=set_len hc p n (t.kid (Tr.oct n p)) ts (by omega) hG (kids_in hG ht _) (hD.kid _)
   have h1:=inner_len (d:=n+3) (ch:=chS n t p c) hG
   rw [addK_chS hG ht] at h1
   rw [set_succ];omega
set_option maxRecDepth 100000 in
set_option maxHeartbeats 2000000 in
theorem set_uni (w:World) (Far:Nat→Prop) (ps pc pp pb sb:Nat) (c px py pz:Int) (HC:Bx (SCtx w Far ps pc pp pb sb c px py pz)) (hc:0≤c∧c≤255) (hx:0≤px∧px≤100000) (hy:0≤py∧py≤100000) (hz:0≤pz∧pz≤100000) (c0:Int) (n:Nat) (hn:n≤11) (most:Int) (ts:List Tr) (ht:(Tr.uni c0)∈ts) (hDk : ∀ i,Dep n (Tr.kid (Tr.uni c0) i)) (hG:Good ts) (hlen:(Tr.add (Tr.setT (n+1) (Tr.uni c0) ⟨px,py,pz⟩ c) ts).length≤1000000000000) (hFar : ∀ k,Far k→k<w.heap.size) (hS:StoreIs w Far sb most ts)
 (IH:Bx (∀ (W:World) (Far':Nat→Prop),SCtx W Far' ps pc pp pb sb c px py pz→(∀ k,Far' k→k<W.heap.size)→StoreIs W Far' sb most ts→Calls Tryz.prog 64 #[.int .i64 (idT ts (Tr.kid (Tr.uni c0) (Tr.oct n ⟨px,py,pz⟩)):Int),.int .i64 ((n:Int)+2),.pointer (some ⟨ps,0,none⟩),.pointer (some ⟨pc,0,none⟩),.pointer (some ⟨pp,0,none⟩),.pointer (some ⟨pb,0,none⟩)] W (Grew Far' sb most ts (Tr.add (Tr.setT n (Tr.kid (Tr.uni c0) (Tr.oct n ⟨px,py,pz⟩)) ⟨px,py,pz⟩ c) ts) (Tr.setT n (Tr.kid (Tr.uni c0) (Tr.oct n ⟨px,py,pz⟩)) ⟨px,py,pz⟩ c) W))) :
 Calls Tryz.prog 64 #[(idT ts (Tr.uni c0):Int),.int .i64 ((n:Int)+3),.pointer (some ⟨ps,0,none⟩),.pointer (some ⟨pc,0,none⟩),.pointer (some ⟨pp,0,none⟩),.pointer (some ⟨pb,0,none⟩)] w (Grew Far sb most ts (Tr.add (Tr.setT (n+1) (Tr.uni c0) ⟨px,py,pz⟩ c) ts) (Tr.setT (n+1) (Tr.uni c0) ⟨px,py,pz⟩ c) w):=by
 have hlt:=idT_lt ht
 have hpre:=Tr.add_prefix (Tr.setT (n+1) (Tr.uni c0) ⟨px,py,pz⟩ c) ts
 have hlen0:=Nat.le_trans hpre.length_le hlen
 have hkids:=fun W (h:StoreIs W Far sb most ts)=>children_any Far sb most ts (idT ts (Tr.uni c0)) (Tr.uni c0) (idT_get ht) 0 0 0 0 0 0 0 0 (fun j u h=>by
  match j,h with
  | 0,h=>exact h
  | 1,h=>exact h
  | 2,h=>exact h
  | 3,h=>exact h
  | 4,h=>exact h
  | 5,h=>exact h
  | 6,h=>exact h
  | 7,h=>exact h
  | j+8,h=>simp at h) W h
 have hkids:=Bx.mk hkids
 have hoct:=Bx.mk (fun W dd hd=>octant_at n (by omega) dd hd px py pz hx hy hz W)
 have hd:(((n:Int)+3) == 2)=false:=by simp;omega
 have HG:=Bx.mk hG
 have HL:=Bx.mk hlen
 have HF:=Bx.mk hFar
 have HS:=Bx.mk hS
 have HT:=Bx.mk ht
 have HD:=Bx.mk hDk
 have Hc:=Bx.mk hc
 have cr0:=HC.out.kr.cell 0 rfl
 clear hc hx hy hz hG hlen hFar hS ht hpre hDk
 go_enter Tryz.func64,Tryz.ntmps64
 go_wp2_with fail
 refine (hkids.out _ HS.out).mono ?_
 rintro e5 w1 ⟨rfl,hb⟩
 have hB:=Bx.mk hb
 have hS1:=HS.out.later hb
 have hC1:=HC.out.later hb
 obtain ⟨g,cap,mb,ks,-,hcn⟩:=Bx.node hS1 HT.out (k:=1) (c:=c0) rfl
 have hd0:=hcn.out 0 _ (by omega) rfl
 have cs1:=ks.cell 1 rfl
 rw [Nat.add_zero] at hd0
 have al0 : ∀ o,(w1.alloc o).cell? ⟨ps,0,none⟩=some (.pointer (some ⟨sb,0,none⟩)):=fun o=>(hC1.kr.alloc o).cell 0 rfl
 have al1 : ∀ o,(w1.alloc o).cell? ⟨sb,1,none⟩=some (.slice (some ⟨g,0,none⟩) ts.length cap):=fun o=>(ks.alloc o).cell 1 rfl
 have al2 : ∀ o,(w1.alloc o).cell? ⟨g,idT ts (Tr.uni c0) * 12,none⟩=some (.int .i64 1):=fun o=>cell_later (below_lit w1 o) hd0
 have al3 : ∀ o,(w1.alloc o).cell? ⟨pp,0,none⟩=some (.int .i64 px):=fun o=>(hC1.kp.alloc o).cell 0 rfl
 have al4 : ∀ o,(w1.alloc o).cell? ⟨pp,1,none⟩=some (.int .i64 py):=fun o=>(hC1.kp.alloc o).cell 1 rfl
 have al5 : ∀ o,(w1.alloc o).cell? ⟨pp,2,none⟩=some (.int .i64 pz):=fun o=>(hC1.kp.alloc o).cell 2 rfl
 have b1:(0:Int)≤(idT ts (Tr.uni c0):Int):=by omega
 have b2:(idT ts (Tr.uni c0):Int)<(ts.length:Int):=by omega
 clear hd0 cs1 ks hcn hS1 hC1 cr0 hb
 go_wp2_with fail
 generalize hW2:World.alloc w1 _=W2
 have hrow0:Bx (W2.rowIs w1.heap.size 54 8 (fun j=>.int .i64 (if h:j<8 then (idT ts (Tr.kid (Tr.uni c0) ⟨j,h⟩):Int) else 0))):=⟨by
  rw [←hW2]
  refine World.rowIs_alloc w1 _ _ _ (fun i hi=>?_)
  have hi8:i<8:=hi
  rcases i with _ | _ | _ | _ | _ | _ | _ | _ | i
  all_goals first | rfl | omega⟩
 have hb2:Below w1.heap.size w1 W2:=by rw [←hW2];exact below_lit _ _
 have hs2:W2.heap.size=w1.heap.size+1:=by rw [←hW2];simp
 have hB2:=Bx.mk (hB.out.trans (hb2.mono hB.out.size))
 have hgk:w.heap.size≤w1.heap.size:=hB.out.size
 clear hW2 hb2 hB al0 al1 al2 al3 al4 al5 b1 b2 hkids
 generalize w1.heap.size=gk at *
 refine (hoct.out _ _ (by omega)).mono ?_
 rintro e6 w3 ⟨rfl,hb⟩
 have hB3:=Bx.mk (hB2.out.trans (hb.mono hB2.out.size))
 have hrow3:=Bx.mk (hrow0.out.of_block (hb.block gk (by omega)))
 have hs3:gk<w3.heap.size:=by have:=hb.size;omega
 clear hb hrow0 hB2 hs2 hoct
 have hC3:=Bx.mk ((HC.out.later hB3.out).wider (Far':=(fun x=>Far x∨(w.heap.size≤x∧x≤gk))) (fun k hk=>.inl hk))
 have hS3:=Bx.mk ((HS.out.widen (Far':=(fun x=>Far x∨(w.heap.size≤x∧x≤gk))) (fun k hk=>hk.imp id (fun h=>h.1))).later hB3.out)
 have hIH:=Bx.mk (IH.out w3.drew (fun x=>Far x∨(w.heap.size≤x∧x≤gk)) (hC3.out.far (Keeps.below (Below.refl _ _).drew)) (fun k hk=>hk.elim (fun h=>Nat.lt_of_lt_of_le (HF.out k h) hB3.out.size) (fun h=>Nat.lt_of_le_of_lt h.2 hs3)) (hS3.out.later (Below.refl _ _).drew))
 have HO:=Bx.mk (addK_chS (n:=n) (p:=⟨px,py,pz⟩) (c:=c) HG.out HT.out)
 generalize hok:Tr.oct n ⟨px,py,pz⟩=ok at *
 have hcell:=hrow3.out.cell ok.isLt
 rw [dif_pos ok.isLt] at hcell
 replace hok:=Bx.mk hok
 have cb0:=hC3.out.kb.cell 0 rfl
 have b3:(0:Int)≤(ok.val:Int):=by omega
 have b4:(ok.val:Int)<8:=by have:=ok.isLt;omega
 have hsub:IntKind.i64.wrap ((n:Int)+3 - 1)=(n:Int)+2:=by rw [show (n:Int)+3 - 1=(n:Int)+2 by omega];exact IntWalk.i64_in _ (by omega)
 go_wp2_with fail
 go_region_held3 (fun w'=>w'.cell? ⟨pb,0,none⟩=some (.func (.func 64) #[] #[.pointer (some ⟨ps,0,none⟩),.pointer (some ⟨pc,0,none⟩),.pointer (some ⟨pp,0,none⟩),.pointer (some ⟨pb,0,none⟩)])∧w'.cell? ⟨gk,ok.val,none⟩=some (.int .i64 (idT ts (Tr.kid (Tr.uni c0) ok):Int)))
  (first | go_keep | (dsimp only;and_intros <;> assumption))
  ((go_at_call 64;refine hIH.out.mono ?_;rintro e7 w7 hg;obtain ⟨id,er,rfl,hres⟩:=hg.ends;have hkp:=(Keeps.below (Far:=(fun x=>Far x∨(w.heap.size≤x∧x≤gk))) (Below.refl w3.heap.size w3).drew).trans hg.keeps;have hrow7:=rowIs_far hrow3.out hkp (.inr ⟨hgk,Nat.le_refl _⟩);have cb7:=(hC3.out.far hkp).kb.cell 0 rfl;have c7:=hrow7.cell ok.isLt;rw [dif_pos ok.isLt] at c7))
 have HK:=Bx.mk hkp
 clear cb0 cb7 c7 hrow7 hkp hg hIH hcell hsub
 obtain ⟨way⟩:=hres
 have hWf:=wf_of_good HG.out _ HT.out
 rw [←hok.out] at HO way
 have hw0:=wf_set Hc.out ⟨px,py,pz⟩ n (Tr.kid (Tr.uni c0) (Tr.oct n ⟨px,py,pz⟩)) (by omega) (wf_kid hWf _) (HD.out _)
 have hp1:=Tr.add_prefix (Tr.setT n (Tr.kid (Tr.uni c0) (Tr.oct n ⟨px,py,pz⟩)) ⟨px,py,pz⟩ c) ts
 have hW : ∀ i,Tr.WF (chS n (Tr.uni c0) ⟨px,py,pz⟩ c i):=fun i=>by
  unfold chS
  split
  · exact (wf_set Hc.out ⟨px,py,pz⟩ n _ (by omega) (wf_kid hWf _) (HD.out _)).1
  · exact wf_kid hWf i
 have hp2:=inner_pre (d:=n+3) (ch:=chS n (Tr.uni c0) ⟨px,py,pz⟩ c) HG.out
 rw [HO.out,←set_succ] at hp2
 rcases way with ⟨rfl,hf,rfl,hs⟩ | ⟨rfl,rfl,hnf,us,hu1,hu2,hu3,hs⟩
 · have hG1:=good_add (Tr.setT n (Tr.kid (Tr.uni c0) (Tr.oct n ⟨px,py,pz⟩)) ⟨px,py,pz⟩ c) HG.out hw0.1
   have hm1 : ∀ i,chS n (Tr.uni c0) ⟨px,py,pz⟩ c i∈Tr.add (Tr.setT n (Tr.kid (Tr.uni c0) (Tr.oct n ⟨px,py,pz⟩)) ⟨px,py,pz⟩ c) ts:=fun i=>by
    unfold chS
    split
    · rename_i e;rw [e];exact Tr.mem_add _ _
    · exact hp1.subset (kids_in HG.out HT.out i)
   have hg8:=grown_setCell w7 ⟨gk,ok.val,none⟩ (.int .i64 (idT (Tr.add (Tr.setT n (Tr.kid (Tr.uni c0) (Tr.oct n ⟨px,py,pz⟩)) ⟨px,py,pz⟩ c) ts) (Tr.setT n (Tr.kid (Tr.uni c0) (Tr.oct n ⟨px,py,pz⟩)) ⟨px,py,pz⟩ c):Int))
   have hS8:=hs.apart hg8 (.inr ⟨hgk,Nat.le_refl _⟩)
   have hgne : ∀ k,Far k→gk ≠ k:=fun k hk e=>by have:=HF.out k hk;omega
   have hC7:=(HC.out.later hB3.out).far (HK.out.less (fun k hk=>.inl hk))
   have hC8:=hC7.apart hg8 hgne
   have hrow7:=rowIs_far hrow3.out HK.out (.inr ⟨hgk,Nat.le_refl _⟩)
   have hrow8:=(hrow7.set ok.val (.int .i64 (idT (Tr.add (Tr.setT n (Tr.kid (Tr.uni c0) (Tr.oct n ⟨px,py,pz⟩)) ⟨px,py,pz⟩ c) ts) (Tr.setT n (Tr.kid (Tr.uni c0) (Tr.oct n ⟨px,py,pz⟩)) ⟨px,py,pz⟩ c):Int))).congr (g:=fun j=>.int .i64 (if h:j<8 then (idT (Tr.add (Tr.setT n (Tr.kid (Tr.uni c0) (Tr.oct n ⟨px,py,pz⟩)) ⟨px,py,pz⟩ c) ts) (chS n (Tr.uni c0) ⟨px,py,pz⟩ c ⟨j,h⟩):Int) else 0)) (fun j hj=>by
    simp only [dif_pos hj]
    by_cases e:j=ok.val
    · rw [if_pos e]
      have e2:(⟨j,hj⟩:Fin 8)=Tr.oct n ⟨px,py,pz⟩:=by rw [hok.out];exact Fin.ext e
      rw [e2,chS_at]
    · rw [if_neg e]
      have e2:(⟨j,hj⟩:Fin 8) ≠ Tr.oct n ⟨px,py,pz⟩:=by rw [hok.out];exact fun h=>e (congrArg Fin.val h)
      rw [chS_off e2,idT_prefix hp1 (kids_in HG.out HT.out _)])
   have hK8:Keeps Far w (w7.setCell ⟨gk,ok.val,none⟩ (.int .i64 (idT (Tr.add (Tr.setT n (Tr.kid (Tr.uni c0) (Tr.oct n ⟨px,py,pz⟩)) ⟨px,py,pz⟩ c) ts) (Tr.setT n (Tr.kid (Tr.uni c0) (Tr.oct n ⟨px,py,pz⟩)) ⟨px,py,pz⟩ c):Int))):=((Keeps.below hB3.out).trans (HK.out.less (fun k hk=>.inl hk))).trans (Keeps.grown hg8 (fun g e hx=>by injection e with e;exact hgne _ hx e))
   have hz8:gk<(w7.setCell ⟨gk,ok.val,none⟩ (.int .i64 (idT (Tr.add (Tr.setT n (Tr.kid (Tr.uni c0) (Tr.oct n ⟨px,py,pz⟩)) ⟨px,py,pz⟩ c) ts) (Tr.setT n (Tr.kid (Tr.uni c0) (Tr.oct n ⟨px,py,pz⟩)) ⟨px,py,pz⟩ c):Int))).heap.size:=by rw [size_setCell];exact Nat.lt_of_lt_of_le hs3 HK.out.size
   have hin:=inner_any (w7.setCell ⟨gk,ok.val,none⟩ (.int .i64 (idT (Tr.add (Tr.setT n (Tr.kid (Tr.uni c0) (Tr.oct n ⟨px,py,pz⟩)) ⟨px,py,pz⟩ c) ts) (Tr.setT n (Tr.kid (Tr.uni c0) (Tr.oct n ⟨px,py,pz⟩)) ⟨px,py,pz⟩ c):Int))) (fun x=>Far x∨(w.heap.size≤x∧x≤gk)) sb most (Tr.add (Tr.setT n (Tr.kid (Tr.uni c0) (Tr.oct n ⟨px,py,pz⟩)) ⟨px,py,pz⟩ c) ts) (n+3) (by omega) (chS n (Tr.uni c0) ⟨px,py,pz⟩ c) hm1 hG1 (by have:=HL.out;have:=hp2.length_le;omega) (fun k hk=>hk.elim (fun h=>Nat.lt_of_lt_of_le (HF.out k h) hK8.size) (fun h=>Nat.lt_of_le_of_lt h.2 hz8)) hS8
   rw [show ((n+3:Nat):Int)=(n:Int)+3 by omega] at hin
   have hag:=inner_again (d:=n+3) HG.out hW
   rw [HO.out,←set_succ] at hag
   rw [←set_succ] at hin
   rw [hag] at hin
   have hin:=Bx.mk hin
   have d0:(w7.setCell ⟨gk,ok.val,none⟩ (.int .i64 (idT (Tr.add (Tr.setT n (Tr.kid (Tr.uni c0) (Tr.oct n ⟨px,py,pz⟩)) ⟨px,py,pz⟩ c) ts) (Tr.setT n (Tr.kid (Tr.uni c0) (Tr.oct n ⟨px,py,pz⟩)) ⟨px,py,pz⟩ c):Int))).cell? ⟨gk,0,none⟩=some (.int .i64 (idT (Tr.add (Tr.setT n (Tr.kid (Tr.uni c0) (Tr.oct n ⟨px,py,pz⟩)) ⟨px,py,pz⟩ c) ts) (chS n (Tr.uni c0) ⟨px,py,pz⟩ c 0):Int)):=by have:=hrow8.cell (i:=0) (by omega);rw [dif_pos (by omega)] at this;exact this
   have d1:(w7.setCell ⟨gk,ok.val,none⟩ (.int .i64 (idT (Tr.add (Tr.setT n (Tr.kid (Tr.uni c0) (Tr.oct n ⟨px,py,pz⟩)) ⟨px,py,pz⟩ c) ts) (Tr.setT n (Tr.kid (Tr.uni c0) (Tr.oct n ⟨px,py,pz⟩)) ⟨px,py,pz⟩ c):Int))).cell? ⟨gk,1,none⟩=some (.int .i64 (idT (Tr.add (Tr.setT n (Tr.kid (Tr.uni c0) (Tr.oct n ⟨px,py,pz⟩)) ⟨px,py,pz⟩ c) ts) (chS n (Tr.uni c0) ⟨px,py,pz⟩ c 1):Int)):=by have:=hrow8.cell (i:=1) (by omega);rw [dif_pos (by omega)] at this;exact this
   have d2:(w7.setCell ⟨gk,ok.val,none⟩ (.int .i64 (idT (Tr.add (Tr.setT n (Tr.kid (Tr.uni c0) (Tr.oct n ⟨px,py,pz⟩)) ⟨px,py,pz⟩ c) ts) (Tr.setT n (Tr.kid (Tr.uni c0) (Tr.oct n ⟨px,py,pz⟩)) ⟨px,py,pz⟩ c):Int))).cell? ⟨gk,2,none⟩=some (.int .i64 (idT (Tr.add (Tr.setT n (Tr.kid (Tr.uni c0) (Tr.oct n ⟨px,py,pz⟩)) ⟨px,py,pz⟩ c) ts) (chS n (Tr.uni c0) ⟨px,py,pz⟩ c 2):Int)):=by have:=hrow8.cell (i:=2) (by omega);rw [dif_pos (by omega)] at this;exact this
   have d3:(w7.setCell ⟨gk,ok.val,none⟩ (.int .i64 (idT (Tr.add (Tr.setT n (Tr.kid (Tr.uni c0) (Tr.oct n ⟨px,py,pz⟩)) ⟨px,py,pz⟩ c) ts) (Tr.setT n (Tr.kid (Tr.uni c0) (Tr.oct n ⟨px,py,pz⟩)) ⟨px,py,pz⟩ c):Int))).cell? ⟨gk,3,none⟩=some (.int .i64 (idT (Tr.add (Tr.setT n (Tr.kid (Tr.uni c0) (Tr.oct n ⟨px,py,pz⟩)) ⟨px,py,pz⟩ c) ts) (chS n (Tr.uni c0) ⟨px,py,pz⟩ c 3):Int)):=by have:=hrow8.cell (i:=3) (by omega);rw [dif_pos (by omega)] at this;exact this
   have d4:(w7.setCell ⟨gk,ok.val,none⟩ (.int .i64 (idT (Tr.add (Tr.setT n (Tr.kid (Tr.uni c0) (Tr.oct n ⟨px,py,pz⟩)) ⟨px,py,pz⟩ c) ts) (Tr.setT n (Tr.kid (Tr.uni c0) (Tr.oct n ⟨px,py,pz⟩)) ⟨px,py,pz⟩ c):Int))).cell? ⟨gk,4,none⟩=some (.int .i64 (idT (Tr.add (Tr.setT n (Tr.kid (Tr.uni c0) (Tr.oct n ⟨px,py,pz⟩)) ⟨px,py,pz⟩ c) ts) (chS n (Tr.uni c0) ⟨px,py,pz⟩ c 4):Int)):=by have:=hrow8.cell (i:=4) (by omega);rw [dif_pos (by omega)] at this;exact this
   have d5:(w7.setCell ⟨gk,ok.val,none⟩ (.int .i64 (idT (Tr.add (Tr.setT n (Tr.kid (Tr.uni c0) (Tr.oct n ⟨px,py,pz⟩)) ⟨px,py,pz⟩ c) ts) (Tr.setT n (Tr.kid (Tr.uni c0) (Tr.oct n ⟨px,py,pz⟩)) ⟨px,py,pz⟩ c):Int))).cell? ⟨gk,5,none⟩=some (.int .i64 (idT (Tr.add (Tr.setT n (Tr.kid (Tr.uni c0) (Tr.oct n ⟨px,py,pz⟩)) ⟨px,py,pz⟩ c) ts) (chS n (Tr.uni c0) ⟨px,py,pz⟩ c 5):Int)):=by have:=hrow8.cell (i:=5) (by omega);rw [dif_pos (by omega)] at this;exact this
   have d6:(w7.setCell ⟨gk,ok.val,none⟩ (.int .i64 (idT (Tr.add (Tr.setT n (Tr.kid (Tr.uni c0) (Tr.oct n ⟨px,py,pz⟩)) ⟨px,py,pz⟩ c) ts) (Tr.setT n (Tr.kid (Tr.uni c0) (Tr.oct n ⟨px,py,pz⟩)) ⟨px,py,pz⟩ c):Int))).cell? ⟨gk,6,none⟩=some (.int .i64 (idT (Tr.add (Tr.setT n (Tr.kid (Tr.uni c0) (Tr.oct n ⟨px,py,pz⟩)) ⟨px,py,pz⟩ c) ts) (chS n (Tr.uni c0) ⟨px,py,pz⟩ c 6):Int)):=by have:=hrow8.cell (i:=6) (by omega);rw [dif_pos (by omega)] at this;exact this
   have d7:(w7.setCell ⟨gk,ok.val,none⟩ (.int .i64 (idT (Tr.add (Tr.setT n (Tr.kid (Tr.uni c0) (Tr.oct n ⟨px,py,pz⟩)) ⟨px,py,pz⟩ c) ts) (Tr.setT n (Tr.kid (Tr.uni c0) (Tr.oct n ⟨px,py,pz⟩)) ⟨px,py,pz⟩ c):Int))).cell? ⟨gk,7,none⟩=some (.int .i64 (idT (Tr.add (Tr.setT n (Tr.kid (Tr.uni c0) (Tr.oct n ⟨px,py,pz⟩)) ⟨px,py,pz⟩ c) ts) (chS n (Tr.uni c0) ⟨px,py,pz⟩ c 7):Int)):=by have:=hrow8.cell (i:=7) (by omega);rw [dif_pos (by omega)] at this;exact this
   have cr8:=hC8.kr.cell 0 rfl
   have hc7:=hrow7.cell ok.isLt
   rw [dif_pos ok.isLt] at hc7
   have hf7:=hrow7.frozen ok.val
   have HK8:=Bx.mk hK8
   have Hf:=Bx.mk hf
   have Hp1:=Bx.mk hp1
   have Hp2:=Bx.mk hp2
   clear hG1 hm1 hg8 hS8 hgne hC7 hC8 hrow7 hrow8 hK8 hz8 hag hs hf hp1 hp2 hW hw0 hWf HO
   go_wp2_with fail
   refine hin.out.mono ?_
   rintro e9 w9 hg
   have Hg:Bx (Grew Far sb most ts (Tr.add (Tr.setT (n+1) (Tr.uni c0) ⟨px,py,pz⟩ c) ts) (Tr.setT (n+1) (Tr.uni c0) ⟨px,py,pz⟩ c) w e9 w9):=⟨by
    refine ⟨HK8.out.trans (hg.keeps.less (fun k hk=>.inl hk)),Nat.le_trans HK8.out.size hg.size,?_⟩
    rcases hg.way with ⟨h1,h2,h3⟩ | ⟨h1,h2,us,h3,h4,h5,h6⟩
    · exact .inl ⟨Tr.fits_trans Hp1.out Hp2.out Hf.out h1,h2,h3.less (fun k hk=>.inl hk)⟩
    · exact .inr ⟨Tr.not_fits_later Hp1.out Hp2.out h1,h2,us,h3,Hp1.out.trans h4,h5,h6.less (fun k hk=>.inl hk)⟩⟩
   obtain ⟨-,-,(⟨hf,rfl,hs⟩ | ⟨hf,rfl,us,hs⟩)⟩:=hg
   all_goals
    clear hf hs d0 d1 d2 d3 d4 d5 d6 d7
    go_wp2_with fail
    go_ret2
    exact Hg.out
 · have Hg:Bx (Grew Far sb most ts (Tr.add (Tr.setT (n+1) (Tr.uni c0) ⟨px,py,pz⟩ c) ts) (Tr.setT (n+1) (Tr.uni c0) ⟨px,py,pz⟩ c) w (ret2 0 14) w7):=⟨by
    refine ⟨(Keeps.below hB3.out).trans (HK.out.less (fun k hk=>.inl hk)),Nat.le_trans hB3.out.size HK.out.size,.inr ⟨?_,rfl,us,hu1,hu2,hu3.trans hp2,hs.less (fun k hk=>.inl hk)⟩⟩
    exact Tr.not_fits_mono hp1 hp2 hnf⟩
   clear hs hnf hu1 hu2 hu3 hp1 hp2 hW hw0 hWf HO
   go_wp2_with fail
   go_ret2
   exact Hg.out
set_option maxRecDepth 100000 in
set_option maxHeartbeats 2000000 in
theorem set_node (w:World) (Far:Nat→Prop) (ps pc pp pb sb:Nat) (c px py pz:Int) (HC:Bx (SCtx w Far ps pc pp pb sb c px py pz)) (hc:0≤c∧c≤255) (hx:0≤px∧px≤100000) (hy:0≤py∧py≤100000) (hz:0≤pz∧pz≤100000) (ch:Fin 8→Tr) (n:Nat) (hn:n≤11) (most:Int) (ts:List Tr) (ht:(Tr.node (n+3) ch)∈ts) (hDk : ∀ i,Dep n (Tr.kid (Tr.node (n+3) ch) i)) (hG:Good ts) (hlen:(Tr.add (Tr.setT (n+1) (Tr.node (n+3) ch) ⟨px,py,pz⟩ c) ts).length≤1000000000000) (hFar : ∀ k,Far k→k<w.heap.size) (hS:StoreIs w Far sb most ts)
 (IH:Bx (∀ (W:World) (Far':Nat→Prop),SCtx W Far' ps pc pp pb sb c px py pz→(∀ k,Far' k→k<W.heap.size)→StoreIs W Far' sb most ts→Calls Tryz.prog 64 #[.int .i64 (idT ts (Tr.kid (Tr.node (n+3) ch) (Tr.oct n ⟨px,py,pz⟩)):Int),.int .i64 ((n:Int)+2),.pointer (some ⟨ps,0,none⟩),.pointer (some ⟨pc,0,none⟩),.pointer (some ⟨pp,0,none⟩),.pointer (some ⟨pb,0,none⟩)] W (Grew Far' sb most ts (Tr.add (Tr.setT n (Tr.kid (Tr.node (n+3) ch) (Tr.oct n ⟨px,py,pz⟩)) ⟨px,py,pz⟩ c) ts) (Tr.setT n (Tr.kid (Tr.node (n+3) ch) (Tr.oct n ⟨px,py,pz⟩)) ⟨px,py,pz⟩ c) W))) :
 Calls Tryz.prog 64 #[.int .i64 (idT ts (Tr.node (n+3) ch):Int),.int .i64 ((n:Int)+3),.pointer (some ⟨ps,0,none⟩),.pointer (some ⟨pc,0,none⟩),.pointer (some ⟨pp,0,none⟩),.pointer (some ⟨pb,0,none⟩)] w (Grew Far sb most ts (Tr.add (Tr.setT (n+1) (Tr.node (n+3) ch) ⟨px,py,pz⟩ c) ts) (Tr.setT (n+1) (Tr.node (n+3) ch) ⟨px,py,pz⟩ c) w):=by
 have hlt:=idT_lt ht
 have hpre:=Tr.add_prefix (Tr.setT (n+1) (Tr.node (n+3) ch) ⟨px,py,pz⟩ c) ts
 have hlen0:=Nat.le_trans hpre.length_le hlen
 have hkids:=fun W (h:StoreIs W Far sb most ts)=>children_any Far sb most ts (idT ts (Tr.node (n+3) ch)) (Tr.node (n+3) ch) (idT_get ht) (idT ts (Tr.kid (Tr.node (n+3) ch) 0):Int) (idT ts (Tr.kid (Tr.node (n+3) ch) 1):Int) (idT ts (Tr.kid (Tr.node (n+3) ch) 2):Int) (idT ts (Tr.kid (Tr.node (n+3) ch) 3):Int) (idT ts (Tr.kid (Tr.node (n+3) ch) 4):Int) (idT ts (Tr.kid (Tr.node (n+3) ch) 5):Int) (idT ts (Tr.kid (Tr.node (n+3) ch) 6):Int) (idT ts (Tr.kid (Tr.node (n+3) ch) 7):Int) (fun j u h=>by
  match j,h with
  | 0,h=>exact h
  | 1,h=>exact h
  | 2,h=>exact h
  | 3,h=>exact h
  | 4,h=>exact h
  | 5,h=>exact h
  | 6,h=>exact h
  | 7,h=>exact h
  | j+8,h=>simp at h) W h
 have hkids:=Bx.mk hkids
 have hoct:=Bx.mk (fun W dd hd=>octant_at n (by omega) dd hd px py pz hx hy hz W)
 have hd:(((n:Int)+3) == 2)=false:=by simp;omega
 have HG:=Bx.mk hG
 have HL:=Bx.mk hlen
 have HF:=Bx.mk hFar
 have HS:=Bx.mk hS
 have HT:=Bx.mk ht
 have HD:=Bx.mk hDk
 have Hc:=Bx.mk hc
 have cr0:=HC.out.kr.cell 0 rfl
 clear hc hx hy hz hG hlen hFar hS ht hpre hDk
 go_enter Tryz.func64,Tryz.ntmps64
 go_wp2_with fail
 refine (hkids.out _ HS.out).mono ?_
 rintro e5 w1 ⟨rfl,hb⟩
 have hB:=Bx.mk hb
 have hS1:=HS.out.later hb
 have hC1:=HC.out.later hb
 obtain ⟨g,cap,mb,ks,-,hcn⟩:=Bx.node hS1 HT.out (k:=3) (s:=ByteArray.empty) rfl
 have hd0:=hcn.out 0 _ (by omega) rfl
 have cs1:=ks.cell 1 rfl
 rw [Nat.add_zero] at hd0
 have al0 : ∀ o,(w1.alloc o).cell? ⟨ps,0,none⟩=some (.pointer (some ⟨sb,0,none⟩)):=fun o=>(hC1.kr.alloc o).cell 0 rfl
 have al1 : ∀ o,(w1.alloc o).cell? ⟨sb,1,none⟩=some (.slice (some ⟨g,0,none⟩) ts.length cap):=fun o=>(ks.alloc o).cell 1 rfl
 have al2 : ∀ o,(w1.alloc o).cell? ⟨g,idT ts (Tr.node (n+3) ch) * 12,none⟩=some (.int .i64 3):=fun o=>cell_later (below_lit w1 o) hd0
 have al3 : ∀ o,(w1.alloc o).cell? ⟨pp,0,none⟩=some (.int .i64 px):=fun o=>(hC1.kp.alloc o).cell 0 rfl
 have al4 : ∀ o,(w1.alloc o).cell? ⟨pp,1,none⟩=some (.int .i64 py):=fun o=>(hC1.kp.alloc o).cell 1 rfl
 have al5 : ∀ o,(w1.alloc o).cell? ⟨pp,2,none⟩=some (.int .i64 pz):=fun o=>(hC1.kp.alloc o).cell 2 rfl
 have b1:(0:Int)≤(idT ts (Tr.node (n+3) ch):Int):=by omega
 have b2:(idT ts (Tr.node (n+3) ch):Int)<(ts.length:Int):=by omega
 clear hd0 cs1 ks hcn hS1 hC1 cr0 hb
 go_wp2_with fail
 generalize hW2:World.alloc w1 _=W2
 have hrow0:Bx (W2.rowIs w1.heap.size 54 8 (fun j=>.int .i64 (if h:j<8 then (idT ts (Tr.kid (Tr.node (n+3) ch) ⟨j,h⟩):Int) else 0))):=⟨by
  rw [←hW2]
  refine World.rowIs_alloc w1 _ _ _ (fun i hi=>?_)
  have hi8:i<8:=hi
  rcases i with _ | _ | _ | _ | _ | _ | _ | _ | i
  all_goals first | rfl | omega⟩
 have hb2:Below w1.heap.size w1 W2:=by rw [←hW2];exact below_lit _ _
 have hs2:W2.heap.size=w1.heap.size+1:=by rw [←hW2];simp
 have hB2:=Bx.mk (hB.out.trans (hb2.mono hB.out.size))
 have hgk:w.heap.size≤w1.heap.size:=hB.out.size
 clear hW2 hb2 hB al0 al1 al2 al3 al4 al5 b1 b2 hkids
 generalize w1.heap.size=gk at *
 refine (hoct.out _ _ (by omega)).mono ?_
 rintro e6 w3 ⟨rfl,hb⟩
 have hB3:=Bx.mk (hB2.out.trans (hb.mono hB2.out.size))
 have hrow3:=Bx.mk (hrow0.out.of_block (hb.block gk (by omega)))
 have hs3:gk<w3.heap.size:=by have:=hb.size;omega
 clear hb hrow0 hB2 hs2 hoct
 have hC3:=Bx.mk ((HC.out.later hB3.out).wider (Far':=(fun x=>Far x∨(w.heap.size≤x∧x≤gk))) (fun k hk=>.inl hk))
 have hS3:=Bx.mk ((HS.out.widen (Far':=(fun x=>Far x∨(w.heap.size≤x∧x≤gk))) (fun k hk=>hk.imp id (fun h=>h.1))).later hB3.out)
 have hIH:=Bx.mk (IH.out w3.drew (fun x=>Far x∨(w.heap.size≤x∧x≤gk)) (hC3.out.far (Keeps.below (Below.refl _ _).drew)) (fun k hk=>hk.elim (fun h=>Nat.lt_of_lt_of_le (HF.out k h) hB3.out.size) (fun h=>Nat.lt_of_le_of_lt h.2 hs3)) (hS3.out.later (Below.refl _ _).drew))
 have HO:=Bx.mk (addK_chS (n:=n) (p:=⟨px,py,pz⟩) (c:=c) HG.out HT.out)
 generalize hok:Tr.oct n ⟨px,py,pz⟩=ok at *
 have hcell:=hrow3.out.cell ok.isLt
 rw [dif_pos ok.isLt] at hcell
 replace hok:=Bx.mk hok
 have cb0:=hC3.out.kb.cell 0 rfl
 have b3:(0:Int)≤(ok.val:Int):=by omega
 have b4:(ok.val:Int)<8:=by have:=ok.isLt;omega
 have hsub:IntKind.i64.wrap ((n:Int)+3 - 1)=(n:Int)+2:=by rw [show (n:Int)+3 - 1=(n:Int)+2 by omega];exact IntWalk.i64_in _ (by omega)
 go_wp2_with fail
 go_region_held3 (fun w'=>w'.cell? ⟨pb,0,none⟩=some (.func (.func 64) #[] #[.pointer (some ⟨ps,0,none⟩),.pointer (some ⟨pc,0,none⟩),.pointer (some ⟨pp,0,none⟩),.pointer (some ⟨pb,0,none⟩)])∧w'.cell? ⟨gk,ok.val,none⟩=some (.int .i64 (idT ts (Tr.kid (Tr.node (n+3) ch) ok):Int)))
  (first | go_keep | (dsimp only;and_intros <;> assumption))
  ((go_at_call 64;refine hIH.out.mono ?_;rintro e7 w7 hg;obtain ⟨id,er,rfl,hres⟩:=hg.ends;have hkp:=(Keeps.below (Far:=(fun x=>Far x∨(w.heap.size≤x∧x≤gk))) (Below.refl w3.heap.size w3).drew).trans hg.keeps;have hrow7:=rowIs_far hrow3.out hkp (.inr ⟨hgk,Nat.le_refl _⟩);have cb7:=(hC3.out.far hkp).kb.cell 0 rfl;have c7:=hrow7.cell ok.isLt;rw [dif_pos ok.isLt] at c7))
 have HK:=Bx.mk hkp
 clear cb0 cb7 c7 hrow7 hkp hg hIH hcell hsub
 obtain ⟨way⟩:=hres
 have hWf:=wf_of_good HG.out _ HT.out
 rw [←hok.out] at HO way
 have hw0:=wf_set Hc.out ⟨px,py,pz⟩ n (Tr.kid (Tr.node (n+3) ch) (Tr.oct n ⟨px,py,pz⟩)) (by omega) (wf_kid hWf _) (HD.out _)
 have hp1:=Tr.add_prefix (Tr.setT n (Tr.kid (Tr.node (n+3) ch) (Tr.oct n ⟨px,py,pz⟩)) ⟨px,py,pz⟩ c) ts
 have hW : ∀ i,Tr.WF (chS n (Tr.node (n+3) ch) ⟨px,py,pz⟩ c i):=fun i=>by
  unfold chS
  split
  · exact (wf_set Hc.out ⟨px,py,pz⟩ n _ (by omega) (wf_kid hWf _) (HD.out _)).1
  · exact wf_kid hWf i
 have hp2:=inner_pre (d:=n+3) (ch:=chS n (Tr.node (n+3) ch) ⟨px,py,pz⟩ c) HG.out
 rw [HO.out,←set_succ] at hp2
 rcases way with ⟨rfl,hf,rfl,hs⟩ | ⟨rfl,rfl,hnf,us,hu1,hu2,hu3,hs⟩
 · have hG1:=good_add (Tr.setT n (Tr.kid (Tr.node (n+3) ch) (Tr.oct n ⟨px,py,pz⟩)) ⟨px,py,pz⟩ c) HG.out hw0.1
   have hm1 : ∀ i,chS n (Tr.node (n+3) ch) ⟨px,py,pz⟩ c i∈Tr.add (Tr.setT n (Tr.kid (Tr.node (n+3) ch) (Tr.oct n ⟨px,py,pz⟩)) ⟨px,py,pz⟩ c) ts:=fun i=>by
    unfold chS
    split
    · rename_i e;rw [e];exact Tr.mem_add _ _
    · exact hp1.subset (kids_in HG.out HT.out i)
   have hg8:=grown_setCell w7 ⟨gk,ok.val,none⟩ (.int .i64 (idT (Tr.add (Tr.setT n (Tr.kid (Tr.node (n+3) ch) (Tr.oct n ⟨px,py,pz⟩)) ⟨px,py,pz⟩ c) ts) (Tr.setT n (Tr.kid (Tr.node (n+3) ch) (Tr.oct n ⟨px,py,pz⟩)) ⟨px,py,pz⟩ c):Int))
   have hS8:=hs.apart hg8 (.inr ⟨hgk,Nat.le_refl _⟩)
   have hgne : ∀ k,Far k→gk ≠ k:=fun k hk e=>by have:=HF.out k hk;omega
   have hC7:=(HC.out.later hB3.out).far (HK.out.less (fun k hk=>.inl hk))
   have hC8:=hC7.apart hg8 hgne
   have hrow7:=rowIs_far hrow3.out HK.out (.inr ⟨hgk,Nat.le_refl _⟩)
   have hrow8:=(hrow7.set ok.val (.int .i64 (idT (Tr.add (Tr.setT n (Tr.kid (Tr.node (n+3) ch) (Tr.oct n ⟨px,py,pz⟩)) ⟨px,py,pz⟩ c) ts) (Tr.setT n (Tr.kid (Tr.node (n+3) ch) (Tr.oct n ⟨px,py,pz⟩)) ⟨px,py,pz⟩ c):Int))).congr (g:=fun j=>.int .i64 (if h:j<8 then (idT (Tr.add (Tr.setT n (Tr.kid (Tr.node (n+3) ch) (Tr.oct n ⟨px,py,pz⟩)) ⟨px,py,pz⟩ c) ts) (chS n (Tr.node (n+3) ch) ⟨px,py,pz⟩ c ⟨j,h⟩):Int) else 0)) (fun j hj=>by
    simp only [dif_pos hj]
    by_cases e:j=ok.val
    · rw [if_pos e]
      have e2:(⟨j,hj⟩:Fin 8)=Tr.oct n ⟨px,py,pz⟩:=by rw [hok.out];exact Fin.ext e
      rw [e2,chS_at]
    · rw [if_neg e]
      have e2:(⟨j,hj⟩:Fin 8) ≠ Tr.oct n ⟨px,py,pz⟩:=by rw [hok.out];exact fun h=>e (congrArg Fin.val h)
      rw [chS_off e2,idT_prefix hp1 (kids_in HG.out HT.out _)])
   have hK8:Keeps Far w (w7.setCell ⟨gk,ok.val,none⟩ (.int .i64 (idT (Tr.add (Tr.setT n (Tr.kid (Tr.node (n+3) ch) (Tr.oct n ⟨px,py,pz⟩)) ⟨px,py,pz⟩ c) ts) (Tr.setT n (Tr.kid (Tr.node (n+3) ch) (Tr.oct n ⟨px,py,pz⟩)) ⟨px,py,pz⟩ c):Int))):=((Keeps.below hB3.out).trans (HK.out.less (fun k hk=>.inl hk))).trans (Keeps.grown hg8 (fun g e hx=>by injection e with e;exact hgne _ hx e))
   have hz8:gk<(w7.setCell ⟨gk,ok.val,none⟩ (.int .i64 (idT (Tr.add (Tr.setT n (Tr.kid (Tr.node (n+3) ch) (Tr.oct n ⟨px,py,pz⟩)) ⟨px,py,pz⟩ c) ts) (Tr.setT n (Tr.kid (Tr.node (n+3) ch) (Tr.oct n ⟨px,py,pz⟩)) ⟨px,py,pz⟩ c):Int))).heap.size:=by rw [size_setCell];exact Nat.lt_of_lt_of_le hs3 HK.out.size
   have hin:=inner_any (w7.setCell ⟨gk,ok.val,none⟩ (.int .i64 (idT (Tr.add (Tr.setT n (Tr.kid (Tr.node (n+3) ch) (Tr.oct n ⟨px,py,pz⟩)) ⟨px,py,pz⟩ c) ts) (Tr.setT n (Tr.kid (Tr.node (n+3) ch) (Tr.oct n ⟨px,py,pz⟩)) ⟨px,py,pz⟩ c):Int))) (fun x=>Far x∨(w.heap.size≤x∧x≤gk)) sb most (Tr.add (Tr.setT n (Tr.kid (Tr.node (n+3) ch) (Tr.oct n ⟨px,py,pz⟩)) ⟨px,py,pz⟩ c) ts) (n+3) (by omega) (chS n (Tr.node (n+3) ch) ⟨px,py,pz⟩ c) hm1 hG1 (by have:=HL.out;have:=hp2.length_le;omega) (fun k hk=>hk.elim (fun h=>Nat.lt_of_lt_of_le (HF.out k h) hK8.size) (fun h=>Nat.lt_of_le_of_lt h.2 hz8)) hS8
   rw [show ((n+3:Nat):Int)=(n:Int)+3 by omega] at hin
   have hag:=inner_again (d:=n+3) HG.out hW
   rw [HO.out,←set_succ] at hag
   rw [←set_succ] at hin
   rw [hag] at hin
   have hin:=Bx.mk hin
   have d0:(w7.setCell ⟨gk,ok.val,none⟩ (.int .i64 (idT (Tr.add (Tr.setT n (Tr.kid (Tr.node (n+3) ch) (Tr.oct n ⟨px,py,pz⟩)) ⟨px,py,pz⟩ c) ts) (Tr.setT n (Tr.kid (Tr.node (n+3) ch) (Tr.oct n ⟨px,py,pz⟩)) ⟨px,py,pz⟩ c):Int))).cell? ⟨gk,0,none⟩=some (.int .i64 (idT (Tr.add (Tr.setT n (Tr.kid (Tr.node (n+3) ch) (Tr.oct n ⟨px,py,pz⟩)) ⟨px,py,pz⟩ c) ts) (chS n (Tr.node (n+3) ch) ⟨px,py,pz⟩ c 0):Int)):=by have:=hrow8.cell (i:=0) (by omega);rw [dif_pos (by omega)] at this;exact this
   have d1:(w7.setCell ⟨gk,ok.val,none⟩ (.int .i64 (idT (Tr.add (Tr.setT n (Tr.kid (Tr.node (n+3) ch) (Tr.oct n ⟨px,py,pz⟩)) ⟨px,py,pz⟩ c) ts) (Tr.setT n (Tr.kid (Tr.node (n+3) ch) (Tr.oct n ⟨px,py,pz⟩)) ⟨px,py,pz⟩ c):Int))).cell? ⟨gk,1,none⟩=some (.int .i64 (idT (Tr.add (Tr.setT n (Tr.kid (Tr.node (n+3) ch) (Tr.oct n ⟨px,py,pz⟩)) ⟨px,py,pz⟩ c) ts) (chS n (Tr.node (n+3) ch) ⟨px,py,pz⟩ c 1):Int)):=by have:=hrow8.cell (i:=1) (by omega);rw [dif_pos (by omega)] at this;exact this
   have d2:(w7.setCell ⟨gk,ok.val,none⟩ (.int .i64 (idT (Tr.add (Tr.setT n (Tr.kid (Tr.node (n+3) ch) (Tr.oct n ⟨px,py,pz⟩)) ⟨px,py,pz⟩ c) ts) (Tr.setT n (Tr.kid (Tr.node (n+3) ch) (Tr.oct n ⟨px,py,pz⟩)) ⟨px,py,pz⟩ c):Int))).cell? ⟨gk,2,none⟩=some (.int .i64 (idT (Tr.add (Tr.setT n (Tr.kid (Tr.node (n+3) ch) (Tr.oct n ⟨px,py,pz⟩)) ⟨px,py,pz⟩ c) ts) (chS n (Tr.node (n+3) ch) ⟨px,py,pz⟩ c 2):Int)):=by have:=hrow8.cell (i:=2) (by omega);rw [dif_pos (by omega)] at this;exact this
   have d3:(w7.setCell ⟨gk,ok.val,none⟩ (.int .i64 (idT (Tr.add (Tr.setT n (Tr.kid (Tr.node (n+3) ch) (Tr.oct n ⟨px,py,pz⟩)) ⟨px,py,pz⟩ c) ts) (Tr.setT n (Tr.kid (Tr.node (n+3) ch) (Tr.oct n ⟨px,py,pz⟩)) ⟨px,py,pz⟩ c):Int))).cell? ⟨gk,3,none⟩=some (.int .i64 (idT (Tr.add (Tr.setT n (Tr.kid (Tr.node (n+3) ch) (Tr.oct n ⟨px,py,pz⟩)) ⟨px,py,pz⟩ c) ts) (chS n (Tr.node (n+3) ch) ⟨px,py,pz⟩ c 3):Int)):=by have:=hrow8.cell (i:=3) (by omega);rw [dif_pos (by omega)] at this;exact this
   have d4:(w7.setCell ⟨gk,ok.val,none⟩ (.int .i64 (idT (Tr.add (Tr.setT n (Tr.kid (Tr.node (n+3) ch) (Tr.oct n ⟨px,py,pz⟩)) ⟨px,py,pz⟩ c) ts) (Tr.setT n (Tr.kid (Tr.node (n+3) ch) (Tr.oct n ⟨px,py,pz⟩)) ⟨px,py,pz⟩ c):Int))).cell? ⟨gk,4,none⟩=some (.int .i64 (idT (Tr.add (Tr.setT n (Tr.kid (Tr.node (n+3) ch) (Tr.oct n ⟨px,py,pz⟩)) ⟨px,py,pz⟩ c) ts) (chS n (Tr.node (n+3) ch) ⟨px,py,pz⟩ c 4):Int)):=by have:=hrow8.cell (i:=4) (by omega);rw [dif_pos (by omega)] at this;exact this
   have d5:(w7.setCell ⟨gk,ok.val,none⟩ (.int .i64 (idT (Tr.add (Tr.setT n (Tr.kid (Tr.node (n+3) ch) (Tr.oct n ⟨px,py,pz⟩)) ⟨px,py,pz⟩ c) ts) (Tr.setT n (Tr.kid (Tr.node (n+3) ch) (Tr.oct n ⟨px,py,pz⟩)) ⟨px,py,pz⟩ c):Int))).cell? ⟨gk,5,none⟩=some (.int .i64 (idT (Tr.add (Tr.setT n (Tr.kid (Tr.node (n+3) ch) (Tr.oct n ⟨px,py,pz⟩)) ⟨px,py,pz⟩ c) ts) (chS n (Tr.node (n+3) ch) ⟨px,py,pz⟩ c 5):Int)):=by have:=hrow8.cell (i:=5) (by omega);rw [dif_pos (by omega)] at this;exact this
   have d6:(w7.setCell ⟨gk,ok.val,none⟩ (.int .i64 (idT (Tr.add (Tr.setT n (Tr.kid (Tr.node (n+3) ch) (Tr.oct n ⟨px,py,pz⟩)) ⟨px,py,pz⟩ c) ts) (Tr.setT n (Tr.kid (Tr.node (n+3) ch) (Tr.oct n ⟨px,py,pz⟩)) ⟨px,py,pz⟩ c):Int))).cell? ⟨gk,6,none⟩=some (.int .i64 (idT (Tr.add (Tr.setT n (Tr.kid (Tr.node (n+3) ch) (Tr.oct n ⟨px,py,pz⟩)) ⟨px,py,pz⟩ c) ts) (chS n (Tr.node (n+3) ch) ⟨px,py,pz⟩ c 6):Int)):=by have:=hrow8.cell (i:=6) (by omega);rw [dif_pos (by omega)] at this;exact this
   have d7:(w7.setCell ⟨gk,ok.val,none⟩ (.int .i64 (idT (Tr.add (Tr.setT n (Tr.kid (Tr.node (n+3) ch) (Tr.oct n ⟨px,py,pz⟩)) ⟨px,py,pz⟩ c) ts) (Tr.setT n (Tr.kid (Tr.node (n+3) ch) (Tr.oct n ⟨px,py,pz⟩)) ⟨px,py,pz⟩ c):Int))).cell? ⟨gk,7,none⟩=some (.int .i64 (idT (Tr.add (Tr.setT n (Tr.kid (Tr.node (n+3) ch) (Tr.oct n ⟨px,py,pz⟩)) ⟨px,py,pz⟩ c) ts) (chS n (Tr.node (n+3) ch) ⟨px,py,pz⟩ c 7):Int)):=by have:=hrow8.cell (i:=7) (by omega);rw [dif_pos (by omega)] at this;exact this
   have cr8:=hC8.kr.cell 0 rfl
   have hc7:=hrow7.cell ok.isLt
   rw [dif_pos ok.isLt] at hc7
   have hf7:=hrow7.frozen ok.val
   have HK8:=Bx.mk hK8
   have Hf:=Bx.mk hf
   have Hp1:=Bx.mk hp1
   have Hp2:=Bx.mk hp2
   clear hG1 hm1 hg8 hS8 hgne hC7 hC8 hrow7 hrow8 hK8 hz8 hag hs hf hp1 hp2 hW hw0 hWf HO
   go_wp2_with fail
   refine hin.out.mono ?_
   rintro e9 w9 hg
   have Hg:Bx (Grew Far sb most ts (Tr.add (Tr.setT (n+1) (Tr.node (n+3) ch) ⟨px,py,pz⟩ c) ts) (Tr.setT (n+1) (Tr.node (n+3) ch) ⟨px,py,pz⟩ c) w e9 w9):=⟨by
    refine ⟨HK8.out.trans (hg.keeps.less (fun k hk=>.inl hk)),Nat.le_trans HK8.out.size hg.size,?_⟩
    rcases hg.way with ⟨h1,h2,h3⟩ | ⟨h1,h2,us,h3,h4,h5,h6⟩
    · exact .inl ⟨Tr.fits_trans Hp1.out Hp2.out Hf.out h1,h2,h3.less (fun k hk=>.inl hk)⟩
    · exact .inr ⟨Tr.not_fits_later Hp1.out Hp2.out h1,h2,us,h3,Hp1.out.trans h4,h5,h6.less (fun k hk=>.inl hk)⟩⟩
   obtain ⟨-,-,(⟨hf,rfl,hs⟩ | ⟨hf,rfl,us,hs⟩)⟩:=hg
   all_goals
    clear hf hs d0 d1 d2 d3 d4 d5 d6 d7
    go_wp2_with fail
    go_ret2
    exact Hg.out
 · have Hg:Bx (Grew Far sb most ts (Tr.add (Tr.setT (n+1) (Tr.node (n+3) ch) ⟨px,py,pz⟩ c) ts) (Tr.setT (n+1) (Tr.node (n+3) ch) ⟨px,py,pz⟩ c) w (ret2 0 14) w7):=⟨by
    refine ⟨(Keeps.below hB3.out).trans (HK.out.less (fun k hk=>.inl hk)),Nat.le_trans hB3.out.size HK.out.size,.inr ⟨?_,rfl,us,hu1,hu2,hu3.trans hp2,hs.less (fun k hk=>.inl hk)⟩⟩
    exact Tr.not_fits_mono hp1 hp2 hnf⟩
   clear hs hnf hu1 hu2 hu3 hp1 hp2 hW hw0 hWf HO
   go_wp2_with fail
   go_ret2
   exact Hg.out
end Go.Proofs.YtgnfgblkpnfcnaaGreatDoor
end
