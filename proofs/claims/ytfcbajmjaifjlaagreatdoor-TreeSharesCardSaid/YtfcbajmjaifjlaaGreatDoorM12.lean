/- Set, Set2: joined by program, for one claim. -/
import Derived.Test.YtfcbajmjaifjlaaGreatDoorM11
set_option maxHeartbeats 2000000
set_option maxRecDepth 100000
set_option linter.unusedVariables false
set_option linter.unusedSimpArgs false
namespace Go.Proofs.YtfcbajmjaifjlaaGreatDoor
section
open Go.RowKit Go.Sort Go.Maps
open Oct
structure SCtx (w:World) (Far:Nat→Prop) (ps pc pp pb sb:Nat) (c px py pz:Int):Prop where
 kr:Bk w ps #[.pointer (some ⟨sb,0,none⟩)] 33
 kc:Bk w pc #[c] 3
 kp:Bk w pp #[px,py,pz] 23
 kb:Bk w pb #[.func (.func 45) #[] #[.pointer (some ⟨ps,0,none⟩),.pointer (some ⟨pc,0,none⟩),.pointer (some ⟨pp,0,none⟩),.pointer (some ⟨pb,0,none⟩)]] 93
 fr:Far ps
 fc:Far pc
 fp:Far pp
 fb:Far pb
section
variable {w w':World} {Far Far':Nat→Prop} {ps pc pp pb sb:Nat} {c px py pz:Int}
theorem SCtx.far (h:SCtx w Far ps pc pp pb sb c px py pz) (hk:Keeps Far w w'):SCtx w' Far ps pc pp pb sb c px py pz :=
 ⟨h.kr.far hk h.fr,h.kc.far hk h.fc,h.kp.far hk h.fp,h.kb.far hk h.fb,h.fr,h.fc,h.fp,h.fb⟩
theorem SCtx.later (h:SCtx w Far ps pc pp pb sb c px py pz) (hb:Below w.heap.size w w'):SCtx w' Far ps pc pp pb sb c px py pz:=h.far (Keeps.below hb)
theorem SCtx.wider (h:SCtx w Far ps pc pp pb sb c px py pz) (hf : ∀ k,Far k→Far' k):SCtx w Far' ps pc pp pb sb c px py pz :=
 ⟨h.kr,h.kc,h.kp,h.kb,hf _ h.fr,hf _ h.fc,hf _ h.fp,hf _ h.fb⟩
theorem SCtx.apart {g:Nat} (h:SCtx w Far ps pc pp pb sb c px py pz) (hg:w.grownBy w' (some g)) (hf : ∀ k,Far k→g ≠ k):SCtx w' Far ps pc pp pb sb c px py pz :=
 ⟨h.kr.grownO hg (by simpa using hf _ h.fr),h.kc.grownO hg (by simpa using hf _ h.fc),h.kp.grownO hg (by simpa using hf _ h.fp),h.kb.grownO hg (by simpa using hf _ h.fb),h.fr,h.fc,h.fp,h.fb⟩
end
theorem zHI (px py pz:Int) (hx:0≤px∧px≤100000) (hy:0≤py∧py≤100000) (hz:0≤pz∧pz≤100000) :
 ∃ x4 y4 z4:Int,bits .and .i64 px 3=x4∧bits .and .i64 py 3=y4∧bits .and .i64 pz 3=z4∧bits .or .i64 (bits .or .i64 x4 (wrap64 (y4 * 4))) (wrap64 (z4 * 16))=(Tr.idx ⟨px,py,pz⟩:Int):=by
 refine ⟨px % 4,py % 4,pz % 4,zBl px (by omega) (by omega),zBl py (by omega) (by omega),zBl pz (by omega) (by omega),?_⟩
 rw [zG9 (by omega) (by omega) (by omega)]
 unfold Tr.idx;simp only [];omega
theorem zL8 {t:Tr} (h:Dep 0 t):(∃ c0,t = .uni c0) ∨ ∃ l,t = .brick l:=by
 cases h with
 | uni _ c=>exact .inl ⟨c,rfl⟩
 | brick l=>exact .inr ⟨l,rfl⟩
theorem zLF (w:World) (Far:Nat→Prop) (ps pc pp pb sb:Nat) (c px py pz:Int) (HC:Bx (SCtx w Far ps pc pp pb sb c px py pz)) (hc:0≤c∧c≤255) (hx:0≤px∧px≤100000) (hy:0≤py∧py≤100000) (hz:0≤pz∧pz≤100000) (c0:Int) (most:Int) (ts:List Tr) (ht:(Tr.uni c0)∈ts) (hG:Good ts) (hlen:ts.length≤1000000000000) (hFar : ∀ k,Far k→k<w.heap.size) (hS:StoreIs w Far sb most ts) :
 Calls Tryz.prog 45 #[(idT ts (Tr.uni c0):Int),(2:Int),.pointer (some ⟨ps,0,none⟩),.pointer (some ⟨pc,0,none⟩),.pointer (some ⟨pp,0,none⟩),.pointer (some ⟨pb,0,none⟩)] w (Grew Far sb most ts (Tr.add (Tr.setT 0 (Tr.uni c0) ⟨px,py,pz⟩ c) ts) (Tr.setT 0 (Tr.uni c0) ⟨px,py,pz⟩ c) w):=by
 obtain ⟨x4,y4,z4,e1,e2,e3,e4⟩:=zHI px py pz hx hy hz;have hk:=Tr.idx_lt ⟨px,py,pz⟩;have hby:=hG.bytes _ ht;have hset:Tr.setT 0 (Tr.uni c0) ⟨px,py,pz⟩ c=Tr.mkBrick ((Tr.cells (Tr.uni c0)).set (Tr.idx ⟨px,py,pz⟩) c):=rfl;rw [hset];have hcl64:(Tr.cells (Tr.uni c0)).length=64 ∧ ∀ x∈Tr.cells (Tr.uni c0),0≤x∧x≤255:=⟨by simp [Tr.cells],fun x hx=>by simp [Tr.cells] at hx;rw [hx];exact hby.unis c0 rfl⟩
 have hls:((Tr.cells (Tr.uni c0)).set (Tr.idx ⟨px,py,pz⟩) c).length=64:=by rw [List.length_set];exact hcl64.1
 have hall:((Tr.cells (Tr.uni c0)).set (Tr.idx ⟨px,py,pz⟩) c).all Pal.cell=true:=by
  rw [List.all_eq_true];intro x hx;rw [Pal.cell_eq];rcases List.mem_or_eq_of_mem_set hx with hx | rfl
  · simpa using hcl64.2 x hx
  · simpa using hc
 have hcl:=Bx.mk (zAt w Far sb most ts _ ht hG hlen hS);simp only [zNT] at hcl;have hbr:=Bx.mk (fun W (hb:Below w.heap.size w W) a cap hsl=>zCP W Far sb most ts a cap _ hls hall hsl hG hlen (fun k hk=>Nat.lt_of_lt_of_le (hFar k hk) hb.size) (hS.later hb));have hl0:=Bx.mk hcl64.1;have cr:=HC.out.kr.cell 0 rfl;clear hset hcl64 hls hall hby hG hlen hFar hS hx hy hz ht hc;generalize hkk:Tr.idx ⟨px,py,pz⟩=kk at *;clear hkk;generalize (idT ts (Tr.uni c0):Int)=ii at *;have hcz:Tr.cells (.uni c0)=List.replicate 64 c0:=rfl;rw [hcz] at hbr hl0 ⊢;clear hcz;go_enter Tryz.func45,Tryz.ntmps45;go_wp2_with fail;refine hcl.out.mono ?_;rintro e5 w1 ⟨v,rfl,hown,hb⟩;have hB:=Bx.mk hb;obtain ⟨g,cap,rfl,hg1,hg2,hcell,-,-⟩:=hown.at (by simp)
 have hc0:=hcell 0 c0 rfl;have hrp:=Bx.mk (fun W (h:Below w1.heap.size w1 W)=>zCd ⟨g,0,none⟩ cap c0 64 (by omega) (by omega) W (cell_later h hc0))
 clear hcell hown hb;simp only [List.length_cons,List.length_nil,Nat.zero_add];rw [show ((64:Nat):Int)=64 from rfl] at hrp;go_wp2_with fail;refine (hrp.out _ (Below.refl _ _)).mono ?_;rintro e6 w2 ⟨v2,rfl,hown,hb⟩;replace hB:=Bx.mk (hB.out.trans (hb.mono hB.out.size));have hsz2:w.heap.size≤w1.heap.size:=by omega
 obtain ⟨g2,cap2,rfl,hg3,hg4,hcell,hfr,hst⟩:=hown.at (by simp)
 rw [hl0.out] at hst;have hval:=hcell kk c0 (by rw [List.getElem?_replicate,if_pos hk])
 have hfz:=hfr kk;have hst2:=Bx.mk (hst kk c);have hC2:=HC.out.later hB.out;have cr2:=hC2.kr.cell 0 rfl;have cc2:=hC2.kc.cell 0 rfl;obtain ⟨cp0,cp1,cp2⟩:=hC2.kp.c3;have b1:(0:Int)≤(kk:Int):=by omega
 have b2:(kk:Int)<64:=by omega
 have hgw:w.heap.size≤g2:=by omega
 have hset:=Bx.mk (hB.out.setCell hgw (.int .i64 c) (p:=⟨g2,kk,none⟩));have hkr3:=((hC2.kr.other ⟨g2,kk,none⟩ (.int .i64 c) (by have:=(HC.out.kr).lt;simp only;omega))).cell 0 rfl
 rw [hl0.out];clear hC2 hcell hfr hst hown;go_wp2_with fail;refine (hbr.out _ hset.out _ _ hst2.out.sl).mono ?_;rintro e7 w7 hg;have Hg:=Bx.mk (hg.since hset.out);obtain ⟨-,-,(⟨hf,rfl,hs⟩ | ⟨hf,rfl,us,hs⟩)⟩:=hg
 all_goals
  clear hf hs;go_wp2_with fail
  go_ret2
  exact Hg.out
theorem zHs (w:World) (Far:Nat→Prop) (ps pc pp pb sb:Nat) (c px py pz:Int) (HC:Bx (SCtx w Far ps pc pp pb sb c px py pz)) (hc:0≤c∧c≤255) (hx:0≤px∧px≤100000) (hy:0≤py∧py≤100000) (hz:0≤pz∧pz≤100000) (l:List Int) (most:Int) (ts:List Tr) (ht:(Tr.brick l)∈ts) (hG:Good ts) (hlen:ts.length≤1000000000000) (hFar : ∀ k,Far k→k<w.heap.size) (hS:StoreIs w Far sb most ts) :
 Calls Tryz.prog 45 #[(idT ts (Tr.brick l):Int),(2:Int),.pointer (some ⟨ps,0,none⟩),.pointer (some ⟨pc,0,none⟩),.pointer (some ⟨pp,0,none⟩),.pointer (some ⟨pb,0,none⟩)] w (Grew Far sb most ts (Tr.add (Tr.setT 0 (Tr.brick l) ⟨px,py,pz⟩ c) ts) (Tr.setT 0 (Tr.brick l) ⟨px,py,pz⟩ c) w):=by
 obtain ⟨x4,y4,z4,e1,e2,e3,e4⟩:=zHI px py pz hx hy hz;have hk:=Tr.idx_lt ⟨px,py,pz⟩;have hby:=hG.bytes _ ht;have hset:Tr.setT 0 (Tr.brick l) ⟨px,py,pz⟩ c=Tr.mkBrick ((Tr.cells (Tr.brick l)).set (Tr.idx ⟨px,py,pz⟩) c):=rfl;rw [hset];have hcl64:(Tr.cells (Tr.brick l)).length=64 ∧ ∀ x∈Tr.cells (Tr.brick l),0≤x∧x≤255:=hby.bricks l rfl;have hls:((Tr.cells (Tr.brick l)).set (Tr.idx ⟨px,py,pz⟩) c).length=64:=by rw [List.length_set];exact hcl64.1
 have hall:((Tr.cells (Tr.brick l)).set (Tr.idx ⟨px,py,pz⟩) c).all Pal.cell=true:=by
  rw [List.all_eq_true];intro x hx;rw [Pal.cell_eq];rcases List.mem_or_eq_of_mem_set hx with hx | rfl
  · simpa using hcl64.2 x hx
  · simpa using hc
 have hcl:=Bx.mk (zAt w Far sb most ts _ ht hG hlen hS);simp only [zNT] at hcl;have hbr:=Bx.mk (fun W (hb:Below w.heap.size w W) a cap hsl=>zCP W Far sb most ts a cap _ hls hall hsl hG hlen (fun k hk=>Nat.lt_of_lt_of_le (hFar k hk) hb.size) (hS.later hb));have hl0:=Bx.mk hcl64.1;have cr:=HC.out.kr.cell 0 rfl;clear hset hcl64 hls hall hby hG hlen hFar hS hx hy hz ht hc;generalize hkk:Tr.idx ⟨px,py,pz⟩=kk at *;clear hkk;generalize (idT ts (Tr.brick l):Int)=ii at *;have hcz:Tr.cells (.brick l)=l:=rfl;rw [hcz] at hbr hl0 ⊢;clear hcz;go_enter Tryz.func45,Tryz.ntmps45;go_wp2_with fail;refine hcl.out.mono ?_;rintro e5 w1 ⟨v,rfl,hown,hb⟩;have hB:=Bx.mk hb;have hsz2:w.heap.size≤w.heap.size:=Nat.le_refl _;obtain ⟨w2,rfl⟩ : ∃ w2:World,w2=w1:=⟨_,rfl⟩;obtain ⟨g2,cap2,rfl,hg3,hg4,hcell,hfr,hst⟩:=hown.at (by rw [hl0.out];omega)
 rw [hl0.out] at hst;have hval:=hcell kk _ (List.getElem?_eq_getElem (by rw [hl0.out];exact hk))
 have hfz:=hfr kk;have hst2:=Bx.mk (hst kk c);have hC2:=HC.out.later hB.out;have cr2:=hC2.kr.cell 0 rfl;have cc2:=hC2.kc.cell 0 rfl;obtain ⟨cp0,cp1,cp2⟩:=hC2.kp.c3;have b1:(0:Int)≤(kk:Int):=by omega
 have b2:(kk:Int)<64:=by omega
 have hgw:w.heap.size≤g2:=by omega
 have hset:=Bx.mk (hB.out.setCell hgw (.int .i64 c) (p:=⟨g2,kk,none⟩));have hkr3:=((hC2.kr.other ⟨g2,kk,none⟩ (.int .i64 c) (by have:=(HC.out.kr).lt;simp only;omega))).cell 0 rfl
 rw [hl0.out];clear hC2 hcell hfr hst hown;go_wp2_with fail;refine (hbr.out _ hset.out _ _ hst2.out.sl).mono ?_;rintro e7 w7 hg;have Hg:=Bx.mk (hg.since hset.out);obtain ⟨-,-,(⟨hf,rfl,hs⟩ | ⟨hf,rfl,us,hs⟩)⟩:=hg
 all_goals
  clear hf hs;go_wp2_with fail
  go_ret2
  exact Hg.out
end
section
open Go.RowKit Go.Sort Go.Maps
open Oct
attribute [local go_sem ↓] Go.wp_at_zero Go.wp_at_succ
noncomputable def chS (n:Nat) (t:Tr) (p:Pt) (c:Int) (i:Fin 8):Tr:=if i=Tr.oct n p then Tr.setT n (t.kid i) p c else t.kid i
theorem zAz (n:Nat) (t:Tr) (p:Pt) (c:Int):Tr.setT (n+1) t p c=Tr.mkInner (n+3) (chS n t p c):=rfl
theorem zKO (n:Nat) (t:Tr) (p:Pt) (c:Int):chS n t p c (Tr.oct n p)=Tr.setT n (t.kid (Tr.oct n p)) p c:=if_pos rfl
theorem zGn {n:Nat} {t:Tr} {p:Pt} {c:Int} {i:Fin 8} (h:i ≠ Tr.oct n p):chS n t p c i=t.kid i:=if_neg h
theorem zB0 {t:Tr} {ts:List Tr} (hG:Good ts) (ht:t∈ts) (i:Fin 8):t.kid i∈ts:=by
 cases t with
 | uni c=>exact ht
 | brick l=>exact ht
 | node d ch=>exact hG.closed.2 d ch ht i
theorem zDI {n:Nat} {t:Tr} {p:Pt} {c:Int} {ts:List Tr} (hG:Good ts) (ht:t∈ts):Tr.addK (chS n t p c) 8 ts=Tr.add (Tr.setT n (t.kid (Tr.oct n p)) p c) ts:=by
 rw [Tr.addK_one (Tr.oct n p) (fun i hi=>by rw [zGn hi];exact zB0 hG ht i),zKO]
theorem zCV {ts:List Tr} (hG:Good ts) : ∀ (t:Tr),t∈ts→Tr.WF t:=by
 intro t
 induction t with
 | uni c=>intro h;exact (hG.bytes _ h).unis c rfl
 | brick l=>intro h;exact (hG.bytes _ h).bricks l rfl
 | node d ch ih=>intro h;exact ⟨(hG.bytes _ h).nodes d ch rfl,fun i=>ih i (hG.closed.2 d ch h i)⟩
theorem zGI {c:Int} (hc:0≤c∧c≤255) (p:Pt) : ∀ (n:Nat) (t:Tr) (ts:List Tr),n≤200→Good ts→t∈ts→Dep n t→(Tr.add (Tr.setT n t p c) ts).length≤ts.length+(n+1)
 | 0, t, ts, _, hG, ht, hD => by
   have:=zGu (Tr.setT 0 t p c) ts;have h1:Tr.sz (Tr.setT 0 t p c)=1:=by unfold Tr.setT;exact zEC _
   omega
 | n + 1, t, ts, hn, hG, ht, hD => by
   have ih:=zGI hc p n (t.kid (Tr.oct n p)) ts (by omega) hG (zB0 hG ht _) (hD.kid _)
   have h1:=zJy (d:=n+3) (ch:=chS n t p c) hG;rw [zDI hG ht] at h1;rw [zAz];omega
theorem zM7 (w:World) (Far:Nat→Prop) (ps pc pp pb sb:Nat) (c px py pz:Int) (HC:Bx (SCtx w Far ps pc pp pb sb c px py pz)) (hc:0≤c∧c≤255) (hx:0≤px∧px≤100000) (hy:0≤py∧py≤100000) (hz:0≤pz∧pz≤100000) (c0:Int) (n:Nat) (hn:n≤11) (most:Int) (ts:List Tr) (ht:(Tr.uni c0)∈ts) (hDk : ∀ i,Dep n (Tr.kid (Tr.uni c0) i)) (hG:Good ts) (hlen:(Tr.add (Tr.setT (n+1) (Tr.uni c0) ⟨px,py,pz⟩ c) ts).length≤1000000000000) (hFar : ∀ k,Far k→k<w.heap.size) (hS:StoreIs w Far sb most ts)
 (IH:Bx (∀ (W:World) (Far':Nat→Prop),SCtx W Far' ps pc pp pb sb c px py pz→(∀ k,Far' k→k<W.heap.size)→StoreIs W Far' sb most ts→Calls Tryz.prog 45 #[.int .i64 (idT ts (Tr.kid (Tr.uni c0) (Tr.oct n ⟨px,py,pz⟩)):Int),.int .i64 ((n:Int)+2),.pointer (some ⟨ps,0,none⟩),.pointer (some ⟨pc,0,none⟩),.pointer (some ⟨pp,0,none⟩),.pointer (some ⟨pb,0,none⟩)] W (Grew Far' sb most ts (Tr.add (Tr.setT n (Tr.kid (Tr.uni c0) (Tr.oct n ⟨px,py,pz⟩)) ⟨px,py,pz⟩ c) ts) (Tr.setT n (Tr.kid (Tr.uni c0) (Tr.oct n ⟨px,py,pz⟩)) ⟨px,py,pz⟩ c) W))) :
 Calls Tryz.prog 45 #[(idT ts (Tr.uni c0):Int),.int .i64 ((n:Int)+3),.pointer (some ⟨ps,0,none⟩),.pointer (some ⟨pc,0,none⟩),.pointer (some ⟨pp,0,none⟩),.pointer (some ⟨pb,0,none⟩)] w (Grew Far sb most ts (Tr.add (Tr.setT (n+1) (Tr.uni c0) ⟨px,py,pz⟩ c) ts) (Tr.setT (n+1) (Tr.uni c0) ⟨px,py,pz⟩ c) w):=by
 have hlt:=zEO ht;have hpre:=Tr.add_prefix (Tr.setT (n+1) (Tr.uni c0) ⟨px,py,pz⟩ c) ts;have hlen0:=Nat.le_trans hpre.length_le hlen
 have hkids:=fun W (h:StoreIs W Far sb most ts)=>zBd Far sb most ts (idT ts (Tr.uni c0)) (Tr.uni c0) (zB1 ht) 0 0 0 0 0 0 0 0 (fun j u h=>by
  match j,h with
  | 0,h=>exact h
  | 1,h=>exact h
  | 2,h=>exact h
  | 3,h=>exact h
  | 4,h=>exact h
  | 5,h=>exact h
  | 6,h=>exact h
  | 7,h=>exact h
  | j+8,h=>simp at h) W h
 have hkids:=Bx.mk hkids;have hoct:=Bx.mk (fun W dd hd=>zDZ n (by omega) dd hd px py pz hx hy hz W)
 have hd:(((n:Int)+3) == 2)=false:=by simp;omega
 have HG:=Bx.mk hG;have HL:=Bx.mk hlen;have HF:=Bx.mk hFar;have HS:=Bx.mk hS;have HT:=Bx.mk ht;have HD:=Bx.mk hDk;have Hc:=Bx.mk hc;have cr0:=HC.out.kr.cell 0 rfl;clear hc hx hy hz hG hlen hFar hS ht hpre hDk;go_enter Tryz.func45,Tryz.ntmps45;go_wp2_with fail;refine (hkids.out _ HS.out).mono ?_;rintro e5 w1 ⟨rfl,hb⟩;have hB:=Bx.mk hb;have hS1:=HS.out.later hb;have hC1:=HC.out.later hb;obtain ⟨g,cap,mb,ks,-,hcn⟩:=Bx.node hS1 HT.out (k:=1) (c:=c0) rfl;have hd0:=hcn.out 0 _ (by omega) rfl
 have cs1:=ks.cell 1 rfl;rw [Nat.add_zero] at hd0;have al0 : ∀ o,(w1.alloc o).cell? ⟨ps,0,none⟩=some (.pointer (some ⟨sb,0,none⟩)):=fun o=>(hC1.kr.alloc o).cell 0 rfl;have al1 : ∀ o,(w1.alloc o).cell? ⟨sb,1,none⟩=some (.slice (some ⟨g,0,none⟩) ts.length cap):=fun o=>(ks.alloc o).cell 1 rfl;have al2 : ∀ o,(w1.alloc o).cell? ⟨g,idT ts (Tr.uni c0) * 12,none⟩=some (.int .i64 1):=fun o=>cell_later (zW w1 o) hd0;have al3 : ∀ o,(w1.alloc o).cell? ⟨pp,0,none⟩=some (.int .i64 px):=fun o=>(hC1.kp.alloc o).cell 0 rfl;have al4 : ∀ o,(w1.alloc o).cell? ⟨pp,1,none⟩=some (.int .i64 py):=fun o=>(hC1.kp.alloc o).cell 1 rfl;have al5 : ∀ o,(w1.alloc o).cell? ⟨pp,2,none⟩=some (.int .i64 pz):=fun o=>(hC1.kp.alloc o).cell 2 rfl;have b1:(0:Int)≤(idT ts (Tr.uni c0):Int):=by omega
 have b2:(idT ts (Tr.uni c0):Int)<(ts.length:Int):=by omega
 clear hd0 cs1 ks hcn hS1 hC1 cr0 hb;go_wp2_with fail;generalize hW2:World.alloc w1 _=W2
 have hrow0:Bx (W2.rowIs w1.heap.size 98 8 (fun j=>.int .i64 (if h:j<8 then (idT ts (Tr.kid (Tr.uni c0) ⟨j,h⟩):Int) else 0))):=⟨by
  rw [←hW2];refine World.rowIs_alloc w1 _ _ _ (fun i hi=>?_);have hi8:i<8:=hi;rcases i with _ | _ | _ | _ | _ | _ | _ | _ | i
  all_goals first | rfl | omega⟩
 have hb2:Below w1.heap.size w1 W2:=by rw [←hW2];exact zW _ _
 have hs2:W2.heap.size=w1.heap.size+1:=by rw [←hW2];simp
 have hB2:=Bx.mk (hB.out.trans (hb2.mono hB.out.size));have hgk:w.heap.size≤w1.heap.size:=hB.out.size;clear hW2 hb2 hB al0 al1 al2 al3 al4 al5 b1 b2 hkids;generalize w1.heap.size=gk at *;refine (hoct.out _ _ (by omega)).mono ?_
 rintro e6 w3 ⟨rfl,hb⟩;have hB3:=Bx.mk (hB2.out.trans (hb.mono hB2.out.size));have hrow3:=Bx.mk (hrow0.out.of_block (hb.block gk (by omega)))
 have hs3:gk<w3.heap.size:=by have:=hb.size;omega
 clear hb hrow0 hB2 hs2 hoct;have hC3:=Bx.mk ((HC.out.later hB3.out).wider (Far':=(fun x=>Far x∨(w.heap.size≤x∧x≤gk))) (fun k hk=>.inl hk));have hS3:=Bx.mk ((HS.out.widen (Far':=(fun x=>Far x∨(w.heap.size≤x∧x≤gk))) (fun k hk=>hk.imp id (fun h=>h.1))).later hB3.out);have hIH:=Bx.mk (IH.out w3.drew (fun x=>Far x∨(w.heap.size≤x∧x≤gk)) (hC3.out.far (Keeps.below (Below.refl _ _).drew)) (fun k hk=>hk.elim (fun h=>Nat.lt_of_lt_of_le (HF.out k h) hB3.out.size) (fun h=>Nat.lt_of_le_of_lt h.2 hs3)) (hS3.out.later (Below.refl _ _).drew));have HO:=Bx.mk (zDI (n:=n) (p:=⟨px,py,pz⟩) (c:=c) HG.out HT.out);generalize hok:Tr.oct n ⟨px,py,pz⟩=ok at *;have hcell:=hrow3.out.cell ok.isLt;rw [dif_pos ok.isLt] at hcell;replace hok:=Bx.mk hok;have cb0:=hC3.out.kb.cell 0 rfl;have b3:(0:Int)≤(ok.val:Int):=by omega
 have b4:(ok.val:Int)<8:=by have:=ok.isLt;omega
 have hsub:IntKind.i64.wrap ((n:Int)+3 - 1)=(n:Int)+2:=by rw [show (n:Int)+3 - 1=(n:Int)+2 by omega];exact IntWalk.i64_in _ (by omega)
 go_wp2_with fail
 go_region_held3 (fun w'=>w'.cell? ⟨pb,0,none⟩=some (.func (.func 45) #[] #[.pointer (some ⟨ps,0,none⟩),.pointer (some ⟨pc,0,none⟩),.pointer (some ⟨pp,0,none⟩),.pointer (some ⟨pb,0,none⟩)])∧w'.cell? ⟨gk,ok.val,none⟩=some (.int .i64 (idT ts (Tr.kid (Tr.uni c0) ok):Int)))
  (first | go_keep | (dsimp only;and_intros <;> assumption))
  ((go_at_call 45;refine hIH.out.mono ?_;rintro e7 w7 hg;obtain ⟨id,er,rfl,hres⟩:=hg.ends;have hkp:=(Keeps.below (Far:=(fun x=>Far x∨(w.heap.size≤x∧x≤gk))) (Below.refl w3.heap.size w3).drew).trans hg.keeps;have hrow7:=zAQ hrow3.out hkp (.inr ⟨hgk,Nat.le_refl _⟩);have cb7:=(hC3.out.far hkp).kb.cell 0 rfl;have c7:=hrow7.cell ok.isLt;rw [dif_pos ok.isLt] at c7))
 have HK:=Bx.mk hkp;clear cb0 cb7 c7 hrow7 hkp hg hIH hcell hsub;obtain ⟨way⟩:=hres;have hWf:=zCV HG.out _ HT.out;rw [←hok.out] at HO way;have hw0:=zD7 Hc.out ⟨px,py,pz⟩ n (Tr.kid (Tr.uni c0) (Tr.oct n ⟨px,py,pz⟩)) (by omega) (zCr hWf _) (HD.out _)
 have hp1:=Tr.add_prefix (Tr.setT n (Tr.kid (Tr.uni c0) (Tr.oct n ⟨px,py,pz⟩)) ⟨px,py,pz⟩ c) ts
 have hW : ∀ i,Tr.WF (chS n (Tr.uni c0) ⟨px,py,pz⟩ c i):=fun i=>by
  unfold chS;split
  · exact (zD7 Hc.out ⟨px,py,pz⟩ n _ (by omega) (zCr hWf _) (HD.out _)).1
  · exact zCr hWf i
 have hp2:=zAU (d:=n+3) (ch:=chS n (Tr.uni c0) ⟨px,py,pz⟩ c) HG.out;rw [HO.out,←zAz] at hp2;rcases way with ⟨rfl,hf,rfl,hs⟩ | ⟨rfl,rfl,hnf,us,hu1,hu2,hu3,hs⟩
 · have hG1:=zAV (Tr.setT n (Tr.kid (Tr.uni c0) (Tr.oct n ⟨px,py,pz⟩)) ⟨px,py,pz⟩ c) HG.out hw0.1
   have hm1 : ∀ i,chS n (Tr.uni c0) ⟨px,py,pz⟩ c i∈Tr.add (Tr.setT n (Tr.kid (Tr.uni c0) (Tr.oct n ⟨px,py,pz⟩)) ⟨px,py,pz⟩ c) ts:=fun i=>by
    unfold chS;split
    · rename_i e;rw [e];exact Tr.mem_add _ _
    · exact hp1.subset (zB0 HG.out HT.out i)
   have hg8:=zS w7 ⟨gk,ok.val,none⟩ (.int .i64 (idT (Tr.add (Tr.setT n (Tr.kid (Tr.uni c0) (Tr.oct n ⟨px,py,pz⟩)) ⟨px,py,pz⟩ c) ts) (Tr.setT n (Tr.kid (Tr.uni c0) (Tr.oct n ⟨px,py,pz⟩)) ⟨px,py,pz⟩ c):Int));have hS8:=hs.apart hg8 (.inr ⟨hgk,Nat.le_refl _⟩);have hgne : ∀ k,Far k→gk ≠ k:=fun k hk e=>by have:=HF.out k hk;omega
   have hC7:=(HC.out.later hB3.out).far (HK.out.less (fun k hk=>.inl hk));have hC8:=hC7.apart hg8 hgne;have hrow7:=zAQ hrow3.out HK.out (.inr ⟨hgk,Nat.le_refl _⟩)
   have hrow8:=(hrow7.set ok.val (.int .i64 (idT (Tr.add (Tr.setT n (Tr.kid (Tr.uni c0) (Tr.oct n ⟨px,py,pz⟩)) ⟨px,py,pz⟩ c) ts) (Tr.setT n (Tr.kid (Tr.uni c0) (Tr.oct n ⟨px,py,pz⟩)) ⟨px,py,pz⟩ c):Int))).congr (g:=fun j=>.int .i64 (if h:j<8 then (idT (Tr.add (Tr.setT n (Tr.kid (Tr.uni c0) (Tr.oct n ⟨px,py,pz⟩)) ⟨px,py,pz⟩ c) ts) (chS n (Tr.uni c0) ⟨px,py,pz⟩ c ⟨j,h⟩):Int) else 0)) (fun j hj=>by
    simp only [dif_pos hj];by_cases e:j=ok.val
    · rw [if_pos e];have e2:(⟨j,hj⟩:Fin 8)=Tr.oct n ⟨px,py,pz⟩:=by rw [hok.out];exact Fin.ext e
      rw [e2,zKO]
    · rw [if_neg e];have e2:(⟨j,hj⟩:Fin 8) ≠ Tr.oct n ⟨px,py,pz⟩:=by rw [hok.out];exact fun h=>e (congrArg Fin.val h)
      rw [zGn e2,zi hp1 (zB0 HG.out HT.out _)])
   have hK8:Keeps Far w (w7.setCell ⟨gk,ok.val,none⟩ (.int .i64 (idT (Tr.add (Tr.setT n (Tr.kid (Tr.uni c0) (Tr.oct n ⟨px,py,pz⟩)) ⟨px,py,pz⟩ c) ts) (Tr.setT n (Tr.kid (Tr.uni c0) (Tr.oct n ⟨px,py,pz⟩)) ⟨px,py,pz⟩ c):Int))):=((Keeps.below hB3.out).trans (HK.out.less (fun k hk=>.inl hk))).trans (Keeps.grown hg8 (fun g e hx=>by injection e with e;exact hgne _ hx e))
   have hz8:gk<(w7.setCell ⟨gk,ok.val,none⟩ (.int .i64 (idT (Tr.add (Tr.setT n (Tr.kid (Tr.uni c0) (Tr.oct n ⟨px,py,pz⟩)) ⟨px,py,pz⟩ c) ts) (Tr.setT n (Tr.kid (Tr.uni c0) (Tr.oct n ⟨px,py,pz⟩)) ⟨px,py,pz⟩ c):Int))).heap.size:=by rw [zq];exact Nat.lt_of_lt_of_le hs3 HK.out.size
   have hin:=zCG (w7.setCell ⟨gk,ok.val,none⟩ (.int .i64 (idT (Tr.add (Tr.setT n (Tr.kid (Tr.uni c0) (Tr.oct n ⟨px,py,pz⟩)) ⟨px,py,pz⟩ c) ts) (Tr.setT n (Tr.kid (Tr.uni c0) (Tr.oct n ⟨px,py,pz⟩)) ⟨px,py,pz⟩ c):Int))) (fun x=>Far x∨(w.heap.size≤x∧x≤gk)) sb most (Tr.add (Tr.setT n (Tr.kid (Tr.uni c0) (Tr.oct n ⟨px,py,pz⟩)) ⟨px,py,pz⟩ c) ts) (n+3) (by omega) (chS n (Tr.uni c0) ⟨px,py,pz⟩ c) hm1 hG1 (by have:=HL.out;have:=hp2.length_le;omega) (fun k hk=>hk.elim (fun h=>Nat.lt_of_lt_of_le (HF.out k h) hK8.size) (fun h=>Nat.lt_of_le_of_lt h.2 hz8)) hS8
   rw [show ((n+3:Nat):Int)=(n:Int)+3 by omega] at hin
   have hag:=zBJ (d:=n+3) HG.out hW;rw [HO.out,←zAz] at hag;rw [←zAz] at hin;rw [hag] at hin;have hin:=Bx.mk hin;have d0:(w7.setCell ⟨gk,ok.val,none⟩ (.int .i64 (idT (Tr.add (Tr.setT n (Tr.kid (Tr.uni c0) (Tr.oct n ⟨px,py,pz⟩)) ⟨px,py,pz⟩ c) ts) (Tr.setT n (Tr.kid (Tr.uni c0) (Tr.oct n ⟨px,py,pz⟩)) ⟨px,py,pz⟩ c):Int))).cell? ⟨gk,0,none⟩=some (.int .i64 (idT (Tr.add (Tr.setT n (Tr.kid (Tr.uni c0) (Tr.oct n ⟨px,py,pz⟩)) ⟨px,py,pz⟩ c) ts) (chS n (Tr.uni c0) ⟨px,py,pz⟩ c 0):Int)):=by have:=hrow8.cell (i:=0) (by omega);rw [dif_pos (by omega)] at this;exact this
   have d1:(w7.setCell ⟨gk,ok.val,none⟩ (.int .i64 (idT (Tr.add (Tr.setT n (Tr.kid (Tr.uni c0) (Tr.oct n ⟨px,py,pz⟩)) ⟨px,py,pz⟩ c) ts) (Tr.setT n (Tr.kid (Tr.uni c0) (Tr.oct n ⟨px,py,pz⟩)) ⟨px,py,pz⟩ c):Int))).cell? ⟨gk,1,none⟩=some (.int .i64 (idT (Tr.add (Tr.setT n (Tr.kid (Tr.uni c0) (Tr.oct n ⟨px,py,pz⟩)) ⟨px,py,pz⟩ c) ts) (chS n (Tr.uni c0) ⟨px,py,pz⟩ c 1):Int)):=by have:=hrow8.cell (i:=1) (by omega);rw [dif_pos (by omega)] at this;exact this
   have d2:(w7.setCell ⟨gk,ok.val,none⟩ (.int .i64 (idT (Tr.add (Tr.setT n (Tr.kid (Tr.uni c0) (Tr.oct n ⟨px,py,pz⟩)) ⟨px,py,pz⟩ c) ts) (Tr.setT n (Tr.kid (Tr.uni c0) (Tr.oct n ⟨px,py,pz⟩)) ⟨px,py,pz⟩ c):Int))).cell? ⟨gk,2,none⟩=some (.int .i64 (idT (Tr.add (Tr.setT n (Tr.kid (Tr.uni c0) (Tr.oct n ⟨px,py,pz⟩)) ⟨px,py,pz⟩ c) ts) (chS n (Tr.uni c0) ⟨px,py,pz⟩ c 2):Int)):=by have:=hrow8.cell (i:=2) (by omega);rw [dif_pos (by omega)] at this;exact this
   have d3:(w7.setCell ⟨gk,ok.val,none⟩ (.int .i64 (idT (Tr.add (Tr.setT n (Tr.kid (Tr.uni c0) (Tr.oct n ⟨px,py,pz⟩)) ⟨px,py,pz⟩ c) ts) (Tr.setT n (Tr.kid (Tr.uni c0) (Tr.oct n ⟨px,py,pz⟩)) ⟨px,py,pz⟩ c):Int))).cell? ⟨gk,3,none⟩=some (.int .i64 (idT (Tr.add (Tr.setT n (Tr.kid (Tr.uni c0) (Tr.oct n ⟨px,py,pz⟩)) ⟨px,py,pz⟩ c) ts) (chS n (Tr.uni c0) ⟨px,py,pz⟩ c 3):Int)):=by have:=hrow8.cell (i:=3) (by omega);rw [dif_pos (by omega)] at this;exact this
   have d4:(w7.setCell ⟨gk,ok.val,none⟩ (.int .i64 (idT (Tr.add (Tr.setT n (Tr.kid (Tr.uni c0) (Tr.oct n ⟨px,py,pz⟩)) ⟨px,py,pz⟩ c) ts) (Tr.setT n (Tr.kid (Tr.uni c0) (Tr.oct n ⟨px,py,pz⟩)) ⟨px,py,pz⟩ c):Int))).cell? ⟨gk,4,none⟩=some (.int .i64 (idT (Tr.add (Tr.setT n (Tr.kid (Tr.uni c0) (Tr.oct n ⟨px,py,pz⟩)) ⟨px,py,pz⟩ c) ts) (chS n (Tr.uni c0) ⟨px,py,pz⟩ c 4):Int)):=by have:=hrow8.cell (i:=4) (by omega);rw [dif_pos (by omega)] at this;exact this
   have d5:(w7.setCell ⟨gk,ok.val,none⟩ (.int .i64 (idT (Tr.add (Tr.setT n (Tr.kid (Tr.uni c0) (Tr.oct n ⟨px,py,pz⟩)) ⟨px,py,pz⟩ c) ts) (Tr.setT n (Tr.kid (Tr.uni c0) (Tr.oct n ⟨px,py,pz⟩)) ⟨px,py,pz⟩ c):Int))).cell? ⟨gk,5,none⟩=some (.int .i64 (idT (Tr.add (Tr.setT n (Tr.kid (Tr.uni c0) (Tr.oct n ⟨px,py,pz⟩)) ⟨px,py,pz⟩ c) ts) (chS n (Tr.uni c0) ⟨px,py,pz⟩ c 5):Int)):=by have:=hrow8.cell (i:=5) (by omega);rw [dif_pos (by omega)] at this;exact this
   have d6:(w7.setCell ⟨gk,ok.val,none⟩ (.int .i64 (idT (Tr.add (Tr.setT n (Tr.kid (Tr.uni c0) (Tr.oct n ⟨px,py,pz⟩)) ⟨px,py,pz⟩ c) ts) (Tr.setT n (Tr.kid (Tr.uni c0) (Tr.oct n ⟨px,py,pz⟩)) ⟨px,py,pz⟩ c):Int))).cell? ⟨gk,6,none⟩=some (.int .i64 (idT (Tr.add (Tr.setT n (Tr.kid (Tr.uni c0) (Tr.oct n ⟨px,py,pz⟩)) ⟨px,py,pz⟩ c) ts) (chS n (Tr.uni c0) ⟨px,py,pz⟩ c 6):Int)):=by have:=hrow8.cell (i:=6) (by omega);rw [dif_pos (by omega)] at this;exact this
   have d7:(w7.setCell ⟨gk,ok.val,none⟩ (.int .i64 (idT (Tr.add (Tr.setT n (Tr.kid (Tr.uni c0) (Tr.oct n ⟨px,py,pz⟩)) ⟨px,py,pz⟩ c) ts) (Tr.setT n (Tr.kid (Tr.uni c0) (Tr.oct n ⟨px,py,pz⟩)) ⟨px,py,pz⟩ c):Int))).cell? ⟨gk,7,none⟩=some (.int .i64 (idT (Tr.add (Tr.setT n (Tr.kid (Tr.uni c0) (Tr.oct n ⟨px,py,pz⟩)) ⟨px,py,pz⟩ c) ts) (chS n (Tr.uni c0) ⟨px,py,pz⟩ c 7):Int)):=by have:=hrow8.cell (i:=7) (by omega);rw [dif_pos (by omega)] at this;exact this
   have cr8:=hC8.kr.cell 0 rfl;have hc7:=hrow7.cell ok.isLt;rw [dif_pos ok.isLt] at hc7;have hf7:=hrow7.frozen ok.val;have HK8:=Bx.mk hK8;have Hf:=Bx.mk hf;have Hp1:=Bx.mk hp1;have Hp2:=Bx.mk hp2;clear hG1 hm1 hg8 hS8 hgne hC7 hC8 hrow7 hrow8 hK8 hz8 hag hs hf hp1 hp2 hW hw0 hWf HO;go_wp2_with fail;refine hin.out.mono ?_;rintro e9 w9 hg
   have Hg:Bx (Grew Far sb most ts (Tr.add (Tr.setT (n+1) (Tr.uni c0) ⟨px,py,pz⟩ c) ts) (Tr.setT (n+1) (Tr.uni c0) ⟨px,py,pz⟩ c) w e9 w9):=⟨by
    refine ⟨HK8.out.trans (hg.keeps.less (fun k hk=>.inl hk)),Nat.le_trans HK8.out.size hg.size,?_⟩;rcases hg.way with ⟨h1,h2,h3⟩ | ⟨h1,h2,us,h3,h4,h5,h6⟩
    · exact .inl ⟨Tr.fits_trans Hp1.out Hp2.out Hf.out h1,h2,h3.less (fun k hk=>.inl hk)⟩
    · exact .inr ⟨Tr.not_fits_later Hp1.out Hp2.out h1,h2,us,h3,Hp1.out.trans h4,h5,h6.less (fun k hk=>.inl hk)⟩⟩
   obtain ⟨-,-,(⟨hf,rfl,hs⟩ | ⟨hf,rfl,us,hs⟩)⟩:=hg
   all_goals
    clear hf hs d0 d1 d2 d3 d4 d5 d6 d7;go_wp2_with fail
    go_ret2
    exact Hg.out
 · have Hg:Bx (Grew Far sb most ts (Tr.add (Tr.setT (n+1) (Tr.uni c0) ⟨px,py,pz⟩ c) ts) (Tr.setT (n+1) (Tr.uni c0) ⟨px,py,pz⟩ c) w (zAv 0 14) w7):=⟨by
    refine ⟨(Keeps.below hB3.out).trans (HK.out.less (fun k hk=>.inl hk)),Nat.le_trans hB3.out.size HK.out.size,.inr ⟨?_,rfl,us,hu1,hu2,hu3.trans hp2,hs.less (fun k hk=>.inl hk)⟩⟩;exact Tr.not_fits_mono hp1 hp2 hnf⟩
   clear hs hnf hu1 hu2 hu3 hp1 hp2 hW hw0 hWf HO;go_wp2_with fail
   go_ret2
   exact Hg.out
theorem zLC (w:World) (Far:Nat→Prop) (ps pc pp pb sb:Nat) (c px py pz:Int) (HC:Bx (SCtx w Far ps pc pp pb sb c px py pz)) (hc:0≤c∧c≤255) (hx:0≤px∧px≤100000) (hy:0≤py∧py≤100000) (hz:0≤pz∧pz≤100000) (ch:Fin 8→Tr) (n:Nat) (hn:n≤11) (most:Int) (ts:List Tr) (ht:(Tr.node (n+3) ch)∈ts) (hDk : ∀ i,Dep n (Tr.kid (Tr.node (n+3) ch) i)) (hG:Good ts) (hlen:(Tr.add (Tr.setT (n+1) (Tr.node (n+3) ch) ⟨px,py,pz⟩ c) ts).length≤1000000000000) (hFar : ∀ k,Far k→k<w.heap.size) (hS:StoreIs w Far sb most ts)
 (IH:Bx (∀ (W:World) (Far':Nat→Prop),SCtx W Far' ps pc pp pb sb c px py pz→(∀ k,Far' k→k<W.heap.size)→StoreIs W Far' sb most ts→Calls Tryz.prog 45 #[.int .i64 (idT ts (Tr.kid (Tr.node (n+3) ch) (Tr.oct n ⟨px,py,pz⟩)):Int),.int .i64 ((n:Int)+2),.pointer (some ⟨ps,0,none⟩),.pointer (some ⟨pc,0,none⟩),.pointer (some ⟨pp,0,none⟩),.pointer (some ⟨pb,0,none⟩)] W (Grew Far' sb most ts (Tr.add (Tr.setT n (Tr.kid (Tr.node (n+3) ch) (Tr.oct n ⟨px,py,pz⟩)) ⟨px,py,pz⟩ c) ts) (Tr.setT n (Tr.kid (Tr.node (n+3) ch) (Tr.oct n ⟨px,py,pz⟩)) ⟨px,py,pz⟩ c) W))) :
 Calls Tryz.prog 45 #[.int .i64 (idT ts (Tr.node (n+3) ch):Int),.int .i64 ((n:Int)+3),.pointer (some ⟨ps,0,none⟩),.pointer (some ⟨pc,0,none⟩),.pointer (some ⟨pp,0,none⟩),.pointer (some ⟨pb,0,none⟩)] w (Grew Far sb most ts (Tr.add (Tr.setT (n+1) (Tr.node (n+3) ch) ⟨px,py,pz⟩ c) ts) (Tr.setT (n+1) (Tr.node (n+3) ch) ⟨px,py,pz⟩ c) w):=by
 have hlt:=zEO ht;have hpre:=Tr.add_prefix (Tr.setT (n+1) (Tr.node (n+3) ch) ⟨px,py,pz⟩ c) ts;have hlen0:=Nat.le_trans hpre.length_le hlen
 have hkids:=fun W (h:StoreIs W Far sb most ts)=>zBd Far sb most ts (idT ts (Tr.node (n+3) ch)) (Tr.node (n+3) ch) (zB1 ht) (idT ts (Tr.kid (Tr.node (n+3) ch) 0):Int) (idT ts (Tr.kid (Tr.node (n+3) ch) 1):Int) (idT ts (Tr.kid (Tr.node (n+3) ch) 2):Int) (idT ts (Tr.kid (Tr.node (n+3) ch) 3):Int) (idT ts (Tr.kid (Tr.node (n+3) ch) 4):Int) (idT ts (Tr.kid (Tr.node (n+3) ch) 5):Int) (idT ts (Tr.kid (Tr.node (n+3) ch) 6):Int) (idT ts (Tr.kid (Tr.node (n+3) ch) 7):Int) (fun j u h=>by
  match j,h with
  | 0,h=>exact h
  | 1,h=>exact h
  | 2,h=>exact h
  | 3,h=>exact h
  | 4,h=>exact h
  | 5,h=>exact h
  | 6,h=>exact h
  | 7,h=>exact h
  | j+8,h=>simp at h) W h
 have hkids:=Bx.mk hkids;have hoct:=Bx.mk (fun W dd hd=>zDZ n (by omega) dd hd px py pz hx hy hz W)
 have hd:(((n:Int)+3) == 2)=false:=by simp;omega
 have HG:=Bx.mk hG;have HL:=Bx.mk hlen;have HF:=Bx.mk hFar;have HS:=Bx.mk hS;have HT:=Bx.mk ht;have HD:=Bx.mk hDk;have Hc:=Bx.mk hc;have cr0:=HC.out.kr.cell 0 rfl;clear hc hx hy hz hG hlen hFar hS ht hpre hDk;go_enter Tryz.func45,Tryz.ntmps45;go_wp2_with fail;refine (hkids.out _ HS.out).mono ?_;rintro e5 w1 ⟨rfl,hb⟩;have hB:=Bx.mk hb;have hS1:=HS.out.later hb;have hC1:=HC.out.later hb;obtain ⟨g,cap,mb,ks,-,hcn⟩:=Bx.node hS1 HT.out (k:=3) (s:=ByteArray.empty) rfl;have hd0:=hcn.out 0 _ (by omega) rfl
 have cs1:=ks.cell 1 rfl;rw [Nat.add_zero] at hd0;have al0 : ∀ o,(w1.alloc o).cell? ⟨ps,0,none⟩=some (.pointer (some ⟨sb,0,none⟩)):=fun o=>(hC1.kr.alloc o).cell 0 rfl;have al1 : ∀ o,(w1.alloc o).cell? ⟨sb,1,none⟩=some (.slice (some ⟨g,0,none⟩) ts.length cap):=fun o=>(ks.alloc o).cell 1 rfl;have al2 : ∀ o,(w1.alloc o).cell? ⟨g,idT ts (Tr.node (n+3) ch) * 12,none⟩=some (.int .i64 3):=fun o=>cell_later (zW w1 o) hd0;have al3 : ∀ o,(w1.alloc o).cell? ⟨pp,0,none⟩=some (.int .i64 px):=fun o=>(hC1.kp.alloc o).cell 0 rfl;have al4 : ∀ o,(w1.alloc o).cell? ⟨pp,1,none⟩=some (.int .i64 py):=fun o=>(hC1.kp.alloc o).cell 1 rfl;have al5 : ∀ o,(w1.alloc o).cell? ⟨pp,2,none⟩=some (.int .i64 pz):=fun o=>(hC1.kp.alloc o).cell 2 rfl;have b1:(0:Int)≤(idT ts (Tr.node (n+3) ch):Int):=by omega
 have b2:(idT ts (Tr.node (n+3) ch):Int)<(ts.length:Int):=by omega
 clear hd0 cs1 ks hcn hS1 hC1 cr0 hb;go_wp2_with fail;generalize hW2:World.alloc w1 _=W2
 have hrow0:Bx (W2.rowIs w1.heap.size 98 8 (fun j=>.int .i64 (if h:j<8 then (idT ts (Tr.kid (Tr.node (n+3) ch) ⟨j,h⟩):Int) else 0))):=⟨by
  rw [←hW2];refine World.rowIs_alloc w1 _ _ _ (fun i hi=>?_);have hi8:i<8:=hi;rcases i with _ | _ | _ | _ | _ | _ | _ | _ | i
  all_goals first | rfl | omega⟩
 have hb2:Below w1.heap.size w1 W2:=by rw [←hW2];exact zW _ _
 have hs2:W2.heap.size=w1.heap.size+1:=by rw [←hW2];simp
 have hB2:=Bx.mk (hB.out.trans (hb2.mono hB.out.size));have hgk:w.heap.size≤w1.heap.size:=hB.out.size;clear hW2 hb2 hB al0 al1 al2 al3 al4 al5 b1 b2 hkids;generalize w1.heap.size=gk at *;refine (hoct.out _ _ (by omega)).mono ?_
 rintro e6 w3 ⟨rfl,hb⟩;have hB3:=Bx.mk (hB2.out.trans (hb.mono hB2.out.size));have hrow3:=Bx.mk (hrow0.out.of_block (hb.block gk (by omega)))
 have hs3:gk<w3.heap.size:=by have:=hb.size;omega
 clear hb hrow0 hB2 hs2 hoct;have hC3:=Bx.mk ((HC.out.later hB3.out).wider (Far':=(fun x=>Far x∨(w.heap.size≤x∧x≤gk))) (fun k hk=>.inl hk));have hS3:=Bx.mk ((HS.out.widen (Far':=(fun x=>Far x∨(w.heap.size≤x∧x≤gk))) (fun k hk=>hk.imp id (fun h=>h.1))).later hB3.out);have hIH:=Bx.mk (IH.out w3.drew (fun x=>Far x∨(w.heap.size≤x∧x≤gk)) (hC3.out.far (Keeps.below (Below.refl _ _).drew)) (fun k hk=>hk.elim (fun h=>Nat.lt_of_lt_of_le (HF.out k h) hB3.out.size) (fun h=>Nat.lt_of_le_of_lt h.2 hs3)) (hS3.out.later (Below.refl _ _).drew));have HO:=Bx.mk (zDI (n:=n) (p:=⟨px,py,pz⟩) (c:=c) HG.out HT.out);generalize hok:Tr.oct n ⟨px,py,pz⟩=ok at *;have hcell:=hrow3.out.cell ok.isLt;rw [dif_pos ok.isLt] at hcell;replace hok:=Bx.mk hok;have cb0:=hC3.out.kb.cell 0 rfl;have b3:(0:Int)≤(ok.val:Int):=by omega
 have b4:(ok.val:Int)<8:=by have:=ok.isLt;omega
 have hsub:IntKind.i64.wrap ((n:Int)+3 - 1)=(n:Int)+2:=by rw [show (n:Int)+3 - 1=(n:Int)+2 by omega];exact IntWalk.i64_in _ (by omega)
 go_wp2_with fail
 go_region_held3 (fun w'=>w'.cell? ⟨pb,0,none⟩=some (.func (.func 45) #[] #[.pointer (some ⟨ps,0,none⟩),.pointer (some ⟨pc,0,none⟩),.pointer (some ⟨pp,0,none⟩),.pointer (some ⟨pb,0,none⟩)])∧w'.cell? ⟨gk,ok.val,none⟩=some (.int .i64 (idT ts (Tr.kid (Tr.node (n+3) ch) ok):Int)))
  (first | go_keep | (dsimp only;and_intros <;> assumption))
  ((go_at_call 45;refine hIH.out.mono ?_;rintro e7 w7 hg;obtain ⟨id,er,rfl,hres⟩:=hg.ends;have hkp:=(Keeps.below (Far:=(fun x=>Far x∨(w.heap.size≤x∧x≤gk))) (Below.refl w3.heap.size w3).drew).trans hg.keeps;have hrow7:=zAQ hrow3.out hkp (.inr ⟨hgk,Nat.le_refl _⟩);have cb7:=(hC3.out.far hkp).kb.cell 0 rfl;have c7:=hrow7.cell ok.isLt;rw [dif_pos ok.isLt] at c7))
 have HK:=Bx.mk hkp;clear cb0 cb7 c7 hrow7 hkp hg hIH hcell hsub;obtain ⟨way⟩:=hres;have hWf:=zCV HG.out _ HT.out;rw [←hok.out] at HO way;have hw0:=zD7 Hc.out ⟨px,py,pz⟩ n (Tr.kid (Tr.node (n+3) ch) (Tr.oct n ⟨px,py,pz⟩)) (by omega) (zCr hWf _) (HD.out _)
 have hp1:=Tr.add_prefix (Tr.setT n (Tr.kid (Tr.node (n+3) ch) (Tr.oct n ⟨px,py,pz⟩)) ⟨px,py,pz⟩ c) ts
 have hW : ∀ i,Tr.WF (chS n (Tr.node (n+3) ch) ⟨px,py,pz⟩ c i):=fun i=>by
  unfold chS;split
  · exact (zD7 Hc.out ⟨px,py,pz⟩ n _ (by omega) (zCr hWf _) (HD.out _)).1
  · exact zCr hWf i
 have hp2:=zAU (d:=n+3) (ch:=chS n (Tr.node (n+3) ch) ⟨px,py,pz⟩ c) HG.out;rw [HO.out,←zAz] at hp2;rcases way with ⟨rfl,hf,rfl,hs⟩ | ⟨rfl,rfl,hnf,us,hu1,hu2,hu3,hs⟩
 · have hG1:=zAV (Tr.setT n (Tr.kid (Tr.node (n+3) ch) (Tr.oct n ⟨px,py,pz⟩)) ⟨px,py,pz⟩ c) HG.out hw0.1
   have hm1 : ∀ i,chS n (Tr.node (n+3) ch) ⟨px,py,pz⟩ c i∈Tr.add (Tr.setT n (Tr.kid (Tr.node (n+3) ch) (Tr.oct n ⟨px,py,pz⟩)) ⟨px,py,pz⟩ c) ts:=fun i=>by
    unfold chS;split
    · rename_i e;rw [e];exact Tr.mem_add _ _
    · exact hp1.subset (zB0 HG.out HT.out i)
   have hg8:=zS w7 ⟨gk,ok.val,none⟩ (.int .i64 (idT (Tr.add (Tr.setT n (Tr.kid (Tr.node (n+3) ch) (Tr.oct n ⟨px,py,pz⟩)) ⟨px,py,pz⟩ c) ts) (Tr.setT n (Tr.kid (Tr.node (n+3) ch) (Tr.oct n ⟨px,py,pz⟩)) ⟨px,py,pz⟩ c):Int));have hS8:=hs.apart hg8 (.inr ⟨hgk,Nat.le_refl _⟩);have hgne : ∀ k,Far k→gk ≠ k:=fun k hk e=>by have:=HF.out k hk;omega
   have hC7:=(HC.out.later hB3.out).far (HK.out.less (fun k hk=>.inl hk));have hC8:=hC7.apart hg8 hgne;have hrow7:=zAQ hrow3.out HK.out (.inr ⟨hgk,Nat.le_refl _⟩)
   have hrow8:=(hrow7.set ok.val (.int .i64 (idT (Tr.add (Tr.setT n (Tr.kid (Tr.node (n+3) ch) (Tr.oct n ⟨px,py,pz⟩)) ⟨px,py,pz⟩ c) ts) (Tr.setT n (Tr.kid (Tr.node (n+3) ch) (Tr.oct n ⟨px,py,pz⟩)) ⟨px,py,pz⟩ c):Int))).congr (g:=fun j=>.int .i64 (if h:j<8 then (idT (Tr.add (Tr.setT n (Tr.kid (Tr.node (n+3) ch) (Tr.oct n ⟨px,py,pz⟩)) ⟨px,py,pz⟩ c) ts) (chS n (Tr.node (n+3) ch) ⟨px,py,pz⟩ c ⟨j,h⟩):Int) else 0)) (fun j hj=>by
    simp only [dif_pos hj];by_cases e:j=ok.val
    · rw [if_pos e];have e2:(⟨j,hj⟩:Fin 8)=Tr.oct n ⟨px,py,pz⟩:=by rw [hok.out];exact Fin.ext e
      rw [e2,zKO]
    · rw [if_neg e];have e2:(⟨j,hj⟩:Fin 8) ≠ Tr.oct n ⟨px,py,pz⟩:=by rw [hok.out];exact fun h=>e (congrArg Fin.val h)
      rw [zGn e2,zi hp1 (zB0 HG.out HT.out _)])
   have hK8:Keeps Far w (w7.setCell ⟨gk,ok.val,none⟩ (.int .i64 (idT (Tr.add (Tr.setT n (Tr.kid (Tr.node (n+3) ch) (Tr.oct n ⟨px,py,pz⟩)) ⟨px,py,pz⟩ c) ts) (Tr.setT n (Tr.kid (Tr.node (n+3) ch) (Tr.oct n ⟨px,py,pz⟩)) ⟨px,py,pz⟩ c):Int))):=((Keeps.below hB3.out).trans (HK.out.less (fun k hk=>.inl hk))).trans (Keeps.grown hg8 (fun g e hx=>by injection e with e;exact hgne _ hx e))
   have hz8:gk<(w7.setCell ⟨gk,ok.val,none⟩ (.int .i64 (idT (Tr.add (Tr.setT n (Tr.kid (Tr.node (n+3) ch) (Tr.oct n ⟨px,py,pz⟩)) ⟨px,py,pz⟩ c) ts) (Tr.setT n (Tr.kid (Tr.node (n+3) ch) (Tr.oct n ⟨px,py,pz⟩)) ⟨px,py,pz⟩ c):Int))).heap.size:=by rw [zq];exact Nat.lt_of_lt_of_le hs3 HK.out.size
   have hin:=zCG (w7.setCell ⟨gk,ok.val,none⟩ (.int .i64 (idT (Tr.add (Tr.setT n (Tr.kid (Tr.node (n+3) ch) (Tr.oct n ⟨px,py,pz⟩)) ⟨px,py,pz⟩ c) ts) (Tr.setT n (Tr.kid (Tr.node (n+3) ch) (Tr.oct n ⟨px,py,pz⟩)) ⟨px,py,pz⟩ c):Int))) (fun x=>Far x∨(w.heap.size≤x∧x≤gk)) sb most (Tr.add (Tr.setT n (Tr.kid (Tr.node (n+3) ch) (Tr.oct n ⟨px,py,pz⟩)) ⟨px,py,pz⟩ c) ts) (n+3) (by omega) (chS n (Tr.node (n+3) ch) ⟨px,py,pz⟩ c) hm1 hG1 (by have:=HL.out;have:=hp2.length_le;omega) (fun k hk=>hk.elim (fun h=>Nat.lt_of_lt_of_le (HF.out k h) hK8.size) (fun h=>Nat.lt_of_le_of_lt h.2 hz8)) hS8
   rw [show ((n+3:Nat):Int)=(n:Int)+3 by omega] at hin
   have hag:=zBJ (d:=n+3) HG.out hW;rw [HO.out,←zAz] at hag;rw [←zAz] at hin;rw [hag] at hin;have hin:=Bx.mk hin;have d0:(w7.setCell ⟨gk,ok.val,none⟩ (.int .i64 (idT (Tr.add (Tr.setT n (Tr.kid (Tr.node (n+3) ch) (Tr.oct n ⟨px,py,pz⟩)) ⟨px,py,pz⟩ c) ts) (Tr.setT n (Tr.kid (Tr.node (n+3) ch) (Tr.oct n ⟨px,py,pz⟩)) ⟨px,py,pz⟩ c):Int))).cell? ⟨gk,0,none⟩=some (.int .i64 (idT (Tr.add (Tr.setT n (Tr.kid (Tr.node (n+3) ch) (Tr.oct n ⟨px,py,pz⟩)) ⟨px,py,pz⟩ c) ts) (chS n (Tr.node (n+3) ch) ⟨px,py,pz⟩ c 0):Int)):=by have:=hrow8.cell (i:=0) (by omega);rw [dif_pos (by omega)] at this;exact this
   have d1:(w7.setCell ⟨gk,ok.val,none⟩ (.int .i64 (idT (Tr.add (Tr.setT n (Tr.kid (Tr.node (n+3) ch) (Tr.oct n ⟨px,py,pz⟩)) ⟨px,py,pz⟩ c) ts) (Tr.setT n (Tr.kid (Tr.node (n+3) ch) (Tr.oct n ⟨px,py,pz⟩)) ⟨px,py,pz⟩ c):Int))).cell? ⟨gk,1,none⟩=some (.int .i64 (idT (Tr.add (Tr.setT n (Tr.kid (Tr.node (n+3) ch) (Tr.oct n ⟨px,py,pz⟩)) ⟨px,py,pz⟩ c) ts) (chS n (Tr.node (n+3) ch) ⟨px,py,pz⟩ c 1):Int)):=by have:=hrow8.cell (i:=1) (by omega);rw [dif_pos (by omega)] at this;exact this
   have d2:(w7.setCell ⟨gk,ok.val,none⟩ (.int .i64 (idT (Tr.add (Tr.setT n (Tr.kid (Tr.node (n+3) ch) (Tr.oct n ⟨px,py,pz⟩)) ⟨px,py,pz⟩ c) ts) (Tr.setT n (Tr.kid (Tr.node (n+3) ch) (Tr.oct n ⟨px,py,pz⟩)) ⟨px,py,pz⟩ c):Int))).cell? ⟨gk,2,none⟩=some (.int .i64 (idT (Tr.add (Tr.setT n (Tr.kid (Tr.node (n+3) ch) (Tr.oct n ⟨px,py,pz⟩)) ⟨px,py,pz⟩ c) ts) (chS n (Tr.node (n+3) ch) ⟨px,py,pz⟩ c 2):Int)):=by have:=hrow8.cell (i:=2) (by omega);rw [dif_pos (by omega)] at this;exact this
   have d3:(w7.setCell ⟨gk,ok.val,none⟩ (.int .i64 (idT (Tr.add (Tr.setT n (Tr.kid (Tr.node (n+3) ch) (Tr.oct n ⟨px,py,pz⟩)) ⟨px,py,pz⟩ c) ts) (Tr.setT n (Tr.kid (Tr.node (n+3) ch) (Tr.oct n ⟨px,py,pz⟩)) ⟨px,py,pz⟩ c):Int))).cell? ⟨gk,3,none⟩=some (.int .i64 (idT (Tr.add (Tr.setT n (Tr.kid (Tr.node (n+3) ch) (Tr.oct n ⟨px,py,pz⟩)) ⟨px,py,pz⟩ c) ts) (chS n (Tr.node (n+3) ch) ⟨px,py,pz⟩ c 3):Int)):=by have:=hrow8.cell (i:=3) (by omega);rw [dif_pos (by omega)] at this;exact this
   have d4:(w7.setCell ⟨gk,ok.val,none⟩ (.int .i64 (idT (Tr.add (Tr.setT n (Tr.kid (Tr.node (n+3) ch) (Tr.oct n ⟨px,py,pz⟩)) ⟨px,py,pz⟩ c) ts) (Tr.setT n (Tr.kid (Tr.node (n+3) ch) (Tr.oct n ⟨px,py,pz⟩)) ⟨px,py,pz⟩ c):Int))).cell? ⟨gk,4,none⟩=some (.int .i64 (idT (Tr.add (Tr.setT n (Tr.kid (Tr.node (n+3) ch) (Tr.oct n ⟨px,py,pz⟩)) ⟨px,py,pz⟩ c) ts) (chS n (Tr.node (n+3) ch) ⟨px,py,pz⟩ c 4):Int)):=by have:=hrow8.cell (i:=4) (by omega);rw [dif_pos (by omega)] at this;exact this
   have d5:(w7.setCell ⟨gk,ok.val,none⟩ (.int .i64 (idT (Tr.add (Tr.setT n (Tr.kid (Tr.node (n+3) ch) (Tr.oct n ⟨px,py,pz⟩)) ⟨px,py,pz⟩ c) ts) (Tr.setT n (Tr.kid (Tr.node (n+3) ch) (Tr.oct n ⟨px,py,pz⟩)) ⟨px,py,pz⟩ c):Int))).cell? ⟨gk,5,none⟩=some (.int .i64 (idT (Tr.add (Tr.setT n (Tr.kid (Tr.node (n+3) ch) (Tr.oct n ⟨px,py,pz⟩)) ⟨px,py,pz⟩ c) ts) (chS n (Tr.node (n+3) ch) ⟨px,py,pz⟩ c 5):Int)):=by have:=hrow8.cell (i:=5) (by omega);rw [dif_pos (by omega)] at this;exact this
   have d6:(w7.setCell ⟨gk,ok.val,none⟩ (.int .i64 (idT (Tr.add (Tr.setT n (Tr.kid (Tr.node (n+3) ch) (Tr.oct n ⟨px,py,pz⟩)) ⟨px,py,pz⟩ c) ts) (Tr.setT n (Tr.kid (Tr.node (n+3) ch) (Tr.oct n ⟨px,py,pz⟩)) ⟨px,py,pz⟩ c):Int))).cell? ⟨gk,6,none⟩=some (.int .i64 (idT (Tr.add (Tr.setT n (Tr.kid (Tr.node (n+3) ch) (Tr.oct n ⟨px,py,pz⟩)) ⟨px,py,pz⟩ c) ts) (chS n (Tr.node (n+3) ch) ⟨px,py,pz⟩ c 6):Int)):=by have:=hrow8.cell (i:=6) (by omega);rw [dif_pos (by omega)] at this;exact this
   have d7:(w7.setCell ⟨gk,ok.val,none⟩ (.int .i64 (idT (Tr.add (Tr.setT n (Tr.kid (Tr.node (n+3) ch) (Tr.oct n ⟨px,py,pz⟩)) ⟨px,py,pz⟩ c) ts) (Tr.setT n (Tr.kid (Tr.node (n+3) ch) (Tr.oct n ⟨px,py,pz⟩)) ⟨px,py,pz⟩ c):Int))).cell? ⟨gk,7,none⟩=some (.int .i64 (idT (Tr.add (Tr.setT n (Tr.kid (Tr.node (n+3) ch) (Tr.oct n ⟨px,py,pz⟩)) ⟨px,py,pz⟩ c) ts) (chS n (Tr.node (n+3) ch) ⟨px,py,pz⟩ c 7):Int)):=by have:=hrow8.cell (i:=7) (by omega);rw [dif_pos (by omega)] at this;exact this
   have cr8:=hC8.kr.cell 0 rfl;have hc7:=hrow7.cell ok.isLt;rw [dif_pos ok.isLt] at hc7;have hf7:=hrow7.frozen ok.val;have HK8:=Bx.mk hK8;have Hf:=Bx.mk hf;have Hp1:=Bx.mk hp1;have Hp2:=Bx.mk hp2;clear hG1 hm1 hg8 hS8 hgne hC7 hC8 hrow7 hrow8 hK8 hz8 hag hs hf hp1 hp2 hW hw0 hWf HO;go_wp2_with fail;refine hin.out.mono ?_;rintro e9 w9 hg
   have Hg:Bx (Grew Far sb most ts (Tr.add (Tr.setT (n+1) (Tr.node (n+3) ch) ⟨px,py,pz⟩ c) ts) (Tr.setT (n+1) (Tr.node (n+3) ch) ⟨px,py,pz⟩ c) w e9 w9):=⟨by
    refine ⟨HK8.out.trans (hg.keeps.less (fun k hk=>.inl hk)),Nat.le_trans HK8.out.size hg.size,?_⟩;rcases hg.way with ⟨h1,h2,h3⟩ | ⟨h1,h2,us,h3,h4,h5,h6⟩
    · exact .inl ⟨Tr.fits_trans Hp1.out Hp2.out Hf.out h1,h2,h3.less (fun k hk=>.inl hk)⟩
    · exact .inr ⟨Tr.not_fits_later Hp1.out Hp2.out h1,h2,us,h3,Hp1.out.trans h4,h5,h6.less (fun k hk=>.inl hk)⟩⟩
   obtain ⟨-,-,(⟨hf,rfl,hs⟩ | ⟨hf,rfl,us,hs⟩)⟩:=hg
   all_goals
    clear hf hs d0 d1 d2 d3 d4 d5 d6 d7;go_wp2_with fail
    go_ret2
    exact Hg.out
 · have Hg:Bx (Grew Far sb most ts (Tr.add (Tr.setT (n+1) (Tr.node (n+3) ch) ⟨px,py,pz⟩ c) ts) (Tr.setT (n+1) (Tr.node (n+3) ch) ⟨px,py,pz⟩ c) w (zAv 0 14) w7):=⟨by
    refine ⟨(Keeps.below hB3.out).trans (HK.out.less (fun k hk=>.inl hk)),Nat.le_trans hB3.out.size HK.out.size,.inr ⟨?_,rfl,us,hu1,hu2,hu3.trans hp2,hs.less (fun k hk=>.inl hk)⟩⟩;exact Tr.not_fits_mono hp1 hp2 hnf⟩
   clear hs hnf hu1 hu2 hu3 hp1 hp2 hW hw0 hWf HO;go_wp2_with fail
   go_ret2
   exact Hg.out
end
end Go.Proofs.YtfcbajmjaifjlaaGreatDoor
