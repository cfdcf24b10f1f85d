/- Gen, CanP, ShaP, Tfn: joined by program, for one claim. -/
import Derived.Test.YtfcbajmjaifjlaaGreatM17
set_option linter.unusedVariables false
set_option linter.unusedSimpArgs false
namespace Go.Proofs.YtfcbajmjaifjlaaGreat
section
open Go.RowKit
open Oct
structure FnC (n:Nat) (f:Pt→Int):Prop where
 range : ∀ p,0≤f p∧f p≤255
 out : ∀ p,inB p (cubeB (2 ^ (n+2)))=false→f p=0
noncomputable abbrev trF (n:Nat) (f:Pt→Int):Tr:=Tr.can f n ⟨0,0,0⟩
theorem inC_of_in {n:Nat} {p:Pt} (h:inB p (cubeB (2 ^ (n+2)))=true):Tr.InC n ⟨0,0,0⟩ p:=by
 have hl:=inB_iff.1 h
 simp only [cubeB,Pt.zero] at hl
 unfold Tr.InC
 simp only [Int.zero_ediv]
 refine ⟨Int.ediv_eq_zero_of_lt (by omega) (by omega),Int.ediv_eq_zero_of_lt (by omega) (by omega),Int.ediv_eq_zero_of_lt (by omega) (by omega)⟩
theorem FnC.upd {n:Nat} {f:Pt→Int} (h:FnC n f) {p:Pt} (hI:inB p (cubeB (2 ^ (n+2)))=true) {c:Int} (hc:0≤c∧c≤255):FnC n (Tr.upd f p c):=by
 refine ⟨fun q=>?_,fun q hq=>?_⟩
 · unfold Tr.upd;split
   · exact hc
   · exact h.range q
 · unfold Tr.upd;split
   · rename_i e;rw [e,hI] at hq;cases hq
   · exact h.out q hq
theorem grid_fn {b:Box} {xs:List Int} {hcp n:Nat} (HX:GoodG b xs hcp) (hC:emptyB b=true∨containsB ⟨⟨0,0,0⟩,⟨2 ^ (n+2),2 ^ (n+2),2 ^ (n+2)⟩⟩ b=true):FnC n (cellG b xs):=by
 refine ⟨HX.range,fun p hp=>?_⟩
 cases hb:inB p b with
 | false=>unfold cellG;rw [if_neg (by simp [hb])]
 | true =>
   exfalso
   have h1:=inB_iff.1 hb
   rcases hC with hC | hC
   · have:=emptyB_iff'.1 hC
     omega
   · unfold containsB at hC
     rw [Bool.or_eq_true] at hC
     rcases hC with hC | hC
     · have:=emptyB_iff'.1 hC
       omega
     · have h2:inB p (meetB ⟨⟨0,0,0⟩,⟨2 ^ (n+2),2 ^ (n+2),2 ^ (n+2)⟩⟩ b)=true:=by rw [of_decide_eq_true hC];exact hb
       have h3:inB p (cubeB (2 ^ (n+2)))=true:=inB_iff.2 (by
        unfold meetB at h2
        split at h2
        · have:=inB_iff.1 h2
          simp only [Box.zero,Pt.zero] at this
          omega
        · have:=inB_iff.1 h2
          simp only [joinB] at this
          simp only [cubeB,Pt.zero]
          omega)
       rw [hp] at h3;cases h3
theorem get_tr {n:Nat} {f:Pt→Int} {p:Pt} (hI:inB p (cubeB (2 ^ (n+2)))=true):Tr.getT (trF n f) n p=f p:=Tr.get_can f n _ p (al_zero n) (inC_of_in hI)
theorem upd_at (f:Pt→Int) (p:Pt) (c:Int):Tr.upd f p c p=c:=if_pos rfl
theorem upd_off {f:Pt→Int} {p q:Pt} {c:Int} (h:q ≠ p):Tr.upd f p c q=f q:=if_neg h
theorem good_fn {n:Nat} {f:Pt→Int} (hn:n≤12) (hF:FnC n f) {ts:List Tr} (hG:Good ts):Good (Tr.add (trF n f) ts):=good_add _ hG (wf_can hF.range n _ (by omega))
theorem get_fn (w:World) (Far:Nat→Prop) (sb:Nat) (most:Int) (ts:List Tr) (n:Nat) (f:Pt→Int) (hn:n≤12) (hF:FnC n f) (hG:Good ts) (hlen:ts.length≤1000000000000) (ht:trF n f∈ts) (px py pz:Int) (hS:StoreIs w Far sb most ts) :
 Calls Tryz.prog 40 #[.pointer (some ⟨sb,0,none⟩),(idT ts (trF n f):Int),.int .i64 ((n:Int)+2),.agg #[px,py,pz]] w fun e w'=>e = .returned (.int .i64 (f ⟨px,py,pz⟩))∧Below w.heap.size w w':=by
 cases hI:inB ⟨px,py,pz⟩ (cubeB (2 ^ (n+2))) with
 | false =>
   rw [hF.out _ hI]
   have:=get_out w sb (idT ts (trF n f):Int) (n+2) (by omega) px py pz hI
   rwa [show ((n+2:Nat):Int)=(n:Int)+2 by omega] at this
 | true =>
   have:=get_in w Far sb most ts (trF n f) ht n hn (dep_can f n _) hG hlen px py pz hI hS
   rwa [get_tr hI] at this
end
section
open Oct
def fs (F H:Pt→Int) (pt:Nat→Pt):Nat→Pt→Int
 | 0=>F
 | i+1=>Tr.upd (fs F H pt i) (pt i) (H (pt i))
end
section
open Oct
def shf (d:Pt) (f:Pt→Int):Pt→Int:=fun o=>f ⟨d.x+o.x,d.y+o.y,d.z+o.z⟩
theorem can_shift (d:Pt) (f:Pt→Int) : ∀ (n:Nat) (b:Pt),Tr.can (shf d f) n b=Tr.can f n ⟨d.x+b.x,d.y+b.y,d.z+b.z⟩
 | 0, b => by
   unfold Tr.can
   congr 1
   apply List.map_congr_left
   intro k _
   unfold shf Tr.cellAt
   simp only [Int.add_assoc]
 | n + 1, b => by
   unfold Tr.can
   congr 1
   funext i
   rw [can_shift d f n]
   unfold Tr.cor
   simp only [Int.add_assoc]
def AlP (L:Nat) (p:Pt):Prop:=p.x % 2 ^ L=0∧p.y % 2 ^ L=0∧p.z % 2 ^ L=0
theorem corner_eq {m:Nat} {a p:Pt} (ha:Tr.Al m a) (hI:Tr.InC m a p) (hp:AlP (m+2) p):p=a:=by
 obtain ⟨a1,a2,a3⟩:=ha
 obtain ⟨i1,i2,i3⟩:=hI
 obtain ⟨p1,p2,p3⟩:=hp
 have e1:=Int.mul_ediv_add_emod p.x (2 ^ (m+2))
 have e2:=Int.mul_ediv_add_emod p.y (2 ^ (m+2))
 have e3:=Int.mul_ediv_add_emod p.z (2 ^ (m+2))
 have f1:=Int.mul_ediv_add_emod a.x (2 ^ (m+2))
 have f2:=Int.mul_ediv_add_emod a.y (2 ^ (m+2))
 have f3:=Int.mul_ediv_add_emod a.z (2 ^ (m+2))
 rw [i1,p1] at e1
 rw [i2,p2] at e2
 rw [i3,p3] at e3
 rw [a1] at f1
 rw [a2] at f2
 rw [a3] at f3
 cases p;cases a
 simp only [Pt.mk.injEq] at *
 omega
theorem partT_kid {t:Tr} {m L:Nat} {p:Pt} (hD:Dep (m+1) t) (hL:L<m+3):partT t (m+1) L p=partT (t.kid (Tr.oct m p)) m L p:=by
 cases hD with
 | uni _ c=>rw [partT_uni];exact partT_uni.symm
 | node _ ch hch=>rw [partT_node hL];rfl
theorem partT_can (f:Pt→Int) : ∀ (m L:Nat) (a p:Pt),Tr.Al m a→Tr.InC m a p→2≤L→L≤m+2→AlP L p→partT (Tr.can f m a) m L p=Tr.can f (L - 2) p
 | 0, L, a, p, ha, hI, h2, hL, hp => by
   obtain rfl:L=2:=by omega
   rw [partT_stop (by omega),corner_eq ha hI hp]
 | m + 1, L, a, p, ha, hI, h2, hL, hp => by
   by_cases h:L<m+3
   · rw [partT_kid (dep_can f (m+1) a) h]
     have e:(Tr.can f (m+1) a).kid (Tr.oct m p)=Tr.can f m (Tr.cor a m (Tr.oct m p).val):=Tr.mkInner_kid _ _ _
     rw [e]
     exact partT_can f m L _ p (Tr.al_cor ha _) (Tr.inC_step ha hI) h2 (by omega) hp
   · obtain rfl:L=m+1+2:=by omega
     rw [partT_stop (by omega),corner_eq ha hI hp]
     rfl
def cb (p:Pt) (L:Nat):Box:=⟨p,⟨p.x+2 ^ L,p.y+2 ^ L,p.z+2 ^ L⟩⟩
theorem alB_iff {L:Nat} {p:Pt}:alB L p=true ↔ AlP L p:=by unfold alB AlP;simp
end
section
open Go.RowKit
open Oct
theorem kid_in {ts:List Tr} (hG:Good ts) {t:Tr} (ht:t∈ts) (i:Fin 8):t.kid i∈ts:=by
 cases t with
 | uni c=>exact ht
 | brick l=>exact ht
 | node d ch=>exact hG.closed.2 d ch ht i
theorem can_kid (f:Pt→Int) (n:Nat) (a:Pt) (i:Fin 8):(Tr.can f (n+1) a).kid i=Tr.can f n (Tr.cor a n i.val):=Tr.mkInner_kid (n+3) (fun i:Fin 8=>Tr.can f n (Tr.cor a n i.val)) i
theorem can_kid_in {f:Pt→Int} {n:Nat} {a:Pt} {ts:List Tr} (hG:Good ts) (h:Tr.can f (n+1) a∈ts) (i:Fin 8):Tr.can f n (Tr.cor a n i.val)∈ts:=by
 rw [←can_kid];exact kid_in hG h i
theorem ins_len' (t:Tr) (ts:List Tr):(Tr.ins t ts).length≤ts.length+1:=by
 by_cases h:t∈ts
 · rw [Tr.ins_of_mem h];omega
 · rw [Tr.ins_of_not h,List.length_append,List.length_singleton];omega
theorem mkBrick_len (l:List Int) (ts:List Tr):(Tr.add (Tr.mkBrick l) ts).length≤ts.length+1:=by
 unfold Tr.mkBrick
 split
 · rw [Tr.add_uni];exact ins_len' _ _
 · rw [Tr.add_brick];exact ins_len' _ _
theorem chg_len {f f':Pt→Int} (hf : ∀ p,0≤f' p∧f' p≤255) (L:List Pt) : ∀ (n:Nat) (a:Pt) (ts us:List Tr),n≤200→Tr.Al n a→Good us→ts <+: us→Good ts→Tr.can f n a∈ts→(∀ p,Tr.InC n a p→f' p ≠ f p→p∈L) →
 (Tr.add (Tr.can f' n a) us).length≤us.length+(n+1) * cn L n a:=by
 intro n
 induction n with
 | zero =>
   intro a ts us hn ha hGu hp hG ht hL
   by_cases hc:cn L 0 a=0
   · have e:Tr.can f' 0 a=Tr.can f 0 a:=Tr.can_congr 0 a ha fun p hp=>Classical.byContradiction fun h=>by have:=cn_pos (hL p hp h) hp;omega
     rw [e,Tr.add_same _ _ (hp.subset ht)];omega
   · have:=mkBrick_len ((List.range 64).map fun k=>f' (Tr.cellAt a k)) us
     show (Tr.add (Tr.mkBrick _) us).length≤_
     omega
 | succ n ih =>
   intro a ts us hn ha hGu hp hG ht hL
   by_cases hc:cn L (n+1) a=0
   · have e:Tr.can f' (n+1) a=Tr.can f (n+1) a:=Tr.can_congr (n+1) a ha fun p hp=>Classical.byContradiction fun h=>by have:=cn_pos (hL p hp h) hp;omega
     rw [e,Tr.add_same _ _ (hp.subset ht)];omega
   · have hW : ∀ i:Fin 8,Tr.WF (Tr.can f' n (Tr.cor a n i.val)):=fun i=>wf_can hf n _ (by omega)
     have key : ∀ k,k≤8→(Tr.addK (fun i:Fin 8=>Tr.can f' n (Tr.cor a n i.val)) k us).length≤us.length+(n+1) * ((List.ofFn fun i:Fin 8=>cn L n (Tr.cor a n i.val)).take k).sum:=by
      intro k
      induction k with
      | zero=>intro _;rw [Tr.addK_zero];simp
      | succ k ihk =>
        intro hk
        rw [Tr.addK_succ _ (by omega)]
        have h2:=ihk (by omega)
        have h1:=ih (Tr.cor a n k) ts (Tr.addK (fun i:Fin 8=>Tr.can f' n (Tr.cor a n i.val)) k us) (by omega) (Tr.al_cor ha k) (good_addK hGu hW k (by omega)) (hp.trans (Tr.addK_prefix _ k (by omega) us)) hG (can_kid_in hG ht ⟨k,by omega⟩) (fun p hp h=>hL p (Tr.inC_other ha (i:=⟨k,by omega⟩) hp).2 h)
        rw [List.take_succ_eq_append_getElem (by simpa using (show k<8 by omega)),List.sum_append]
        simp only [List.getElem_ofFn,List.sum_cons,List.sum_nil,Nat.add_zero]
        rw [Nat.mul_add]
        omega
     have h8:=key 8 (Nat.le_refl _)
     rw [List.take_of_length_le (by simp)] at h8
     have hk:=Nat.mul_le_mul_left (n+1) (cn_kids n a ha L)
     have hin:(Tr.add (Tr.can f' (n+1) a) us).length≤(Tr.addK (fun i:Fin 8=>Tr.can f' n (Tr.cor a n i.val)) 8 us).length+1:=inner_len hGu
     have e:(n+1+1) * cn L (n+1) a=(n+1) * cn L (n+1) a+cn L (n+1) a:=Nat.succ_mul _ _
     omega
theorem graft_len {f f':Pt→Int} (hf : ∀ p,0≤f' p∧f' p≤255) (m:Nat) (d:Pt) (hd:Tr.Al m d) {ts:List Tr} (hG:Good ts) (hm:Tr.can f' m d∈ts) (he : ∀ p,¬Tr.InC m d p→f' p=f p) : ∀ (n:Nat) (a:Pt),n≤200→m≤n→Tr.Al n a→Tr.InC n a d→Tr.can f n a∈ts →
 (Tr.add (Tr.can f' n a) ts).length≤ts.length+n:=by
 intro n
 induction n with
 | zero =>
   intro a hn hmn ha hi ht
   obtain rfl:m=0:=by omega
   have e:d=a:=by
    have h1:=Tr.inC_zero ha hi
    have h2:=Tr.inC_zero hd (show Tr.InC 0 d d from ⟨rfl,rfl,rfl⟩)
    obtain ⟨x1,x2,x3⟩:=hi
    obtain ⟨y1,y2,y3⟩:=hd
    obtain ⟨z1,z2,z3⟩:=ha
    have e4:(2:Int) ^ (0+2)=4:=by decide
    rw [e4] at x1 x2 x3 y1 y2 y3 z1 z2 z3
    cases d;cases a
    simp only [Pt.mk.injEq] at *
    omega
   rw [←e,Tr.add_same _ _ hm];omega
 | succ n ih =>
   intro a hn hmn ha hi ht
   by_cases hmn2:m=n+1
   · subst hmn2
     have e:d=a:=by
      obtain ⟨x1,x2,x3⟩:=hi
      obtain ⟨y1,y2,y3⟩:=hd
      obtain ⟨z1,z2,z3⟩:=ha
      have key : ∀ x y m:Int,x / m=y / m→x % m=0→y % m=0→x=y:=by
       intro x y m h1 h2 h3
       have e1:=Int.mul_ediv_add_emod x m
       have e2:=Int.mul_ediv_add_emod y m
       rw [h1,h2] at e1
       rw [h3] at e2
       omega
      cases d;cases a
      simp only [Pt.mk.injEq] at *
      exact ⟨key _ _ _ x1 y1 z1,key _ _ _ x2 y2 z2,key _ _ _ x3 y3 z3⟩
     rw [←e,Tr.add_same _ _ hm];omega
   · have hW : ∀ i:Fin 8,Tr.WF (Tr.can f' n (Tr.cor a n i.val)):=fun i=>wf_can hf n _ (by omega)
     have hkid : ∀ i:Fin 8,i ≠ Tr.oct n d→Tr.can f' n (Tr.cor a n i.val)∈ts:=by
      intro i hne
      have e:Tr.can f' n (Tr.cor a n i.val)=Tr.can f n (Tr.cor a n i.val):=Tr.can_congr n _ (Tr.al_cor ha _) fun p hp=>he p fun hpd=>hne (by
       have h1:=(Tr.inC_other ha hp).1
       have h2:Tr.oct n p=Tr.oct n d:=by
        obtain ⟨x1,x2,x3⟩:=hpd
        have key : ∀ x y:Int,x / 2 ^ (m+2)=y / 2 ^ (m+2)→x / 2 ^ (n+2)=y / 2 ^ (n+2):=by
         intro x y h
         obtain ⟨k,rfl⟩ : ∃ k,n=m+k:=⟨n - m,by omega⟩
         have e2:(2:Int) ^ (m+k+2)=2 ^ (m+2) * 2 ^ k:=by rw [←Int.pow_add];congr 1;omega
         have hp:=Int.pow_pos (n:=2) (m:=m+2) (by decide)
         rw [e2,←Int.ediv_ediv_of_nonneg (by omega),←Int.ediv_ediv_of_nonneg (by omega),h]
        apply Fin.ext
        show Tr.octN n p=Tr.octN n d
        unfold Tr.octN
        rw [key _ _ x1,key _ _ x2,key _ _ x3]
       rw [h1,h2])
      rw [e];exact can_kid_in hG ht i
     have h1:=ih (Tr.cor a n (Tr.oct n d).val) (by omega) (by omega) (Tr.al_cor ha _) (Tr.inC_step ha hi) (can_kid_in hG ht _)
     have hin:(Tr.add (Tr.can f' (n+1) a) ts).length≤(Tr.addK (fun i:Fin 8=>Tr.can f' n (Tr.cor a n i.val)) 8 ts).length+1:=inner_len hG
     rw [Tr.addK_one (Tr.oct n d) hkid] at hin
     omega
theorem many_small {n:Nat} (hn:n≤3):many n≤585:=by
 have h:n=0∨n=1∨n=2∨n=3:=by omega
 rcases h with rfl | rfl | rfl | rfl <;> decide
theorem any_len {f:Pt→Int} {n:Nat} (hn:n≤3) (a:Pt) (ts:List Tr):(Tr.add (Tr.can f n a) ts).length≤ts.length+585 :=
 Nat.le_trans (add_len _ _) (Nat.add_le_add_left (Nat.le_trans (sz_can f n a) (many_small hn)) _)
abbrev wholeB (n:Nat):Box:=cubeB (2 ^ (n+2))
def fillF (n:Nat) (b:Box) (c:Int) (f:Pt→Int):Pt→Int:=fun p=>if (inB p b && inB p (wholeB n))=true then c else f p
def pasteF (n:Nat) (b:Box) (xs:List Int) (f:Pt→Int):Pt→Int:=fun p=>if (inB p b && inB p (wholeB n))=true then cellG b xs p else f p
def writeF (l:List (Pt × Int)) (f:Pt→Int):Pt→Int:=l.foldl (fun g x=>Tr.upd g x.1 x.2) f
theorem fillF_fn {n:Nat} {b:Box} {c:Int} {f:Pt→Int} (h:FnC n f) (hc:0≤c∧c≤255):FnC n (fillF n b c f):=by
 refine ⟨fun p=>?_,fun p hp=>?_⟩
 · unfold fillF;split
   · exact hc
   · exact h.range p
 · unfold fillF;rw [hp,Bool.and_false,if_neg (by decide)];exact h.out p hp
theorem pasteF_fn {n:Nat} {b:Box} {xs:List Int} {hcp:Nat} (HX:GoodG b xs hcp) {f:Pt→Int} (h:FnC n f):FnC n (pasteF n b xs f):=by
 refine ⟨fun p=>?_,fun p hp=>?_⟩
 · unfold pasteF;split
   · exact HX.range p
   · exact h.range p
 · unfold pasteF;rw [hp,Bool.and_false,if_neg (by decide)];exact h.out p hp
theorem writeF_fn {n:Nat} : ∀ {l:List (Pt × Int)} {f:Pt→Int},(∀ x∈l,inB x.1 (wholeB n)=true∧0≤x.2∧x.2≤255)→FnC n f→FnC n (writeF l f)
 | [],_,_,h=>h
 | x :: l, f, hl, h => by
   unfold writeF
   rw [List.foldl_cons]
   have hx:=hl x (by simp)
   exact writeF_fn (l:=l) (fun y hy=>hl y (by simp [hy])) (h.upd hx.1 hx.2)
theorem pts_len {b:Box} {m:Nat} (h:volB b≤(m:Int)):(ptsB b).length≤m:=by
 unfold ptsB
 rw [List.length_map,List.length_range];omega
theorem fill_len {n:Nat} {b:Box} {c:Int} {f:Pt→Int} (hn:n≤12) (h:FnC n f) (hc:0≤c∧c≤255) {ts:List Tr} (hG:Good ts) (ht:trF n f∈ts) (hv:volB b≤4000):(Tr.add (trF n (fillF n b c f)) ts).length≤ts.length+52000:=by
 have h1:=chg_len (f:=f) (fillF_fn (b:=b) h hc).range (ptsB b) n ⟨0,0,0⟩ ts ts (by omega) (al_zero n) hG (List.prefix_refl _) hG ht (fun p _ hne=>mem_pts (by
  unfold fillF at hne
  split at hne
  · rename_i hb;exact (Bool.and_eq_true _ _ ▸ hb:_∧_).1
  · exact absurd rfl hne))
 have h2:=cn_le (ptsB b) n ⟨0,0,0⟩
 have h3:=pts_len (b:=b) (m:=4000) hv
 have h6:(n+1) * cn (ptsB b) n ⟨0,0,0⟩≤13 * 4000:=Nat.mul_le_mul (by omega) (by omega)
 unfold trF
 omega
theorem paste_len {n:Nat} {b:Box} {xs:List Int} {hcp:Nat} (HX:GoodG b xs hcp) {f:Pt→Int} (hn:n≤12) (h:FnC n f) {ts:List Tr} (hG:Good ts) (ht:trF n f∈ts):(Tr.add (trF n (pasteF n b xs f)) ts).length≤ts.length+3900:=by
 have h1:=chg_len (f:=f) (pasteF_fn HX h).range (ptsB b) n ⟨0,0,0⟩ ts ts (by omega) (al_zero n) hG (List.prefix_refl _) hG ht (fun p _ hne=>mem_pts (by
  unfold pasteF at hne
  split at hne
  · rename_i hb;exact (Bool.and_eq_true _ _ ▸ hb:_∧_).1
  · exact absurd rfl hne))
 have h2:=cn_le (ptsB b) n ⟨0,0,0⟩
 have h3:(ptsB b).length≤300:=by
  unfold ptsB
  rw [List.length_map,List.length_range,←HX.len];exact HX.le
 have h6:(n+1) * cn (ptsB b) n ⟨0,0,0⟩≤13 * 300:=Nat.mul_le_mul (by omega) (by omega)
 unfold trF
 omega
theorem upds_at : ∀ (l:List (Pt × Int)) (f:Pt→Int) (p:Pt),(∀ x∈l,x.1 ≠ p)→writeF l f p=f p
 | [],_,_,_=>rfl
 | x :: l, f, p, h => by
   unfold writeF
   rw [List.foldl_cons]
   have:=upds_at l (Tr.upd f x.1 x.2) p fun y hy=>h y (by simp [hy])
   unfold writeF at this
   rw [this]
   unfold Tr.upd
   rw [if_neg (fun e=>h x (by simp) e.symm)]
theorem write_len {n:Nat} {l:List (Pt × Int)} {f:Pt→Int} (hn:n≤12) (hl : ∀ x∈l,inB x.1 (wholeB n)=true∧0≤x.2∧x.2≤255) (h:FnC n f) {ts:List Tr} (hG:Good ts) (ht:trF n f∈ts):(Tr.add (trF n (writeF l f)) ts).length≤ts.length+13 * l.length:=by
 have h1:=chg_len (f:=f) (writeF_fn hl h).range (l.map (·.1)) n ⟨0,0,0⟩ ts ts (by omega) (al_zero n) hG (List.prefix_refl _) hG ht (fun p _ hne=>Classical.byContradiction fun hp=>hne (upds_at l f p fun x hx e=>hp (List.mem_map.2 ⟨x,hx,e⟩)))
 have h2:=cn_le (l.map (·.1)) n ⟨0,0,0⟩
 rw [List.length_map] at h2
 have h6:(n+1) * cn (l.map (·.1)) n ⟨0,0,0⟩≤13 * l.length:=Nat.mul_le_mul (by omega) h2
 unfold trF
 omega
end
end Go.Proofs.YtfcbajmjaifjlaaGreat
